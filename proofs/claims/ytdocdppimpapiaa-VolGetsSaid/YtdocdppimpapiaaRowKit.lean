/-
  What a row hands over, as this seat's lemmas take it: bytes and numbers in slices. No function of the program.
-/
import Derived.Test.YtdocdppimpapiaaMem
import Derived.Test.YtdocdppimpapiaaFix
import Derived.ProofKit
import Derived.Carry
import Derived.Lib.SmallJoins
namespace Go.Proofs.Ytdocdppimpapiaa
open Go.ChangeShapes Go.WideShapes Go.ChangeAt Go.RowKit Go.Joins

theorem ints_sl {P : Program} {H : Type} {enc : TypeId × Value → H} {w : World} {base : Nat} {spare : Nat → Bool} {hb : Bool} {t e : TypeId} {k : IntKind} {A : Option Addr} {n c : Nat} {x : DataW H × List MemPlace}
    (ht : P.underlying t = some (.slice e)) (he : P.underlying e = some (.int k)) (hc : P.cellsOf e = 1)
    (h : ∃ fuel, DataW.trod enc P w base spare hb fuel t (Value.cells (.slice A n c)).toList = some x) :
    ∃ l, Sl (eI k) 1 (fun j => j < w.heap.size) w A n c l ∧ ∀ y ∈ l, (Lit.int k y).wf = true := by
  obtain ⟨fuel, hf⟩ := h
  rcases open_ints ht he hc hf with ⟨hcs, _⟩ | ⟨a, n', c', zs, hcs, _, hl, hm, hz, _, hcell, hwz⟩
  · simp [Value.cells] at hcs
    obtain ⟨rfl, rfl, rfl⟩ := hcs
    exact ⟨[], Sl.nil _ _ _ _ (Nat.zero_le _), fun y hy => by cases hy⟩
  · simp [Value.cells] at hcs
    obtain ⟨rfl, rfl, rfl⟩ := hcs
    have hzl : n ≤ zs.length := by rw [hz]; split <;> omega
    refine ⟨zs.take n, ⟨by rw [List.length_take]; omega, hl, Nat.le_trans hm (by decide), fun i y hy => ?_⟩, fun y hy => hwz y (List.mem_of_mem_take hy)⟩
    rw [List.getElem?_take] at hy
    split at hy
    · rename_i hi
      have h1 := hcell i (by omega)
      obtain ⟨b, off, spot⟩ := a
      have hs : spot = none := by simpa [Addr.add] using World.cell?_spot (hcell 0 (by omega))
      subst hs
      have h2 : w.cell? ⟨b, off + i, none⟩ = some (.int k y) := by
        have := h1
        rw [List.getD_eq_getElem?_getD, hy] at this
        by_cases h0 : i = 0
        · subst h0; simpa [Addr.add] using this
        · simpa [Addr.add, h0] using this
      refine ⟨b, off, rfl, World.block_lt_of_cell? w _ h2, fun j u hu => ?_⟩
      cases j with
      | zero =>
        simp only [eI, List.getElem?_cons_zero, Option.some.injEq] at hu
        subst hu
        simpa using h2
      | succ j => simp [eI] at hu
    · cases hy
theorem bt_wf {l : List Int} (h : ∀ y ∈ l, (Lit.int .u8 y).wf = true) : Bt l := fun y hy => by
  have := h y hy
  simp [Lit.wf, IntKind.min, IntKind.max, IntKind.signed, IntKind.bits] at this
  omega
end Go.Proofs.Ytdocdppimpapiaa
