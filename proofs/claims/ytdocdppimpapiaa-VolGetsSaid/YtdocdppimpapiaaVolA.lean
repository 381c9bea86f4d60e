/-
  Patches: how they lie; bytes and patches held against each other; the law's own copies.
-/
import Derived.Test.YtdocdppimpapiaaFixPut
import Derived.Test.YtdocdppimpapiaaKeys
namespace Go.Proofs.Ytdocdppimpapiaa
open Go.RowKit

/-- A patch: its key, its version, its bytes. PaH: the same, its bytes a slice's header. -/
abbrev Pa := Int × Int × List Int
abbrev PaH := Int × Int × (Option Addr × Nat × Nat)
def eP (p : PaH) : List Value := [.int .u32 p.1, .int .u64 p.2.1, .slice p.2.2.1 p.2.2.2.1 p.2.2.2.2]
theorem eP_len (p : PaH) : (eP p).length = 3 := rfl
theorem eP_one (p : PaH) : ∀ u ∈ eP p, u.oneCell' = true := fun u hu => by
  simp only [eP, List.mem_cons, List.not_mem_nil, or_false] at hu
  rcases hu with rfl | rfl | rfl <;> rfl
/-- A patch's header stands for a patch; its bytes lie in blocks of which Q holds. -/
structure PaR (Q : Nat → Prop) (w : World) (h : PaH) (p : Pa) : Prop where
  key : h.1 = p.1
  ver : h.2.1 = p.2.1
  dat : Sl (eI .u8) 1 Q w h.2.2.1 h.2.2.2.1 h.2.2.2.2 p.2.2
/-- A slice of patches. -/
structure Pats (Q Q' : Nat → Prop) (w : World) (A : Option Addr) (n cap : Nat) (l : List Pa) : Prop where
  ex : ∃ hs, Sl eP 3 Q w A n cap hs ∧ Each (PaR Q' w) hs l
theorem PaR.step {Q : Nat → Prop} {w w' : World} {h : PaH} {p : Pa} (r : PaR Q w h p) (hm : ∀ k, Q k → k < w.heap.size → w'.heap[k]? = w.heap[k]?) : PaR Q w' h p := ⟨r.key, r.ver, r.dat.step hm⟩
theorem PaR.ext {Q : Nat → Prop} {w w' : World} {h : PaH} {p : Pa} (r : PaR Q w h p) (he : Ext w w') : PaR Q w' h p := ⟨r.key, r.ver, r.dat.ext he⟩
theorem PaR.mono {Q Q' : Nat → Prop} {w : World} {h : PaH} {p : Pa} (r : PaR Q w h p) (hq : ∀ k, Q k → Q' k) : PaR Q' w h p := ⟨r.key, r.ver, r.dat.mono hq⟩
theorem Pats.ext {Q Q' : Nat → Prop} {w w' : World} {A : Option Addr} {n cap : Nat} {l : List Pa} (h : Pats Q Q' w A n cap l) (he : Ext w w') : Pats Q Q' w' A n cap l := by
  obtain ⟨hs, h1, h2⟩ := h.ex
  exact ⟨hs, h1.ext he, h2.mono fun x y r => r.ext he⟩
theorem Pats.mono {Q Q' R R' : Nat → Prop} {w : World} {A : Option Addr} {n cap : Nat} {l : List Pa} (h : Pats Q Q' w A n cap l) (hq : ∀ k, Q k → R k) (hq' : ∀ k, Q' k → R' k) : Pats R R' w A n cap l := by
  obtain ⟨hs, h1, h2⟩ := h.ex
  exact ⟨hs, h1.mono hq, h2.mono fun x y r => r.mono hq'⟩
theorem Pats.len {Q Q' : Nat → Prop} {w : World} {A : Option Addr} {n cap : Nat} {l : List Pa} (h : Pats Q Q' w A n cap l) : n = l.length := by
  obtain ⟨hs, h1, h2⟩ := h.ex
  rw [h1.len, h2.length]
theorem Pats.le {Q Q' : Nat → Prop} {w : World} {A : Option Addr} {n cap : Nat} {l : List Pa} (h : Pats Q Q' w A n cap l) : n ≤ 9223372036854775807 := by
  obtain ⟨hs, h1, h2⟩ := h.ex
  exact Nat.le_trans h1.le h1.mx
/-- Patch k: where its cells are. -/
theorem Pats.get {Q Q' : Nat → Prop} {w : World} {A : Option Addr} {n cap : Nat} {l : List Pa} (h : Pats Q Q' w A n cap l) (k : Nat) (hk : k < n) :
    ∃ b off key ver B m c d, A = some ⟨b, off, none⟩ ∧ l[k]? = some (key, ver, d) ∧ Q b ∧ b < w.heap.size ∧ w.cell? ⟨b, off + k * 3, none⟩ = some (.int .u32 key) ∧ w.cell? ⟨b, off + k * 3 + 1, none⟩ = some (.int .u64 ver) ∧
      w.cell? ⟨b, off + k * 3 + 2, none⟩ = some (.slice B m c) ∧ Sl (eI .u8) 1 Q' w B m c d := by
  obtain ⟨hs, h1, h2⟩ := h.ex
  have hl : k < hs.length := by rw [← h1.len]; exact hk
  have hx : hs[k]? = some hs[k] := List.getElem?_eq_getElem hl
  obtain ⟨b, off, ha, hb, hc⟩ := h1.at_ k _ hx
  obtain ⟨p, hp, r⟩ := h2.get hx
  obtain ⟨key, ver, d⟩ := p
  have c0 := hc 0 _ rfl
  have c1 := hc 1 _ rfl
  have c2 := hc 2 _ rfl
  rw [Nat.add_zero] at c0
  exact ⟨b, off, key, ver, _, _, _, d, ha, hp, hb, World.block_lt_of_cell? w _ c0, by rw [c0]; exact congrArg (fun x => some (Value.int .u32 x)) r.key, by rw [c1]; exact congrArg (fun x => some (Value.int .u64 x)) r.ver, c2, r.dat⟩

/-- Header k: where its cells are. -/
theorem Sl.pat {Q : Nat → Prop} {w : World} {A : Option Addr} {n cap : Nat} {hs : List PaH} (h : Sl eP 3 Q w A n cap hs) (k : Nat) (hk : k < n) :
    ∃ b off key ver B m c, A = some ⟨b, off, none⟩ ∧ hs[k]? = some (key, ver, B, m, c) ∧ Q b ∧ b < w.heap.size ∧ w.cell? ⟨b, off + k * 3, none⟩ = some (.int .u32 key) ∧ w.cell? ⟨b, off + k * 3 + 1, none⟩ = some (.int .u64 ver) ∧
      w.cell? ⟨b, off + k * 3 + 2, none⟩ = some (.slice B m c) := by
  have hl : k < hs.length := by rw [← h.len]; exact hk
  have hx : hs[k]? = some hs[k] := List.getElem?_eq_getElem hl
  obtain ⟨b, off, ha, hb, hc⟩ := h.at_ k _ hx
  have c0 := hc 0 _ rfl
  rw [Nat.add_zero] at c0
  exact ⟨b, off, _, _, _, _, _, ha, hx, hb, World.block_lt_of_cell? w _ c0, c0, hc 1 _ rfl, hc 2 _ rfl⟩

def eqL (a b : List Int) : Bool := decide (a = b)
theorem eqL_ne {a b : List Int} (h : a.length ≠ b.length) : eqL a b = false := decide_eq_false fun e => h (by rw [e])

theorem take_ne {α : Type} {a b : List α} {k : Nat} {x y : α} (hx : a[k]? = some x) (hy : b[k]? = some y) (h : x ≠ y) : a ≠ b := fun e => by
  subst e
  rw [hx] at hy
  injection hy with hy
  exact h hy
theorem take_step {α : Type} {a b : List α} {k : Nat} {x : α} (h : a.take k = b.take k) (hx : a[k]? = some x) (hy : b[k]? = some x) : a.take (k + 1) = b.take (k + 1) := by
  rw [List.take_add_one, List.take_add_one, h, hx, hy]

set_option maxHeartbeats 400000 in
theorem same01_any (A B : Option Addr) (n m c d : Nat) (a b : List Int) (Q R : Nat → Prop) (w : World) (h : Sl (eI .u8) 1 Q w A n c a) (h' : Sl (eI .u8) 1 R w B m d b) :
    Calls Try.prog 26 #[.slice A n c, .slice B m d] w fun e w' => e = .returned (.bool (eqL a b)) ∧ Drawn w w' := by
  have hn := Nat.le_trans h.le h.mx
  have hm := Nat.le_trans h'.le h'.mx
  have HN := Lib.hid h.len
  have HM := Lib.hid h'.len
  have H := Lib.hid h
  have H' := Lib.hid h'
  clear h h'
  by_cases hl : n = m
  · subst hl
    have E0 : ((n : Int) != (n : Int)) = false := by simp
    go_enter Try.func26, Try.ntmps26
    go_wp2
    go_loopw [5] (fun i wr => ∃ k : Nat, k ≤ n ∧ i = .int .i64 k ∧ a.take k = b.take k ∧ Drawn w wr) (fun i _ => n - (intOf i).toNat)
    case atStart => exact ⟨0, Nat.zero_le _, rfl, rfl, Drawn.refl _⟩
    case round =>
      obtain ⟨k, hk, rfl, hab, hd⟩ := hrel
      have HAB := Lib.hid hab
      clear hab
      by_cases hlt : k < n
      · obtain ⟨b1, o1, x, rfl, hx, _, hl1, hc1⟩ := (H.out.ext hd.ext).num k hlt
        obtain ⟨b2, o2, y, rfl, hy, _, hl2, hc2⟩ := (H'.out.ext hd.ext).num k hlt
        have HX := Lib.hid hx
        have HY := Lib.hid hy
        have k0 : (0 : Int) ≤ (k : Int) := by omega
        have k1 : (k : Int) < (n : Int) := by omega
        clear hx hy
        by_cases hxy : x = y
        · subst hxy
          go_wp2
          go_quiet (fail)
          go_wp2
          refine ⟨⟨k + 1, by omega, by go_num, take_step HAB.out HX.out HY.out, hd.drewN _⟩, by simp [intOf]; omega⟩
        · have e0 : (x != y) = true := by simp [hxy]
          have E : eqL a b = false := decide_eq_false (take_ne HX.out HY.out hxy)
          clear hxy
          go_wp2
          go_quiet (fail)
          go_wp2
          go_ret
          exact ⟨ret_bool E.symm, hd.drewN _⟩
      · have hE : eqL a b = true := decide_eq_true (by
          have h1 := HAB.out
          rwa [List.take_of_length_le (by rw [← HN.out]; omega), List.take_of_length_le (by rw [← HM.out]; omega)] at h1)
        go_wp2
        go_ret
        exact ⟨ret_bool hE.symm, hd⟩
  · have E0 : ((n : Int) != (m : Int)) = true := by simp; omega
    have E : eqL a b = false := eqL_ne (by rw [← HN.out, ← HM.out]; exact hl)
    clear hl
    go_enter Try.func26, Try.ntmps26
    go_wp2
    go_ret
    exact ⟨ret_bool E.symm, Drawn.refl _⟩

set_option maxHeartbeats 400000 in
theorem cut_any (A : Option Addr) (n c k : Nat) (l : List Int) (Q : Nat → Prop) (w : World) (h : Sl (eI .u8) 1 Q w A n c l) :
    Calls Try.prog 21 #[.slice A n c, .int .i64 k] w fun e w' => ∃ A' n' c', e = .returned (.slice A' n' c') ∧ Sl (eI .u8) 1 Q w A' n' c' (l.take k) ∧ w = w' := by
  have hc := h.le
  have hm := h.mx
  have hl := h.len
  have H := Lib.hid h
  have HL := Lib.hid hl
  clear h hl
  by_cases hk : k < n
  · go_enter Try.func21, Try.ntmps21
    go_wp2
    go_ret
    exact ⟨_, _, _, rfl, H.out.take k (by omega) c (by omega) hm, rfl⟩
  · go_enter Try.func21, Try.ntmps21
    go_wp2
    go_ret
    exact ⟨_, _, _, rfl, by rw [List.take_of_length_le (by rw [← HL.out]; omega)]; exact H.out, rfl⟩
end Go.Proofs.Ytdocdppimpapiaa
