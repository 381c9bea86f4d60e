/-
  A frame of small words for the walks: 'Ext w w'': nothing that lay in w has turned; closing lemmas. No Go in it. What a slice in memory reads as ('Sl': elements encoded as cells), what a call owns ('Ow'), and what a step keeps. No function of the program. Steps that keep the blocks of which P holds. No function of the program. The package fix, and what it calls: contracts. The package fix, bytes that are put: contracts. The package fix: a number, bytes, all bytes: contracts. dirs.plain and dirs.Name. Directory entries in memory; dirs.node, dirs.Check. dirs.Put: the bytes of entries.
-/
import Derived.Test.YtdocdppimpapiabDoorProg
import Derived.Below
import Derived.WalkKit
import Derived.OwnWalk
import Derived.Deep.QuietTactic
import Derived.BigQuiet
import Derived.Deep.RegionHeld3
import Derived.Deep.AppendLies
import Derived.WalkLawsBesides
import Derived.WalkSpells
import Derived.IntWalk
import Derived.Lib.Hide
import Derived.Outline
import Derived.Deep.Draws
import Derived.Laws.OwnMore
import Derived.Laws.AppendOwnNone
import Derived.Lib.AppendZeros
import Derived.Laws.BitsAllLaws
import Derived.Laws.RangeString
import Derived.Laws.RangeAny
import Derived.LoopTactic
import Derived.Lib.ConvBytes
set_option linter.unusedSimpArgs false
set_option linter.unusedVariables false
namespace Go.Proofs.YtdocdppimpapiabDoor
open Go.RowKit

/-- Nothing that lay in w has turned in w'. -/
structure Ext (w w' : World) : Prop where
  out : Below w.heap.size w w'

theorem Ext.refl (w : World) : Ext w w := ⟨Below.refl _ _⟩
theorem Ext.trans {a b c : World} (h : Ext a b) (k : Ext b c) : Ext a c := ⟨h.out.trans (k.out.mono h.out.size)⟩
theorem Ext.alloc {a b : World} (h : Ext a b) (o : Obj) : Ext a (b.alloc o) := ⟨h.out.alloc h.out.size o⟩
theorem Ext.drew {a b : World} (h : Ext a b) : Ext a b.drew := ⟨h.out.drew⟩
theorem Ext.drewN {a b : World} (h : Ext a b) (n : Nat) : Ext a (b.drewN n) := ⟨below_drewN h.out n⟩
theorem Ext.setCell {a b : World} (h : Ext a b) {p : Addr} (hp : a.heap.size ≤ p.block) (u : Value) : Ext a (b.setCell p u) := ⟨h.out.setCell hp u⟩
theorem Ext.grown {a b c : World} {row : Option Nat} (h : Ext a b) (hg : b.grownBy c row) (hr : ∀ k, row = some k → a.heap.size ≤ k) : Ext a c := ⟨h.out.grown hg h.out.size hr⟩
theorem Ext.size {a b : World} (h : Ext a b) : a.heap.size ≤ b.heap.size := h.out.size
theorem Ext.block {a b : World} (h : Ext a b) (k : Nat) (hk : k < a.heap.size) : b.heap[k]? = a.heap[k]? := h.out.block k hk
theorem ecell {W w1 : World} (hb : Ext W w1) : (∀ b o, b < W.heap.size → w1.cell? ⟨b, o, none⟩ = W.cell? ⟨b, o, none⟩) ∧ (∀ b o, b < W.heap.size → w1.frozen? ⟨b, o, none⟩ = W.frozen? ⟨b, o, none⟩) :=
  ⟨fun b o h => hb.out.cell (p := ⟨b, o, none⟩) h, fun b o h => hb.out.frozen (p := ⟨b, o, none⟩) h⟩

theorem ecell3 {W w1 : World} (hb : Ext W w1) : (∀ b o, b < W.heap.size → w1.cell? ⟨b, o, none⟩ = W.cell? ⟨b, o, none⟩) ∧ (∀ b o, b < W.heap.size → w1.frozen? ⟨b, o, none⟩ = W.frozen? ⟨b, o, none⟩) ∧ (∀ b, b < W.heap.size → b < w1.heap.size) :=
  ⟨fun b o h => hb.out.cell (p := ⟨b, o, none⟩) h, fun b o h => hb.out.frozen (p := ⟨b, o, none⟩) h, fun _ h => Nat.lt_of_lt_of_le h hb.size⟩

theorem Ext.at {a b : World} (h : Ext a b) {p : Addr} {v : Value} (hc : a.cell? p = some v) : b.cell? p = some v := by
  rw [h.out.cell (p := p) (World.block_lt_of_cell? a p hc)]; exact hc
/-- A cell of a block that has just been laid. -/
theorem cell_new (w : World) (cs : Array Value) (t j : Nat) (fr : Nat × Nat) {v : Value} (h : cs[j]? = some v) : (w.alloc (.cells cs t fr)).cell? ⟨w.heap.size, j, none⟩ = some v := by
  unfold World.cell?; simp only [heap_alloc_new]; exact h

theorem ret_bool {a b : Bool} (h : a = b) : Ending.returned (.bool a) = .returned (.bool b) := by rw [h]
theorem ret_int {k : IntKind} {a b : Int} (h : a = b) : Ending.returned (.int k a) = .returned (.int k b) := by rw [h]
theorem ret_ints {a b a' b' : Int} (h : a = a') (h' : b = b') : Ending.returned (.tuple #[.int .i64 a, .int .i64 b]) = .returned (.tuple #[.int .i64 a', .int .i64 b']) := by rw [h, h']
end Go.Proofs.YtdocdppimpapiabDoor

namespace Go.Proofs.YtdocdppimpapiabDoor
open Go.RowKit

/-- Slice A n cap reads as l: element i's cells are 'enc l[i]', in a block of which Q holds. -/
structure Sl {α : Type} (enc : α → List Value) (sz : Nat) (Q : Nat → Prop) (w : World) (A : Option Addr) (n cap : Nat) (l : List α) : Prop where
  len : n = l.length
  le : n ≤ cap
  mx : cap ≤ 9223372036854775807
  at_ : ∀ i x, l[i]? = some x → ∃ b off, A = some ⟨b, off, none⟩ ∧ Q b ∧ ∀ j u, (enc x)[j]? = some u → w.cell? ⟨b, off + i * sz + j, none⟩ = some u

section
variable {α : Type} {enc : α → List Value} {sz : Nat} {Q Q' : Nat → Prop} {w w' : World} {A : Option Addr} {n cap : Nat} {l : List α}

theorem Sl.mono (h : Sl enc sz Q w A n cap l) (hq : ∀ k, Q k → Q' k) : Sl enc sz Q' w A n cap l :=
  ⟨h.len, h.le, h.mx, fun i x hx => let ⟨b, off, ha, hb, hc⟩ := h.at_ i x hx; ⟨b, off, ha, hq b hb, hc⟩⟩

/-- Any step that keeps the blocks of which Q holds. -/
theorem Sl.step (h : Sl enc sz Q w A n cap l) (hm : ∀ k, Q k → k < w.heap.size → w'.heap[k]? = w.heap[k]?) : Sl enc sz Q w' A n cap l :=
  ⟨h.len, h.le, h.mx, fun i x hx => by
    obtain ⟨b, off, ha, hb, hc⟩ := h.at_ i x hx
    refine ⟨b, off, ha, hb, fun j u hu => ?_⟩
    have h1 := hc j u hu
    have h2 := World.block_lt_of_cell? w _ h1
    rw [World.cell?_of_block (w := w) (a := ⟨b, off + i * sz + j, none⟩) (hm b hb h2)]
    exact h1⟩

theorem Sl.ext (h : Sl enc sz Q w A n cap l) (he : Ext w w') : Sl enc sz Q w' A n cap l := h.step fun k _ hk => he.block k hk

/-- The blocks lie in w. -/
theorem Sl.inside (h : Sl enc sz Q w A n cap l) (hne : ∀ x, 0 < (enc x).length) : Sl enc sz (fun k => Q k ∧ k < w.heap.size) w A n cap l :=
  ⟨h.len, h.le, h.mx, fun i x hx => by
    obtain ⟨b, off, ha, hb, hc⟩ := h.at_ i x hx
    refine ⟨b, off, ha, ⟨hb, ?_⟩, hc⟩
    have hu : (enc x)[0]? = some ((enc x)[0]'(hne x)) := List.getElem?_eq_getElem _
    exact World.block_lt_of_cell? w _ (hc 0 _ hu)⟩

theorem Sl.grown (h : Sl enc sz Q w A n cap l) {row : Option Nat} (hg : w.grownBy w' row) (hq : ∀ k, Q k → some k ≠ row) : Sl enc sz Q w' A n cap l :=
  h.step fun k hk hlt => hg.block k hlt (hq k hk)

theorem Sl.nil (Q : Nat → Prop) (w : World) (A : Option Addr) (cap : Nat) (hc : cap ≤ 9223372036854775807) : Sl enc sz Q w A 0 cap ([] : List α) :=
  ⟨rfl, Nat.zero_le _, hc, fun i x hx => by simp at hx⟩

/-- s[k:] -/
theorem Sl.drop (h : Sl enc sz Q w A n cap l) (k : Nat) (hk : k ≤ n) :
    Sl enc sz Q w (if cap = k then A else A.map (·.add (k * sz))) (n - k) (cap - k) (l.drop k) := by
  refine ⟨by rw [List.length_drop, h.len], by have := h.le; omega, by have := h.mx; omega, fun i x hx => ?_⟩
  rw [List.getElem?_drop] at hx
  obtain ⟨b, off, ha, hb, hc⟩ := h.at_ (k + i) x hx
  have hlt : k + i < l.length := by
    rcases Nat.lt_or_ge (k + i) l.length with h1 | h1
    · exact h1
    · rw [List.getElem?_eq_none h1] at hx; cases hx
  have hne : cap ≠ k := by have := h.le; have := h.len; omega
  refine ⟨b, off + k * sz, by rw [if_neg hne, ha]; simp only [Option.map_some, Addr.add]; split <;> simp_all, hb, fun j u hu => ?_⟩
  have := hc j u hu
  rw [Nat.add_mul] at this
  rw [show off + k * sz + i * sz + j = off + (k * sz + i * sz) + j by omega]
  exact this
/-- s[:k] -/
theorem Sl.take (h : Sl enc sz Q w A n cap l) (k : Nat) (hk : k ≤ n) (c : Nat) (hc : k ≤ c) (hm : c ≤ 9223372036854775807) : Sl enc sz Q w A k c (l.take k) := by
  refine ⟨by rw [List.length_take, ← h.len]; omega, hc, hm, fun i x hx => ?_⟩
  rw [List.getElem?_take] at hx
  split at hx
  · exact h.at_ i x hx
  · cases hx
end

/-- What a call owns from block 'base' on: a row of elements of type e. -/
structure Ow {α : Type} (enc : α → List Value) (sz e base : Nat) (w : World) (A : Option Addr) (n cap : Nat) (l : List α) : Prop where
  len : n = l.length
  own : w.ownsRow base e sz (.slice A n cap) n (l.flatMap enc)

section
variable {α : Type} {enc : α → List Value} {sz e base : Nat} {w w' : World} {A : Option Addr} {n cap : Nat} {l : List α}

theorem Ow.nil (w : World) : Ow enc sz e base w none 0 0 ([] : List α) := ⟨rfl, World.ownsRow_nil _ _ _ _⟩

theorem Ow.kept (h : Ow enc sz e base w A n cap l) {row : Option Nat} (hg : w.grownBy w' row) (hne : (Value.slice A n cap).ownBlock = none ∨ (Value.slice A n cap).ownBlock ≠ row) : Ow enc sz e base w' A n cap l :=
  ⟨h.len, h.own.kept hg hne⟩
theorem Ow.alloc (h : Ow enc sz e base w A n cap l) (o : Obj) : Ow enc sz e base (w.alloc o) A n cap l := ⟨h.len, h.own.alloc o⟩
theorem Ow.lt (h : Ow enc sz e base w A n cap l) : ∀ k, (Value.slice A n cap).ownBlock = some k → base ≤ k ∧ k < w.heap.size := h.own.lt
theorem Ow.step (h : Ow enc sz e base w A n cap l) (hm : ∀ k, (Value.slice A n cap).ownBlock = some k → w'.heap[k]? = w.heap[k]?) : Ow enc sz e base w' A n cap l := by
  obtain ⟨h0, h1, h2⟩ := h
  refine ⟨h0, h1, ?_⟩
  rcases h2 with h2 | ⟨g, cap, cur, hv, hg, hh, r⟩
  · exact .inl h2
  · exact .inr ⟨g, cap, cur, hv, hg, (hm g (by rw [hv]; rfl)).trans hh, r⟩
theorem Ow.ext (h : Ow enc sz e base w A n cap l) (he : Ext w w') : Ow enc sz e base w' A n cap l := h.step fun k hk => he.block k (h.lt k hk).2

theorem flatMap_get {α β : Type} {enc : α → List β} {sz : Nat} (hsz : ∀ x, (enc x).length = sz) : ∀ (l : List α) (i : Nat) (x : α), l[i]? = some x → ∀ j u, (enc x)[j]? = some u → (l.flatMap enc)[i * sz + j]? = some u
  | [], i, x, h => by simp at h
  | y :: l, 0, x, h => fun j u hu => by
    simp only [List.getElem?_cons_zero, Option.some.injEq] at h
    subst h
    rw [List.flatMap_cons, Nat.zero_mul, Nat.zero_add, List.getElem?_append_left]
    · exact hu
    · rcases Nat.lt_or_ge j (enc y).length with h1 | h1
      · exact h1
      · rw [List.getElem?_eq_none h1] at hu; cases hu
  | y :: l, i + 1, x, h => fun j u hu => by
    rw [List.getElem?_cons_succ] at h
    have ih := flatMap_get hsz l i x h j u hu
    rw [List.flatMap_cons, List.getElem?_append_right (by rw [hsz, Nat.add_mul]; omega), hsz, show (i + 1) * sz + j - sz = i * sz + j by rw [Nat.add_mul]; omega]
    exact ih
theorem flatMap_len {α β : Type} {enc : α → List β} {sz : Nat} (hsz : ∀ x, (enc x).length = sz) (l : List α) : (l.flatMap enc).length = l.length * sz := by
  induction l with
  | nil => simp
  | cons x l ih => rw [List.flatMap_cons, List.length_append, ih, hsz, List.length_cons, Nat.add_mul]; omega

/-- What is owned, read. -/
theorem Ow.sl (h : Ow enc sz e base w A n cap l) (hsz : ∀ x, (enc x).length = sz) : Sl enc sz (fun k => base ≤ k ∧ (Value.slice A n cap).ownBlock = some k) w A n cap l := by
  obtain ⟨h0, h1, h2⟩ := h
  rcases h2 with ⟨hv, hn⟩ | ⟨g, cap', cur, hv, hg, hh, hc, hm, hs, ht⟩
  · injection hv with hA hn' hcap
    subst hA hcap
    have : l = [] := List.eq_nil_of_length_eq_zero (by omega)
    subst this hn'
    exact Sl.nil _ _ _ _ (by decide)
  · injection hv with hA hn' hcap
    subst hA hcap
    refine ⟨h0, hc, hm, fun i x hx => ⟨g, 0, rfl, ⟨hg, rfl⟩, fun j u hu => ?_⟩⟩
    have h3 := flatMap_get hsz l i x hx j u hu
    rw [Nat.zero_add]
    rw [← ht, List.getElem?_take] at h3
    split at h3
    · unfold World.cell?
      simp only [hh]
      simpa using h3
    · cases h3
end

/-- append(v, x...), v the call's own; x whatever slice reads. -/
theorem wp_app {α : Type} {enc : α → List Value} {P : Program} (w : World) {o : Oper} {a : Act} {K : Act → World → Prop} {Q : Exit → Act → World → Prop} (s x : Operand) (t : TypeId)
    (ho : o.op = .call { callee := .builtin .append, args := #[s, x], argTypes := #[t, t] })
    {e : TypeId} {z : Value} {size bytes : Nat} (hinf : (P.info? e).map (fun i => (i.zero, i.size, i.bytes)) = some (some z, size, bytes)) (ht : P.underlying t = some (.slice e))
    (hzs : z.cells.size = size) (hsz : 0 < size) (henc : ∀ x, (enc x).length = size) (hone : ∀ x, ∀ u ∈ enc x, u.oneCell' = true)
    {base : Nat} {A : Option Addr} {n cap : Nat} {l : List α} (hown : Ow enc size e base w A n cap l) (hs : a.eval s = .slice A n cap)
    {B : Option Addr} {m c : Nat} {l2 : List α} {R : Nat → Prop} (hsl : Sl enc size R w B m c l2) (hx : a.eval x = .slice B m c)
    (h63 : l.length + l2.length ≤ 1099511627776) (hbytes : (l.length + l2.length) * bytes ≤ 140737488355328) (hbase : base ≤ w.heap.size)
    (h : ∀ A' n' cap' w', Ow enc size e base w' A' n' cap' (l ++ l2) → w.grownBy w' (Value.slice A n cap).ownBlock →
      (∀ k, (Value.slice A' n' cap').ownBlock = some k → (Value.slice A n cap).ownBlock = some k ∨ k = w.heap.size) → (l ++ l2 ≠ [] → ∃ g, A' = some ⟨g, 0, none⟩) →
      K (a.put o.dst (.slice A' n' cap')) w') : o.wp P a w K Q := by
  obtain ⟨i, hi, hz, hsi, hby⟩ := info_parts hinf
  have hl := hown.len
  have hl2 := hsl.len
  cases hl2' : l2 with
  | nil =>
    subst hl2'
    have hm : m = 0 := by simpa using hl2
    subst hm
    have hrun : (Builtin.append_ #[t, t] o.type #[.slice A n cap, .slice B 0 c]).run P w = .ok (.slice A n cap) w := by
      have hfc : (Builtin.firstCells i.size 0 (.slice B 0 c)).run P w = .ok #[] w := by
        cases B <;> simp [Builtin.firstCells, loadCells, loadCellsFrom]
      have hcn : n ≤ cap := by
        rcases hown.own.2 with ⟨hv, _⟩ | ⟨g, cap', cur, hv, _, _, hc, _⟩ <;> injection hv with _ h2 h3 <;> omega
      rcases hown.own.2 with ⟨hv, hn0⟩ | ⟨g, cap', cur, hv, _, hh, hc, _⟩
      · injection hv with h1 h2 h3
        subst h1 h2 h3
        cases B <;> simp [Builtin.append_, run_underlying ht, sizeOf, typeInfo, hi, Builtin.lenOf, Builtin.firstCells, loadCells, loadCellsFrom]
      · injection hv with h1 h2 h3
        subst h1 h3
        simp [Builtin.append_, run_underlying ht, sizeOf, typeInfo, hi, Builtin.lenOf, hfc, hcn, storeCells]
    unfold Oper.wp
    simp [execOp, ho, resolve, invoke, builtin, hs, hx, hrun, Result.andThen]
    refine (h A n cap w (by simpa using hown) ⟨rfl, rfl, rfl, Nat.le_refl _, fun _ _ _ => rfl⟩ (fun k hk => .inl hk) (fun hne => ?_))
    rcases hown.own.2 with ⟨hv, hn0⟩ | ⟨g, cap', cur, hv, _, hh, hc, _⟩
    · exact absurd (List.eq_nil_of_length_eq_zero (l := l) (by omega)) (by simpa using hne)
    · injection hv with h1 h2 h3
      exact ⟨g, h1⟩
  | cons y l3 =>
    obtain ⟨b, off, hB, _, _⟩ := hsl.at_ 0 y (by rw [hl2']; rfl)
    subst hB
    have hpos : 0 < m := by rw [hl2, hl2']; simp
    refine wp_append_lies w s x t ho base e i z size bytes ht hi hz hsi hby hzs hsz (.slice A n cap) n (l.flatMap enc) hs hown.own ⟨b, off, none⟩ m c (l2.flatMap enc) hx (by rw [flatMap_len henc, hl2]) ?_ ?_ hpos
      (by rw [hl, hl2]; unfold maxLen; omega) (by rw [hl, hl2]; exact hbytes) hbase w.heap.size rfl fun g cap' w' h1 h2 h3 h4 => ?_
    · intro j u hu
      have hj : j < l2.length * size := by
        rcases Nat.lt_or_ge j (l2.flatMap enc).length with h5 | h5
        · rwa [flatMap_len henc] at h5
        · rw [List.getElem?_eq_none h5] at hu; cases hu
      have hi2 : j / size < l2.length := by rw [Nat.div_lt_iff_lt_mul hsz]; exact hj
      have hx2 : l2[j / size]? = some (l2[j / size]) := List.getElem?_eq_getElem hi2
      obtain ⟨b', off', hB', _, hc'⟩ := hsl.at_ _ _ hx2
      injection hB' with hB'
      injection hB' with hb1 hb2
      subst hb1 hb2
      have hmod : j % size < (enc l2[j / size]).length := by rw [henc]; exact Nat.mod_lt _ hsz
      have h6 := flatMap_get henc l2 (j / size) _ hx2 (j % size) _ (List.getElem?_eq_getElem hmod)
      have hdm : j / size * size + j % size = j := by rw [Nat.mul_comm]; exact Nat.div_add_mod j size
      rw [hdm] at h6
      have h7 := hc' (j % size) _ (List.getElem?_eq_getElem hmod)
      rw [Nat.add_assoc, hdm] at h7
      rw [hu] at h6
      injection h6 with h6
      rw [h6]
      simpa [Addr.add_lit] using h7
    · intro u hu
      obtain ⟨y', _, hy'⟩ := List.mem_flatMap.1 hu
      exact hone y' u hy'
    · refine h (some ⟨g, 0, none⟩) (n + m) cap' w' ⟨by rw [List.length_append, hl, hl2], by rw [List.flatMap_append]; exact h1⟩ h2 (fun k hk => ?_) (fun _ => ⟨g, rfl⟩)
      have : g = k := by simpa [Value.ownBlock] using hk
      subst this
      exact h3


theorem wpList_app {α : Type} {enc : α → List Value} {P : Program} (w : World) {ops : Array Oper} {rest : List Oper} {o : Oper} {a : Act} {Q : Exit → Act → World → Prop} (hgd : o.guard = none) (s x : Operand) (t : TypeId)
    (ho : o.op = .call { callee := .builtin .append, args := #[s, x], argTypes := #[t, t] })
    {e : TypeId} {z : Value} {size bytes : Nat} (hinf : (P.info? e).map (fun i => (i.zero, i.size, i.bytes)) = some (some z, size, bytes)) (ht : P.underlying t = some (.slice e))
    (hzs : z.cells.size = size) (hsz : 0 < size) (henc : ∀ x, (enc x).length = size) (hone : ∀ x, ∀ u ∈ enc x, u.oneCell' = true)
    {base : Nat} {A : Option Addr} {n cap : Nat} {l : List α} (hown : Ow enc size e base w A n cap l) (hs : a.eval s = .slice A n cap)
    {B : Option Addr} {m c : Nat} {l2 : List α} {R : Nat → Prop} (hsl : Sl enc size R w B m c l2) (hx : a.eval x = .slice B m c)
    (h63 : l.length + l2.length ≤ 1099511627776) (hbytes : (l.length + l2.length) * bytes ≤ 140737488355328) (hbase : base ≤ w.heap.size)
    (h : ∀ A' n' cap' w', Ow enc size e base w' A' n' cap' (l ++ l2) → w.grownBy w' (Value.slice A n cap).ownBlock →
      (∀ k, (Value.slice A' n' cap').ownBlock = some k → (Value.slice A n cap).ownBlock = some k ∨ k = w.heap.size) → (l ++ l2 ≠ [] → ∃ g, A' = some ⟨g, 0, none⟩) →
      wpList P ops Q rest (a.put o.dst (.slice A' n' cap')) w') : wpList P ops Q (o :: rest) a w :=
  wpList_plain hgd fun _ hK => wp_app w s x t ho hinf ht hzs hsz henc hone hown hs hsl hx h63 hbytes hbase fun A' n' cap' w' h1 h2 h3 h4 => hK _ _ (h A' n' cap' w' h1 h2 h3 h4)

/-- At a step of a region that draws its order. -/
theorem step_app {α : Type} {enc : α → List Value} {P : Program} (w : World) {ops : Array Oper} {o : Oper} {a : Act} {K : Act → World → Prop} {Q : Exit → Act → World → Prop} {E : Prop} (hgd : o.guard = none) (s x : Operand) (t : TypeId)
    (ho : o.op = .call { callee := .builtin .append, args := #[s, x], argTypes := #[t, t] })
    {e : TypeId} {z : Value} {size bytes : Nat} (hinf : (P.info? e).map (fun i => (i.zero, i.size, i.bytes)) = some (some z, size, bytes)) (ht : P.underlying t = some (.slice e))
    (hzs : z.cells.size = size) (hsz : 0 < size) (henc : ∀ x, (enc x).length = size) (hone : ∀ x, ∀ u ∈ enc x, u.oneCell' = true)
    {base : Nat} {A : Option Addr} {n cap : Nat} {l : List α} (hown : Ow enc size e base w A n cap l) (hs : a.eval s = .slice A n cap)
    {B : Option Addr} {m c : Nat} {l2 : List α} {R : Nat → Prop} (hsl : Sl enc size R w B m c l2) (hx : a.eval x = .slice B m c)
    (h63 : l.length + l2.length ≤ 1099511627776) (hbytes : (l.length + l2.length) * bytes ≤ 140737488355328) (hbase : base ≤ w.heap.size)
    (h : ∀ A' n' cap' w', Ow enc size e base w' A' n' cap' (l ++ l2) → w.grownBy w' (Value.slice A n cap).ownBlock →
      (∀ k, (Value.slice A' n' cap').ownBlock = some k → (Value.slice A n cap).ownBlock = some k ∨ k = w.heap.size) → (l ++ l2 ≠ [] → ∃ g, A' = some ⟨g, 0, none⟩) →
      K (a.put o.dst (.slice A' n' cap')) w') : if Region.wanted o (yielded ops a.tmps) = true then Oper.wp P o a w K Q else E := by
  rw [if_pos (by simp [Region.wanted, hgd])]
  exact wp_app w s x t ho hinf ht hzs hsz henc hone hown hs hsl hx h63 hbytes hbase h

/-- A whole number as a cell. -/
def eI (k : IntKind) (x : Int) : List Value := [.int k x]
theorem eI_len (k : IntKind) (x : Int) : (eI k x).length = 1 := rfl
theorem eI_one (k : IntKind) (x : Int) : ∀ u ∈ eI k x, u.oneCell' = true := fun u hu => by rw [List.mem_singleton.1 hu]; rfl
theorem eI_flat (k : IntKind) (l : List Int) : l.flatMap (eI k) = l.map (Value.int k) := by
  induction l with
  | nil => rfl
  | cons x l ih => rw [List.flatMap_cons, ih]; rfl
/-- Element i, its cell. -/
theorem Sl.num {k : IntKind} {Q : Nat → Prop} {w : World} {A : Option Addr} {n cap : Nat} {l : List Int} (h : Sl (eI k) 1 Q w A n cap l) (i : Nat) (hi : i < n) :
    ∃ b off x, A = some ⟨b, off, none⟩ ∧ l[i]? = some x ∧ Q b ∧ b < w.heap.size ∧ w.cell? ⟨b, off + i, none⟩ = some (.int k x) := by
  have hl : i < l.length := by rw [← h.len]; exact hi
  obtain ⟨b, off, ha, hb, hc⟩ := h.at_ i l[i] (List.getElem?_eq_getElem hl)
  have h1 := hc 0 _ rfl
  rw [Nat.mul_one, Nat.add_zero] at h1
  exact ⟨b, off, l[i], ha, List.getElem?_eq_getElem hl, hb, World.block_lt_of_cell? w _ h1, h1⟩
theorem Sl.noAddr {α : Type} {enc : α → List Value} {sz : Nat} {Q : Nat → Prop} {w : World} {n cap : Nat} {l : List α} (h : Sl enc sz Q w none n cap l) : l = [] ∧ n = 0 := by
  cases l with
  | nil => exact ⟨rfl, h.len⟩
  | cons x l => obtain ⟨b, off, ha, _⟩ := h.at_ 0 x rfl; cases ha
/-- A block that has just been laid, read as a row of its elements. -/
theorem Sl.laid {α : Type} {enc : α → List Value} {sz : Nat} (hsz : ∀ x, (enc x).length = sz) (w : World) (l : List α) (cs : Array Value) (t n : Nat) (hcs : cs.toList = l.flatMap enc) (hn : n = l.length) (hm : n ≤ 9223372036854775807) :
    Sl enc sz (fun k => k = w.heap.size) (w.alloc (.cells cs t)) (some ⟨w.heap.size, 0, none⟩) n n l :=
  ⟨hn, Nat.le_refl _, hm, fun i x hx => ⟨w.heap.size, 0, rfl, rfl, fun j u hu => by
    have h := flatMap_get hsz l i x hx j u hu
    rw [← hcs, Array.getElem?_toList] at h
    rw [Nat.zero_add]
    exact cell_new w cs t _ _ h⟩⟩
theorem Ow.laid {α : Type} {enc : α → List Value} {sz e base : Nat} (hsz : ∀ x, (enc x).length = sz) (w : World) (l : List α) (cs : Array Value) (n : Nat) (hcs : cs.toList = l.flatMap enc) (hn : n = l.length) (hm : n ≤ 1099511627776) (hb : base ≤ w.heap.size) :
    Ow enc sz e base (w.alloc (.cells cs e)) (some ⟨w.heap.size, 0, none⟩) n n l := by
  refine ⟨hn, by rw [flatMap_len hsz, hn], .inr ⟨w.heap.size, n, cs, rfl, hb, heap_alloc_new w _, Nat.le_refl _, by unfold maxLen; omega, ?_, ?_⟩⟩
  · rw [← Array.length_toList, hcs, flatMap_len hsz, hn]
  · rw [hcs, List.take_of_length_le (by rw [flatMap_len hsz, hn]; exact Nat.le_refl _)]

/-- One block of what was there may have turned. -/
def Mut (g : Nat) (w w' : World) : Prop := w.grownBy w' (some g)
theorem Mut.refl (g : Nat) (w : World) : Mut g w w := ⟨rfl, rfl, rfl, Nat.le_refl _, fun _ _ _ => rfl⟩
theorem Mut.trans {g : Nat} {a b c : World} (h : Mut g a b) (k : Mut g b c) : Mut g a c :=
  ⟨k.os.trans h.os, k.tape.trans h.tape, k.output.trans h.output, Nat.le_trans h.size k.size, fun i hi hn => (k.block i (Nat.lt_of_lt_of_le hi h.size) hn).trans (h.block i hi hn)⟩
theorem Mut.setCell {g : Nat} {a b : World} (h : Mut g a b) (j : Nat) (u : Value) : Mut g a (b.setCell ⟨g, j, none⟩ u) :=
  h.trans ⟨rfl, rfl, rfl, by simp [World.setCell], fun k _ hn => Below.heap_setCell _ _ _ _ (fun e => hn (by rw [e]))⟩
theorem Ext.mut (g : Nat) {a b : World} (h : Ext a b) : Mut g a b := ⟨h.out.os, h.out.tape, h.out.output, h.size, fun k hk _ => h.block k hk⟩
theorem Mut.ext {g : Nat} {a b c : World} (h : Ext a b) (k : Mut g b c) (hg : a.heap.size ≤ g) : Ext a c := h.grown k fun i hi => by injection hi with hi; omega
theorem Sl.mut {α : Type} {enc : α → List Value} {sz : Nat} {Q : Nat → Prop} {w w' : World} {A : Option Addr} {n cap : Nat} {l : List α} {g : Nat} (h : Sl enc sz Q w A n cap l) (hm : Mut g w w') (hq : ∀ k, Q k → k ≠ g) : Sl enc sz Q w' A n cap l :=
  h.grown hm fun k hk e => hq k hk (by injection e)

theorem heap_set (w : World) (g j : Nat) (u : Value) (cs : Array Value) (t : Nat) (fr : Nat × Nat) (h : w.heap[g]? = some (.cells cs t fr)) : (w.setCell ⟨g, j, none⟩ u).heap[g]? = some (.cells (cs.setIfInBounds j u) t fr) := by
  simp [World.setCell, Array.getElem?_modify, h]
theorem cell_of_heap {w : World} {g : Nat} {cs : Array Value} {t : Nat} {fr : Nat × Nat} (h : w.heap[g]? = some (.cells cs t fr)) (j : Nat) : w.cell? ⟨g, j, none⟩ = cs[j]? := by
  simp [World.cell?, h]
theorem free_of_heap {w : World} {g : Nat} {cs : Array Value} {t : Nat} (h : w.heap[g]? = some (.cells cs t (0, 0))) (j : Nat) : w.frozen? ⟨g, j, none⟩ = false := by
  simp [World.frozen?, h]
theorem lt_of_heap {w : World} {g : Nat} {o : Obj} (h : w.heap[g]? = some o) : g < w.heap.size := by
  rcases Nat.lt_or_ge g w.heap.size with h1 | h1
  · exact h1
  · rw [Array.getElem?_eq_none h1] at h; cases h

/-- What is owned, one element turned (whole numbers). -/
theorem Ow.set {k : IntKind} {e base g n cap : Nat} {w : World} {l : List Int} (h : Ow (eI k) 1 e base w (some ⟨g, 0, none⟩) n cap l) (j : Nat) (x : Int) :
    Ow (eI k) 1 e base (w.setCell ⟨g, j, none⟩ (.int k x)) (some ⟨g, 0, none⟩) n cap (l.set j x) ∧ w.grownBy (w.setCell ⟨g, j, none⟩ (.int k x)) (some g) := by
  obtain ⟨h1, h2⟩ := h.own.stored j (.int k x)
  refine ⟨⟨by rw [List.length_set]; exact h.len, ?_⟩, h2⟩
  rw [eI_flat, List.map_set, ← eI_flat]
  exact h1
theorem Ow.free {α : Type} {enc : α → List Value} {sz e base g n cap : Nat} {w : World} {l : List α} (h : Ow enc sz e base w (some ⟨g, 0, none⟩) n cap l) (j : Nat) : w.frozen? ⟨g, j, none⟩ = false := h.own.frozenAt j
theorem Ow.num {k : IntKind} {e base g n cap : Nat} {w : World} {l : List Int} (h : Ow (eI k) 1 e base w (some ⟨g, 0, none⟩) n cap l) (j : Nat) (hj : j < n) : ∃ x, l[j]? = some x ∧ w.cell? ⟨g, j, none⟩ = some (.int k x) := by
  obtain ⟨b, off, x, ha, hx, _, _, hc⟩ := (h.sl (eI_len k)).num j hj
  simp only [Option.some.injEq, Addr.mk.injEq] at ha
  obtain ⟨rfl, rfl, _⟩ := ha
  exact ⟨x, hx, by rw [Nat.zero_add] at hc; exact hc⟩
/-- make([]T, n), whole numbers. -/
theorem wpList_mk {P : Program} (w : World) {ops : Array Oper} {rest : List Oper} {o : Oper} {a : Act} {Q : Exit → Act → World → Prop}
    (hg : o.guard = none) (l c : Operand) (t : TypeId) (hop : o.op = Op.makeSlice t l c)
    (base : Nat) {e : TypeId} {k : IntKind} {bytes : Nat} (hinf : (P.info? e).map (fun i => (i.zero, i.size, i.bytes)) = some (some (.int k 0), 1, bytes)) (h1 : P.underlying t = some (.slice e))
    (kl kc : IntKind) (L C : Int) (n : Nat) (hl : a.eval l = .int kl L) (hc : a.eval c = .int kc C) (hL : L = (n : Int)) (hC : C = (n : Int)) (b2 : bytes * n ≤ 281474976710656) (b3 : n ≤ 9223372036854775807) (b4 : base ≤ w.heap.size)
    (hK : ∀ w', Ow (eI k) 1 e base w' (some ⟨w.heap.size, 0, none⟩) n n (List.replicate n 0) → w.grownBy w' none → w.heap.size < w'.heap.size → wpList P ops Q rest (a.put o.dst (.slice (some ⟨w.heap.size, 0, none⟩) n n)) w') :
    wpList P ops Q (o :: rest) a w := by
  obtain ⟨i, hi, hz, hsi, hby⟩ := info_parts hinf
  refine wpList_make_full w hg l c t hop base e i (.int k 0) 1 h1 hi hz hsi kl kc L C n hl hc hL hC (by rw [hby]; exact b2) (by unfold maxLen; exact b3) b4 fun w' h2 h3 => ?_
  refine hK w' ⟨by rw [List.length_replicate], ?_⟩ h3 (h2.lt _ rfl).2
  have : (List.replicate n (0 : Int)).flatMap (eI k) = (madeCells (Value.int k 0).cells (n * 1)).toList := by
    rw [eI_flat, List.map_replicate, Nat.mul_one]
    exact (toList_madeCells_one (.int k 0) n).symm
  rw [this]
  exact h2

/-- What is owned lies in no block of another type. -/
theorem Ow.ne {α : Type} {enc : α → List Value} {sz e base g t n cap : Nat} {w : World} {A : Option Addr} {l : List α} {cs : Array Value} {fr : Nat × Nat} (h : Ow enc sz e base w A n cap l) (hg : w.heap[g]? = some (.cells cs t fr)) (hte : t ≠ e) :
    ∀ k, (Value.slice A n cap).ownBlock = some k → k ≠ g := by
  intro k hk e1
  subst e1
  rcases h.own.2 with ⟨hv, _⟩ | ⟨g', cap', cur, hv, _, hh, _⟩
  · rw [hv] at hk; cases hk
  · rw [hv] at hk
    have : g' = k := by simpa [Value.ownBlock] using hk
    subst this
    rw [hh] at hg
    injection hg with hg
    injection hg with _ hg
    exact hte hg.symm

theorem heap_grown {w w' : World} {row : Option Nat} {g : Nat} {o : Obj} (h : w.heap[g]? = some o) (hg : w.grownBy w' row) (hne : row ≠ some g) : w'.heap[g]? = some o :=
  (hg.block g (lt_of_heap h) fun e => hne e.symm).trans h
theorem Ow.row_ne {α : Type} {enc : α → List Value} {sz e base g t n cap : Nat} {w : World} {A : Option Addr} {l : List α} {cs : Array Value} {fr : Nat × Nat} (h : Ow enc sz e base w A n cap l) (hg : w.heap[g]? = some (.cells cs t fr)) (hte : t ≠ e) :
    (Value.slice A n cap).ownBlock ≠ some g := fun e1 => h.ne hg hte g e1 rfl

/-- A slice's header as a cell. -/
def eH (h : Option Addr × Nat × Nat) : List Value := [.slice h.1 h.2.1 h.2.2]
theorem eH_len (h : Option Addr × Nat × Nat) : (eH h).length = 1 := rfl
theorem eH_one (h : Option Addr × Nat × Nat) : ∀ u ∈ eH h, u.oneCell' = true := fun u hu => by rw [List.mem_singleton.1 hu]; rfl
theorem Sl.head {Q : Nat → Prop} {w : World} {A : Option Addr} {n cap : Nat} {l : List (Option Addr × Nat × Nat)} (h : Sl eH 1 Q w A n cap l) (i : Nat) (hi : i < n) :
    ∃ b off x, A = some ⟨b, off, none⟩ ∧ l[i]? = some x ∧ Q b ∧ b < w.heap.size ∧ w.cell? ⟨b, off + i, none⟩ = some (.slice x.1 x.2.1 x.2.2) := by
  have hl : i < l.length := by rw [← h.len]; exact hi
  obtain ⟨b, off, ha, hb, hc⟩ := h.at_ i l[i] (List.getElem?_eq_getElem hl)
  have h1 := hc 0 _ rfl
  rw [Nat.mul_one, Nat.add_zero] at h1
  exact ⟨b, off, l[i], ha, List.getElem?_eq_getElem hl, hb, World.block_lt_of_cell? w _ h1, h1⟩
/-- Two lists, element by element. -/
structure Each {α β : Type} (R : α → β → Prop) (l : List α) (m : List β) : Prop where
  length : l.length = m.length
  all : ∀ (i : Nat) (x : α) (y : β), l[i]? = some x → m[i]? = some y → R x y
theorem Each.get {α β : Type} {R : α → β → Prop} {l : List α} {m : List β} (h : Each R l m) {i : Nat} {x : α} (hx : l[i]? = some x) : ∃ y, m[i]? = some y ∧ R x y := by
  have hi : i < m.length := by
    rcases Nat.lt_or_ge i l.length with h1 | h1
    · rw [← h.length]; exact h1
    · rw [List.getElem?_eq_none h1] at hx; cases hx
  exact ⟨m[i], List.getElem?_eq_getElem hi, h.all i x _ hx (List.getElem?_eq_getElem hi)⟩
theorem Each.nil {α β : Type} (R : α → β → Prop) : Each R ([] : List α) ([] : List β) := ⟨rfl, fun i x y hx => by simp at hx⟩
theorem Each.cons {α β : Type} {R : α → β → Prop} {l : List α} {m : List β} {x : α} {y : β} (hr : R x y) (h : Each R l m) : Each R (x :: l) (y :: m) :=
  ⟨by rw [List.length_cons, List.length_cons, h.length], fun i => by
    cases i with
    | zero => intro a b ha hb; simp only [List.getElem?_cons_zero, Option.some.injEq] at ha hb; subst ha hb; exact hr
    | succ i => intro a b ha hb; rw [List.getElem?_cons_succ] at ha hb; exact h.all i a b ha hb⟩
theorem Each.mono {α β : Type} {R R' : α → β → Prop} {l : List α} {m : List β} (h : Each R l m) (hr : ∀ x y, R x y → R' x y) : Each R' l m := ⟨h.length, fun i x y hx hy => hr x y (h.all i x y hx hy)⟩
/-- How many elements the first k lists have. -/
def totL (ls : List (List Int)) (k : Nat) : Nat := (ls.take k).flatten.length
theorem totL_zero (ls : List (List Int)) : totL ls 0 = 0 := by simp [totL]
theorem totL_next (ls : List (List Int)) {k : Nat} {l : List Int} (h : ls[k]? = some l) : totL ls (k + 1) = totL ls k + l.length := by
  unfold totL
  rw [List.take_add_one, h, Option.toList_some, List.flatten_append, List.length_append, List.flatten_singleton]
theorem totL_le (ls : List (List Int)) (k : Nat) : totL ls k ≤ ls.flatten.length := by
  unfold totL
  conv => rhs; rw [← List.take_append_drop k ls, List.flatten_append, List.length_append]
  omega
theorem totL_all (ls : List (List Int)) {k : Nat} (h : ls.length ≤ k) : totL ls k = ls.flatten.length := by
  unfold totL; rw [List.take_of_length_le h]

/-- Only draws lie between. -/
structure Drawn (w w' : World) : Prop where
  ex : ∃ q, w' = w.drewN q
theorem Drawn.refl (w : World) : Drawn w w := ⟨0, rfl⟩
theorem Drawn.drewN {a b : World} (h : Drawn a b) (n : Nat) : Drawn a (b.drewN n) := by
  obtain ⟨q, rfl⟩ := h.ex
  exact ⟨_, World.drewN_drewN _ _ _⟩
theorem Drawn.trans {a b c : World} (h : Drawn a b) (k : Drawn b c) : Drawn a c := by
  obtain ⟨q, rfl⟩ := k.ex
  exact h.drewN q
theorem Drawn.ext {a b : World} (h : Drawn a b) : Ext a b := by
  obtain ⟨q, rfl⟩ := h.ex
  exact (Ext.refl _).drewN q
/-- A callee that only draws, in a region that draws. -/
theorem quietD {P : Program} {f : FuncId} {args : Array Value} {w : World} {n : Nat} {v : Value} (h : Calls P f args (w.drewN n) fun e w' => e = .returned v ∧ Drawn (w.drewN n) w') :
    Calls P f args (w.drewN n) fun e w'' => e = .returned v ∧ ∃ m, w'' = w.drewN m :=
  Calls.quiet_of (h.mono fun _ _ ⟨he, hd⟩ => ⟨he, hd.ex⟩)

/-- A reading over elder blocks, said of another world over the same elder one. -/
theorem Sl.via {α : Type} {enc : α → List Value} {sz : Nat} {Q : Nat → Prop} {a b c : World} {A : Option Addr} {n cap : Nat} {l : List α} (h : Sl enc sz (fun k => Q k ∧ k < a.heap.size) b A n cap l) (e1 : Ext a b) (e2 : Ext a c) : Sl enc sz Q c A n cap l :=
  (h.step (w' := c) fun k hk _ => (e2.block k hk.2).trans (e1.block k hk.2).symm).mono fun _ hk => hk.1
theorem Sl.in' {k : IntKind} {Q : Nat → Prop} {w : World} {A : Option Addr} {n cap : Nat} {l : List Int} (h : Sl (eI k) 1 Q w A n cap l) : Sl (eI k) 1 (fun j => Q j ∧ j < w.heap.size) w A n cap l :=
  h.inside fun _ => Nat.zero_lt_one

theorem Ext.heap {a b : World} (h : Ext a b) {g : Nat} {o : Obj} (hh : a.heap[g]? = some o) : b.heap[g]? = some o := (h.block g (lt_of_heap hh)).trans hh
/-- The second of two new blocks. -/
theorem heap_new2 (w : World) (x y : Obj) : ((w.alloc x).alloc y).heap[w.heap.size + 1]? = some y := by
  have h := heap_alloc_new (w.alloc x) y
  rwa [World.size_alloc] at h

theorem cell_drew (w : World) (a : Addr) : w.drew.cell? a = w.cell? a := rfl
theorem cell_new' (w : World) (g : Nat) (hg : w.heap.size = g) (cs : Array Value) (t j : Nat) (fr : Nat × Nat) {v : Value} (h : cs[j]? = some v) : (w.alloc (.cells cs t fr)).cell? ⟨g, j, none⟩ = some v := by
  subst hg
  exact cell_new w cs t j fr h

theorem Ow.mut {α : Type} {enc : α → List Value} {sz e base g n cap : Nat} {w w' : World} {A : Option Addr} {l : List α} (h : Ow enc sz e base w A n cap l) (hm : Mut g w w') (hg : g < base) : Ow enc sz e base w' A n cap l :=
  h.step fun k hk => hm.block k (h.lt k hk).2 fun e1 => by have := (h.lt k hk).1; injection e1 with e1; omega

theorem Sl.old {α : Type} {enc : α → List Value} {sz : Nat} {a b c : World} {A : Option Addr} {n cap : Nat} {l : List α} (h : Sl enc sz (fun k => k < a.heap.size) b A n cap l) (e1 : Ext a b) (e2 : Ext a c) : Sl enc sz (fun k => k < a.heap.size) c A n cap l :=
  h.step (w' := c) fun k hk _ => (e2.block k hk).trans (e1.block k hk).symm

theorem Mut.setNew {g : Nat} {a b : World} (h : Mut g a b) {p : Addr} (hp : a.heap.size ≤ p.block) (u : Value) : Mut g a (b.setCell p u) :=
  ⟨h.os, h.tape, h.output, by rw [World.size_setCell]; exact h.size, fun k hk hn => (Below.heap_setCell _ _ _ _ (by omega)).trans (h.block k hk hn)⟩
end Go.Proofs.YtdocdppimpapiabDoor

namespace Go.Proofs.YtdocdppimpapiabDoor
open Go.RowKit

/-- The blocks of a of which P holds lie in b as they lay. -/
structure Kp (P : Nat → Prop) (a b : World) : Prop where
  size : a.heap.size ≤ b.heap.size
  block : ∀ k, P k → k < a.heap.size → b.heap[k]? = a.heap[k]?
theorem Kp.refl (P : Nat → Prop) (a : World) : Kp P a a := ⟨Nat.le_refl _, fun _ _ _ => rfl⟩
theorem Kp.trans {P : Nat → Prop} {a b c : World} (h : Kp P a b) (k : Kp P b c) : Kp P a c := ⟨Nat.le_trans h.size k.size, fun i hp hi => (k.block i hp (Nat.lt_of_lt_of_le hi h.size)).trans (h.block i hp hi)⟩
theorem Kp.ext {P : Nat → Prop} {a b c : World} (h : Kp P a b) (e : Ext b c) : Kp P a c := h.trans ⟨e.size, fun i _ hi => e.block i hi⟩
theorem Kp.alloc {P : Nat → Prop} {a b : World} (h : Kp P a b) (o : Obj) : Kp P a (b.alloc o) := h.ext ((Ext.refl _).alloc o)
theorem Kp.drew {P : Nat → Prop} {a b : World} (h : Kp P a b) : Kp P a b.drew := h.ext ((Ext.refl _).drew)
theorem Kp.drewN {P : Nat → Prop} {a b : World} (h : Kp P a b) (n : Nat) : Kp P a (b.drewN n) := h.ext ((Ext.refl _).drewN n)
theorem Kp.setCell {P : Nat → Prop} {a b : World} (h : Kp P a b) {p : Addr} (u : Value) (hp : ∀ k, P k → k < a.heap.size → k ≠ p.block) : Kp P a (b.setCell p u) :=
  ⟨by rw [World.size_setCell]; exact h.size, fun i hi hl => (Below.heap_setCell _ _ _ _ (hp i hi hl)).trans (h.block i hi hl)⟩
theorem Sl.kp {α : Type} {enc : α → List Value} {sz : Nat} {Q : Nat → Prop} {w w' : World} {A : Option Addr} {n cap : Nat} {l : List α} (h : Sl enc sz Q w A n cap l) (hk : Kp Q w w') : Sl enc sz Q w' A n cap l := h.step fun k hq hl => hk.block k hq hl
theorem Ext.free' {a b : World} (h : Ext a b) {p : Addr} (hf : a.frozen? p = false) (hl : p.block < a.heap.size) : b.frozen? p = false := by
  rw [h.out.frozen (p := p) hl]; exact hf
/-- Whatever a cell holds. -/
def rv (W : World) (p : Addr) : Value := (W.cell? p).getD (.int .i64 0)
theorem rv_of {W : World} {p : Addr} {v : Value} (h : W.cell? p = some v) : W.cell? p = some (rv W p) := by unfold rv; rw [h]; rfl
theorem Ext.rv {a b : World} (h : Ext a b) {p : Addr} (hc : a.cell? p = some (rv a p)) : b.cell? p = some (Go.Proofs.YtdocdppimpapiabDoor.rv b p) := rv_of (h.at hc)
theorem rv_set {W : World} {p q : Addr} {u : Value} (h : W.cell? p = some (rv W p)) : (W.setCell q u).cell? p = some (rv (W.setCell q u) p) := by
  obtain ⟨v', hv⟩ := cell?_setCell_some (w := W) (p := q) (x := u) (q := p) (v := rv W p) h
  exact rv_of hv
end Go.Proofs.YtdocdppimpapiabDoor

namespace Go.Proofs.YtdocdppimpapiabDoor
open Go.RowKit

theorem info_u8 : (Tryd.prog.info? 5).map (fun i => (i.zero, i.size, i.bytes)) = some (some (.int .u8 0), 1, 1) := by kernel_rfl

/-- A slice that comes back, in memory that the call may have laid. -/
def RetSl {α : Type} (enc : α → List Value) (sz : Nat) (l : List α) (w : World) (e : Ending) (w' : World) : Prop :=
  ∃ A n cap, e = .returned (.slice A n cap) ∧ Sl enc sz (fun k => w.heap.size ≤ k) w' A n cap l ∧ Ext w w'

set_option maxHeartbeats 400000 in
theorem cloneB_any (A : Option Addr) (n cap : Nat) (l : List Int) (Q : Nat → Prop) (w : World) (h : Sl (eI .u8) 1 Q w A n cap l) (hl : l.length ≤ 1048576) :
    Calls Tryd.prog 57 #[.slice A n cap] w (RetSl (eI .u8) 1 l w) := by
  have qn := fun (w : World) (a : Option Addr) (n c : Nat) => Lib.run_eql_slice_nil (P := Tryd.prog) w 29 5 a n c 0 0 Tryd.underlying29
  cases A with
  | none =>
    obtain ⟨rfl, rfl⟩ := h.noAddr
    go_enter Tryd.func57, Tryd.ntmps57
    go_wp2
    go_ret
    exact ⟨none, 0, 0, rfl, Sl.nil _ _ _ _ (by decide), Ext.refl _⟩
  | some a =>
    have H := Lib.hid h
    clear h
    go_enter Tryd.func57, Tryd.ntmps57
    go_wp2_with (at_builtin; refine wpList_app _ rfl _ _ 29 rfl info_u8 Tryd.underlying29 rfl (by decide) (eI_len _) (eI_one _) (Ow.laid (base := w.heap.size) (eI_len _) w [] #[] 0 rfl rfl (by decide) (Nat.le_refl _)) rfl (H.out.ext ((Ext.refl _).alloc _)) rfl (by simp; omega) (by simp; omega) (by simp) ?_; intro A' n' cap' w' hO hg _ _)
    go_ret
    refine ⟨A', n', cap', rfl, (hO.sl (eI_len _)).mono fun k hk => hk.1, Ext.grown ((Ext.refl _).alloc _) hg fun k hk => ?_⟩
    have : w.heap.size = k := by simpa [Value.ownBlock] using hk
    omega

def numB (l : List Int) : Int := l.foldl (fun n c => n * 256 + c) 0
theorem numB_snoc (l : List Int) (c : Int) : numB (l ++ [c]) = numB l * 256 + c := by simp [numB]
def Bt (l : List Int) : Prop := ∀ x ∈ l, 0 ≤ x ∧ x < 256
theorem snoc_ind {α : Type} {P : List α → Prop} (h0 : P []) (h1 : ∀ l x, P l → P (l ++ [x])) : ∀ l, P l := by
  intro l
  rw [← List.reverse_reverse l]
  induction l.reverse with
  | nil => exact h0
  | cons x l ih => rw [List.reverse_cons]; exact h1 _ _ ih
theorem numB_bd : ∀ (l : List Int), Bt l → 0 ≤ numB l ∧ numB l < 256 ^ l.length := by
  refine snoc_ind (fun _ => by simp [numB]) fun l c ih => ?_
  · intro h
    have h1 := ih (fun x hx => h x (by simp [hx]))
    have h2 := h c (by simp)
    rw [numB_snoc, List.length_append, List.length_singleton, Int.pow_succ]
    omega

theorem wrap_u64 {x : Int} (h0 : 0 ≤ x) (h1 : x < 18446744073709551616) : IntKind.u64.wrap x = x := by
  simp [IntKind.wrap, IntKind.signed, IntKind.bits]; omega
theorem or_byte {a x : Int} (h0 : 0 ≤ a) (h1 : a < 72057594037927936) (h2 : 0 ≤ x) (h3 : x < 256) : bits .or .u64 (IntKind.u64.wrap (a * 256)) (IntKind.u64.wrap x) = a * 256 + x := by
  rw [wrap_u64 (by omega) (by omega), wrap_u64 (by omega) (by omega), u64_or _ _ (by omega) (by omega) (by omega) (by omega)]
  have h := Nat.shiftLeft_add_eq_or_of_lt (i := 8) (b := x.toNat) (by omega) a.toNat
  rw [Nat.shiftLeft_eq] at h
  rw [show (a * 256).toNat = a.toNat * 2 ^ 8 by omega, ← h]
  omega
theorem numB_lt {l : List Int} (h : Bt l) (hl : l.length ≤ 7) : numB l < 72057594037927936 := by
  have h1 := (numB_bd l h).2
  have h2 : l.length = 0 ∨ l.length = 1 ∨ l.length = 2 ∨ l.length = 3 ∨ l.length = 4 ∨ l.length = 5 ∨ l.length = 6 ∨ l.length = 7 := by omega
  rcases h2 with h2 | h2 | h2 | h2 | h2 | h2 | h2 | h2 <;> rw [h2] at h1 <;> omega
theorem numB_next {l : List Int} (hb : Bt l) {k : Nat} {x : Int} (hx : l[k]? = some x) (hk : k ≤ 7) :
    bits .or .u64 (IntKind.u64.wrap (numB (l.take k) * 256)) (IntKind.u64.wrap x) = numB (l.take (k + 1)) := by
  have hkl : k < l.length := by
    rcases Nat.lt_or_ge k l.length with h1 | h1
    · exact h1
    · rw [List.getElem?_eq_none h1] at hx; cases hx
  have ht : Bt (l.take k) := fun y hy => hb y (List.mem_of_mem_take hy)
  have hxx := hb x (List.mem_of_getElem? hx)
  rw [or_byte (numB_bd _ ht).1 (numB_lt ht (by rw [List.length_take]; omega)) hxx.1 hxx.2, List.take_add_one, hx, Option.toList_some, numB_snoc]

set_option maxHeartbeats 400000 in
theorem number_any (A : Option Addr) (n cap : Nat) (l : List Int) (Q : Nat → Prop) (w : World) (h : Sl (eI .u8) 1 Q w A n cap l) (hl : l.length ≤ 8) (hb : Bt l) :
    Calls Tryd.prog 80 #[.slice A n cap] w fun e w' => e = .returned (.int .u64 (numB l)) ∧ w = w' := by
  have hn : n ≤ 8 := by rw [h.len]; exact hl
  have H := Lib.hid h
  have HB := Lib.hid hb
  clear h hb
  go_enter Tryd.func80, Tryd.ntmps80
  go_wp2
  go_loop [3, 8] (fun s i => ∃ k : Nat, k ≤ n ∧ i = .int .i64 k ∧ s = .int .u64 (numB (l.take k))) (fun _ i => n - (intOf i).toNat)
  case atStart => exact ⟨0, Nat.zero_le _, rfl, rfl⟩
  case round =>
    obtain ⟨k, hk, rfl, rfl⟩ := hrel
    by_cases hlt : k < n
    · obtain ⟨b, off, x, rfl, hx, _, hbl, hc⟩ := H.out.num k hlt
      have hX := Lib.hid hx
      clear hx
      go_wp2
      refine ⟨⟨k + 1, by omega, by go_num, ?_⟩, by simp [intOf]; omega⟩
      rw [numB_next HB.out hX.out (by omega)]
    · go_wp2
      go_ret
      have h := H.out
      exact ⟨ret_int (by rw [List.take_of_length_le (by rw [← h.len]; omega)]), rfl⟩

/-- A reader at block g: what is left, and what went wrong. -/
structure InAt (R : Nat → Prop) (w : World) (g : Nat) (l : List Int) (er : Int) : Prop where
  ex : ∃ A n cap, w.heap[g]? = some (.cells #[.slice A n cap, .int .i64 er] 92 (0, 0)) ∧ Sl (eI .u8) 1 (fun k => k ≠ g ∧ R k) w A n cap l
  bt : Bt l
theorem Bt.nil : Bt [] := fun x h => by cases h
theorem Bt.take {l : List Int} (h : Bt l) (k : Nat) : Bt (l.take k) := fun x hx => h x (List.mem_of_mem_take hx)
theorem Bt.drop {l : List Int} (h : Bt l) (k : Nat) : Bt (l.drop k) := fun x hx => h x (List.mem_of_mem_drop hx)
theorem InAt.mut {R : Nat → Prop} {w w' : World} {g : Nat} {l : List Int} {er : Int} (i : InAt R w g l er) (hm : w'.heap[g]? = w.heap[g]?) (hk : ∀ k, k ≠ g → R k → k < w.heap.size → w'.heap[k]? = w.heap[k]?) : InAt R w' g l er := by
  obtain ⟨A, n, cap, h1, h2⟩ := i.ex
  exact ⟨⟨A, n, cap, hm.trans h1, h2.step fun k h => hk k h.1 h.2⟩, i.bt⟩
theorem InAt.lt {R : Nat → Prop} {w : World} {g : Nat} {l : List Int} {er : Int} (i : InAt R w g l er) : g < w.heap.size := by
  obtain ⟨A, n, cap, h1, h2⟩ := i.ex
  exact lt_of_heap h1
theorem InAt.ext {R : Nat → Prop} {w w' : World} {g : Nat} {l : List Int} {er : Int} (i : InAt R w g l er) (he : Ext w w') : InAt R w' g l er := i.mut (he.block g i.lt) fun k _ _ hk => he.block k hk

/-- No result; the reader at g is so. -/
def InDone (R : Nat → Prop) (g : Nat) (w : World) (l : List Int) (er : Int) (v : Value) (e : Ending) (w' : World) : Prop := e = .returned v ∧ InAt R w' g l er ∧ Mut g w w'

set_option maxHeartbeats 400000 in
theorem ifail_any {R : Nat → Prop} (g : Nat) (l : List Int) (c : Int) (w : World) (h : InAt R w g l 0) :
    Calls Tryd.prog 59 #[.pointer (some ⟨g, 0, none⟩), .int .i64 c] w (InDone R g w [] c (.tuple #[])) := by
  obtain ⟨A, n, cap, h1, h2⟩ := h.ex
  have c0 := cell_of_heap h1 0
  have c1 := cell_of_heap h1 1
  have f0 := free_of_heap h1 0
  have f1 := free_of_heap h1 1
  simp only [List.getElem?_toArray, List.getElem?_cons_zero, List.getElem?_cons_succ] at c0 c1
  have H1 := Lib.hid h1
  clear h h1 h2
  go_enter Tryd.func59, Tryd.ntmps59
  go_wp2
  go_end0
  refine ⟨rfl, ⟨⟨_, _, _, ?_, Sl.nil _ _ none 0 (by decide)⟩, Bt.nil⟩, ((Mut.refl _ _).setCell _ _).setCell _ _⟩
  rw [heap_set _ _ _ _ _ _ _ (heap_set _ _ _ _ _ _ _ H1.out)]
  rfl

set_option maxHeartbeats 400000 in
theorem next_bad {R : Nat → Prop} (g : Nat) (l : List Int) (er : Int) (k : Nat) (w : World) (h : InAt R w g l er) (he : er ≠ 0) :
    Calls Tryd.prog 60 #[.pointer (some ⟨g, 0, none⟩), .int .i64 k] w (InDone R g w l er (.tuple #[.slice none 0 0, .bool false])) := by
  obtain ⟨A, n, cap, h1, h2⟩ := h.ex
  have c0 := cell_of_heap h1 0
  have c1 := cell_of_heap h1 1
  simp only [List.getElem?_toArray, List.getElem?_cons_zero, List.getElem?_cons_succ] at c0 c1
  have e0 : (er != 0) = true := by simp [he]
  have H := Lib.hid h
  clear h h1 h2 he
  go_enter Tryd.func60, Tryd.ntmps60
  go_wp2
  go_ret2
  exact ⟨rfl, H.out, Mut.refl _ _⟩

set_option maxHeartbeats 400000 in
theorem next_short {R : Nat → Prop} (g : Nat) (l : List Int) (k : Nat) (w : World) (h : InAt R w g l 0) (hk : l.length < k) :
    Calls Tryd.prog 60 #[.pointer (some ⟨g, 0, none⟩), .int .i64 k] w (InDone R g w [] 3 (.tuple #[.slice none 0 0, .bool false])) := by
  obtain ⟨A, n, cap, h1, h2⟩ := h.ex
  have c0 := cell_of_heap h1 0
  have c1 := cell_of_heap h1 1
  simp only [List.getElem?_toArray, List.getElem?_cons_zero, List.getElem?_cons_succ] at c0 c1
  have hn : n < k := by rw [h2.len]; exact hk
  have H := Lib.hid h
  clear h h1 h2
  go_enter Tryd.func60, Tryd.ntmps60
  go_wp2_with (go_at_call 59; refine (ifail_any _ _ _ _ H.out).mono ?_; rintro e w' ⟨rfl, hi, hm⟩)
  go_ret2
  exact ⟨rfl, hi, hm⟩

/-- The bytes that were asked for. -/
def NextOk (R : Nat → Prop) (g : Nat) (w : World) (l r : List Int) (e : Ending) (w' : World) : Prop :=
  ∃ A n cap, e = .returned (.tuple #[.slice A n cap, .bool true]) ∧ Sl (eI .u8) 1 (fun k => k ≠ g ∧ R k) w' A n cap l ∧ InAt R w' g r 0 ∧ Mut g w w'

set_option maxHeartbeats 400000 in
theorem next_ok {R : Nat → Prop} (g : Nat) (l : List Int) (k : Nat) (w : World) (h : InAt R w g l 0) (hk : k ≤ l.length) :
    Calls Tryd.prog 60 #[.pointer (some ⟨g, 0, none⟩), .int .i64 k] w (NextOk R g w (l.take k) (l.drop k)) := by
  obtain ⟨A, n, cap, h1, h2⟩ := h.ex
  have c0 := cell_of_heap h1 0
  have c1 := cell_of_heap h1 1
  have f0 := free_of_heap h1 0
  simp only [List.getElem?_toArray, List.getElem?_cons_zero, List.getElem?_cons_succ] at c0 c1
  have hn : k ≤ n := by rw [h2.len]; exact hk
  have hc : n ≤ cap := h2.le
  have hm := h2.mx
  have hbt := h.bt.drop k
  have H1 := Lib.hid h1
  have H2 := Lib.hid h2
  have HB := Lib.hid hbt
  clear h h1 h2 hbt
  go_enter Tryd.func60, Tryd.ntmps60
  go_wp2
  all_goals
    go_ret2
    have hd := H2.out.drop k hn
    have ht := H2.out.take k hn k (Nat.le_refl _) (by omega)
    have hh := H1.out
    rw [Nat.mul_one] at hd
    first
      | (obtain rfl : cap = k := by assumption
         rw [if_pos rfl, Nat.sub_self] at hd
         exact ⟨A, _, _, rfl, ht.mut ((Mut.refl _ _).setCell _ _) fun _ h => h.1, ⟨⟨_, _, _, (heap_set _ _ _ _ _ _ _ hh).trans rfl, hd.mut ((Mut.refl _ _).setCell _ _) fun _ h => h.1⟩, HB.out⟩, (Mut.refl _ _).setCell _ _⟩)
      | (rw [if_neg (by assumption)] at hd
         exact ⟨A, _, _, rfl, ht.mut ((Mut.refl _ _).setCell _ _) fun _ h => h.1, ⟨⟨_, _, _, (heap_set _ _ _ _ _ _ _ hh).trans rfl, hd.mut ((Mut.refl _ _).setCell _ _) fun _ h => h.1⟩, HB.out⟩, (Mut.refl _ _).setCell _ _⟩)
set_option maxHeartbeats 400000 in
theorem left_any {R : Nat → Prop} (g : Nat) (l : List Int) (er : Int) (w : World) (h : InAt R w g l er) :
    Calls Tryd.prog 37 #[.pointer (some ⟨g, 0, none⟩)] w fun e w' => e = .returned (.int .i64 l.length) ∧ w = w' := by
  obtain ⟨A, n, cap, h1, h2⟩ := h.ex
  have c0 := cell_of_heap h1 0
  simp only [List.getElem?_toArray, List.getElem?_cons_zero] at c0
  have HN := Lib.hid h2.len
  clear h h1 h2
  go_enter Tryd.func37, Tryd.ntmps37
  go_wp2
  go_ret
  exact ⟨ret_int (by rw [HN.out]), rfl⟩

set_option maxHeartbeats 400000 in
theorem of_any (A : Option Addr) (n cap : Nat) (l : List Int) (Q : Nat → Prop) (w : World) (h : Sl (eI .u8) 1 Q w A n cap l) (hb : Bt l) (hl : l.length ≤ 1048576) :
    Calls Tryd.prog 36 #[.slice A n cap] w fun e w' => ∃ g, e = .returned (.pointer (some ⟨g, 0, none⟩)) ∧ w.heap.size ≤ g ∧ InAt (fun k => w.heap.size ≤ k ∧ k < g) w' g l 0 ∧ Ext w w' := by
  have H := Lib.hid h
  have HB := Lib.hid hb
  clear h hb
  go_enter Tryd.func36, Tryd.ntmps36
  go_wp2_with (go_at_call 57; refine (cloneB_any _ _ _ _ _ _ H.out hl).mono ?_; rintro e w' ⟨A', n', cap', rfl, h', he⟩)
  go_ret
  refine ⟨_, rfl, he.size, ⟨⟨A', n', cap', heap_alloc_new _ _, ?_⟩, HB.out⟩, he.alloc _⟩
  exact ((h'.inside fun x => by rw [eI_len]; decide).ext ((Ext.refl _).alloc _)).mono fun k hk => by have := hk.1; have := hk.2; exact ⟨by omega, by omega, by omega⟩

/-- A number that is read: the number, what is left, the error. -/
def uptoI (l : List Int) (er : Int) (k : Nat) (most : Int) : Int × List Int × Int :=
  if er = 0 then (if l.length < k then (0, [], 3) else if most < numB (l.take k) then (0, [], 4) else (numB (l.take k), l.drop k, 0)) else (0, l, er)
def getI (l : List Int) (er : Int) (k : Nat) : Int × List Int × Int :=
  if er = 0 then (if l.length < k then (0, [], 3) else (numB (l.take k), l.drop k, 0)) else (0, l, er)

/-- A number comes back; the reader at g is so. -/
def InNum (R : Nat → Prop) (g : Nat) (w : World) (r : Int × List Int × Int) (e : Ending) (w' : World) : Prop := e = .returned (.int .u64 r.1) ∧ InAt R w' g r.2.1 r.2.2 ∧ Mut g w w'

theorem known_any (k : Nat) (w : World) (h1 : 1 ≤ k) (h8 : k ≤ 8) : Calls Tryd.prog 52 #[.int .i64 k] w fun e w' => e = .returned (.bool true) ∧ w = w' := by
  have h1' : (1 : Int) ≤ (k : Int) := by omega
  have h8' : (k : Int) ≤ 8 := by omega
  go_enter Tryd.func52, Tryd.ntmps52
  go_wp2
  go_ret
  exact ⟨rfl, rfl⟩

set_option maxHeartbeats 400000 in
theorem upto_any {R : Nat → Prop} (g : Nat) (l : List Int) (er : Int) (k : Nat) (most : Int) (w : World) (h : InAt R w g l er) (h1 : 1 ≤ k) (h8 : k ≤ 8) :
    Calls Tryd.prog 58 #[.pointer (some ⟨g, 0, none⟩), .int .i64 k, .int .u64 most] w (InNum R g w (uptoI l er k most)) := by
  obtain ⟨A, n, cap, hx1, hx2⟩ := h.ex
  have c1 := cell_of_heap hx1 1
  simp only [List.getElem?_toArray, List.getElem?_cons_zero, List.getElem?_cons_succ] at c1
  have H := Lib.hid h
  have HB := Lib.hid h.bt
  clear h hx1 hx2
  by_cases he : er = 0
  · subst he
    by_cases hl : l.length < k
    · have E : uptoI l 0 k most = (0, [], 3) := by simp [uptoI, hl]
      rw [E]
      go_enter Tryd.func58, Tryd.ntmps58
      go_wp2_with (first
        | (go_at_call 52; refine (known_any _ _ h1 h8).mono ?_; rintro e w' ⟨rfl, rfl⟩)
        | (go_at_call 60; refine (next_short _ _ _ _ H.out hl).mono ?_; rintro e w' ⟨rfl, hi, hm⟩))
      go_ret
      exact ⟨rfl, hi, hm⟩
    · by_cases hm : most < numB (l.take k)
      · have E : uptoI l 0 k most = (0, [], 4) := by simp [uptoI, hl, hm]
        rw [E]
        go_enter Tryd.func58, Tryd.ntmps58
        go_wp2_with (first
          | (go_at_call 52; refine (known_any _ _ h1 h8).mono ?_; rintro e w' ⟨rfl, rfl⟩)
          | (go_at_call 60; refine (next_ok _ _ _ _ H.out (by omega)).mono ?_; rintro e w1 ⟨A1, n1, cap1, rfl, hs1, hi1, hm1⟩)
          | (go_at_call 80; refine (number_any _ _ _ _ _ _ hs1 (by rw [List.length_take]; omega) (HB.out.take _)).mono ?_; rintro e w' ⟨rfl, rfl⟩)
          | (go_at_call 59; refine (ifail_any _ _ _ _ hi1).mono ?_; rintro e w2 ⟨rfl, hi2, hm2⟩))
        go_ret
        exact ⟨rfl, hi2, hm1.trans hm2⟩
      · have E : uptoI l 0 k most = (numB (l.take k), l.drop k, 0) := by simp [uptoI, hl, hm]
        rw [E]
        go_enter Tryd.func58, Tryd.ntmps58
        go_wp2_with (first
          | (go_at_call 52; refine (known_any _ _ h1 h8).mono ?_; rintro e w' ⟨rfl, rfl⟩)
          | (go_at_call 60; refine (next_ok _ _ _ _ H.out (by omega)).mono ?_; rintro e w1 ⟨A1, n1, cap1, rfl, hs1, hi1, hm1⟩)
          | (go_at_call 80; refine (number_any _ _ _ _ _ _ hs1 (by rw [List.length_take]; omega) (HB.out.take _)).mono ?_; rintro e w' ⟨rfl, rfl⟩))
        go_ret
        exact ⟨rfl, hi1, hm1⟩
  · have e0 : (er != 0) = true := by simp [he]
    have E : uptoI l er k most = (0, l, er) := by simp [uptoI, he]
    rw [E]
    clear he
    go_enter Tryd.func58, Tryd.ntmps58
    go_wp2
    go_ret
    exact ⟨rfl, H.out, Mut.refl _ _⟩

theorem upto_get {l : List Int} (hb : Bt l) (er : Int) (k : Nat) (h8 : k ≤ 8) (most : Int) (hm : most = 18446744073709551615) : uptoI l er k most = getI l er k := by
  unfold uptoI getI
  split
  · split
    · rfl
    · have h1 := numB_bd _ (hb.take k)
      rename_i hk
      have h2 : (l.take k).length = k := by rw [List.length_take]; omega
      rw [h2] at h1
      have h3 : k = 0 ∨ k = 1 ∨ k = 2 ∨ k = 3 ∨ k = 4 ∨ k = 5 ∨ k = 6 ∨ k = 7 ∨ k = 8 := by omega
      have h4 : numB (l.take k) < 18446744073709551616 := by
        rcases h3 with h3 | h3 | h3 | h3 | h3 | h3 | h3 | h3 | h3 <;> rw [h3] at h1 ⊢ <;> omega
      rw [if_neg (by omega)]
  · rfl

set_option maxHeartbeats 400000 in
theorem iget_any {R : Nat → Prop} (g : Nat) (l : List Int) (er : Int) (k : Nat) (w : World) (h : InAt R w g l er) (h1 : 1 ≤ k) (h8 : k ≤ 8) :
    Calls Tryd.prog 38 #[.pointer (some ⟨g, 0, none⟩), .int .i64 k] w (InNum R g w (getI l er k)) := by
  have H := Lib.hid h
  clear h
  go_enter Tryd.func38, Tryd.ntmps38
  go_wp2_with (go_at_call 58; refine (upto_any _ _ _ _ _ _ H.out h1 h8).mono ?_; rintro e w' ⟨rfl, hi, hm⟩)
  go_ret
  rw [upto_get H.out.bt er k h8 _ rfl] at hi ⊢
  exact ⟨rfl, hi, hm⟩

/-- Bytes that are read: the bytes, what is left, the error. -/
def rawI (l : List Int) (er : Int) (k : Nat) : List Int × List Int × Int :=
  if er = 0 then (if l.length < k then ([], [], 3) else (l.take k, l.drop k, 0)) else ([], l, er)
/-- Bytes come back, in new memory; the reader at g is so. -/
def InBytes (R : Nat → Prop) (g : Nat) (w : World) (r : List Int × List Int × Int) (e : Ending) (w' : World) : Prop :=
  ∃ A n cap, e = .returned (.slice A n cap) ∧ Sl (eI .u8) 1 (fun k => w.heap.size ≤ k) w' A n cap r.1 ∧ InAt R w' g r.2.1 r.2.2 ∧ Mut g w w'

set_option maxHeartbeats 400000 in
theorem iraw_any {R : Nat → Prop} (g : Nat) (l : List Int) (er : Int) (k : Nat) (w : World) (h : InAt R w g l er) (h8 : k ≤ 1048576) :
    Calls Tryd.prog 39 #[.pointer (some ⟨g, 0, none⟩), .int .i64 k] w (InBytes R g w (rawI l er k)) := by
  have H := Lib.hid h
  clear h
  have k0 : (0 : Int) ≤ (k : Int) := by omega
  by_cases he : er = 0
  · subst he
    by_cases hl : l.length < k
    · have E : rawI l 0 k = ([], [], 3) := by simp [rawI, hl]
      rw [E]
      go_enter Tryd.func39, Tryd.ntmps39
      go_wp2_with (go_at_call 60; refine (next_short _ _ _ _ H.out hl).mono ?_; rintro e w' ⟨rfl, hi, hm⟩)
      go_ret
      exact ⟨none, 0, 0, rfl, Sl.nil _ _ _ _ (by decide), hi, hm⟩
    · have E : rawI l 0 k = (l.take k, l.drop k, 0) := by simp [rawI, hl]
      rw [E]
      go_enter Tryd.func39, Tryd.ntmps39
      go_wp2_with (first
          | (go_at_call 60; refine (next_ok _ _ _ _ H.out (by omega)).mono ?_; rintro e w1 ⟨A1, n1, cap1, rfl, hs1, hi1, hm1⟩)
          | (go_at_call 57; refine (cloneB_any _ _ _ _ _ _ hs1 (by rw [List.length_take]; omega)).mono ?_; rintro e w2 ⟨A2, n2, cap2, rfl, hs2, he2⟩))
      go_ret
      exact ⟨A2, n2, cap2, rfl, hs2.mono fun j hj => Nat.le_trans hm1.size hj, hi1.ext he2, hm1.trans (he2.mut g)⟩
  · have E : rawI l er k = ([], l, er) := by simp [rawI, he]
    rw [E]
    go_enter Tryd.func39, Tryd.ntmps39
    go_wp2_with (go_at_call 60; refine (next_bad _ _ _ _ _ H.out he).mono ?_; rintro e w' ⟨rfl, hi, hm⟩)
    go_ret
    exact ⟨none, 0, 0, rfl, Sl.nil _ _ _ _ (by decide), hi, hm⟩

end Go.Proofs.YtdocdppimpapiabDoor

namespace Go.Proofs.YtdocdppimpapiabDoor
open Go.RowKit

/-- A number's bytes, the greatest first. -/
def beB (n : Int) : Nat → List Int
  | 0 => []
  | k + 1 => beB (n / 256) k ++ [n % 256]
theorem beB_len : ∀ (k : Nat) (n : Int), (beB n k).length = k
  | 0, _ => rfl
  | k + 1, n => by rw [beB, List.length_append, beB_len k]; rfl
theorem beB_bt : ∀ (k : Nat) (n : Int), Bt (beB n k)
  | 0, _ => Bt.nil
  | k + 1, n => fun x hx => by
    rw [beB, List.mem_append, List.mem_singleton] at hx
    rcases hx with hx | rfl
    · exact beB_bt k _ x hx
    · omega
theorem numB_beB : ∀ (k : Nat) (n : Int), 0 ≤ n → n < 256 ^ k → numB (beB n k) = n
  | 0, n, h0, h1 => by simp at h1; simp [beB, numB]; omega
  | k + 1, n, h0, h1 => by
    rw [beB, numB_snoc, numB_beB k (n / 256) (by omega) (by rw [Int.pow_succ] at h1; omega)]
    omega
/-- Byte number i from behind. -/
theorem beB_get : ∀ (k : Nat) (n : Int) (i : Nat), i < k → (beB n k)[k - 1 - i]? = some (n / 256 ^ i % 256)
  | 0, _, _, h => absurd h (Nat.not_lt_zero _)
  | k + 1, n, 0, _ => by
    rw [beB, List.getElem?_append_right (by rw [beB_len]; omega), beB_len]
    simp
  | k + 1, n, i + 1, h => by
    rw [beB, List.getElem?_append_left (by rw [beB_len]; omega), show k + 1 - 1 - (i + 1) = k - 1 - i by omega, beB_get k (n / 256) i (by omega), Int.pow_succ, Int.mul_comm, Int.ediv_ediv_of_nonneg (by omega)]
/-- What lies in the row when i bytes have been laid. -/
def laidB (n : Int) (k i : Nat) : List Int := List.replicate (k - i) 0 ++ (beB n k).drop (k - i)
theorem laidB_zero (n : Int) (k : Nat) : laidB n k 0 = List.replicate k 0 := by
  unfold laidB
  rw [Nat.sub_zero, List.drop_eq_nil_of_le (by rw [beB_len]; exact Nat.le_refl _), List.append_nil]
theorem laidB_all (n : Int) (k : Nat) : laidB n k k = beB n k := by
  unfold laidB
  rw [Nat.sub_self, List.drop_zero]; rfl
theorem laidB_next (n : Int) (k i : Nat) (h : i < k) : (laidB n k i).set (k - 1 - i) (n / 256 ^ i % 256) = laidB n k (i + 1) := by
  unfold laidB
  have h1 : k - i = (k - (i + 1)) + 1 := by omega
  have h2 : (beB n k).drop (k - (i + 1)) = (n / 256 ^ i % 256) :: (beB n k).drop (k - i) := by
    have h3 := beB_get k n i h
    have h4 : k - (i + 1) < (beB n k).length := by rw [beB_len]; omega
    rw [List.drop_eq_getElem_cons h4, show k - (i + 1) + 1 = k - i by omega]
    congr 1
    have h5 := List.getElem?_eq_getElem h4
    rw [show k - 1 - i = k - (i + 1) by omega, h5] at h3
    injection h3
  rw [h2, h1, List.replicate_succ', List.append_assoc, List.set_append_right _ _ (by rw [List.length_replicate]; omega), List.length_replicate, show k - 1 - i - (k - (i + 1)) = 0 by omega]
  rfl
theorem pow256 (j : Nat) : (256 : Int) ^ j = 2 ^ (8 * j) := by rw [Int.pow_mul]; rfl

set_option maxHeartbeats 800000 in
theorem laid_any (n : Int) (k : Nat) (w : World) (h8 : k ≤ 8) :
    Calls Tryd.prog 56 #[.int .u64 n, .int .i64 k] w (RetSl (eI .u8) 1 (beB n k) w) := by
  go_enter Tryd.func56, Tryd.ntmps56
  go_wp2_with (at_make; refine wpList_mk _ rfl _ _ 29 rfl w.heap.size info_u8 Tryd.underlying29 .i64 .i64 _ _ k rfl rfl rfl rfl (by omega) (by omega) (Nat.le_refl _) ?_; intro w1 hO hg hz)
  have hE : Ext w w1 := (Ext.refl _).grown hg fun _ h => by cases h
  rw [← laidB_zero n k] at hO
  go_loopw [6, 11] (fun _ i wr => ∃ j : Nat, j ≤ k ∧ i = .int .i64 j ∧ Ow (eI .u8) 1 5 w.heap.size wr (some ⟨w.heap.size, 0, none⟩) k k (laidB n k j) ∧ Ext w wr) (fun _ i _ => k - (intOf i).toNat)
  case atStart => exact ⟨0, Nat.zero_le _, rfl, hO, hE⟩
  case round =>
    clear hO hE hg hz
    obtain ⟨j, hj, rfl, hO, hE⟩ := hrel
    by_cases hlt : j < k
    · obtain ⟨x, _, hc⟩ := hO.num (k - 1 - j) (by omega)
      have hf := hO.free (k - 1 - j)
      have H := Lib.hid hO
      clear hO
      go_wp2
      refine ⟨⟨j + 1, by omega, by go_num, ?_, hE.setCell (Nat.le_refl _) _⟩, by simp [intOf]; omega⟩
      have h1 := (H.out.set (k - 1 - j) (n / 2 ^ (8 * j) % 256)).1
      have h2 := laidB_next n k j hlt
      rw [pow256] at h2
      rw [h2] at h1
      exact h1
    · go_wp2
      go_ret
      obtain rfl : j = k := by omega
      rw [laidB_all] at hO
      exact ⟨_, _, _, rfl, (hO.sl (eI_len _)).mono fun _ h => h.1, hE⟩

/-- Bytes that are put, at block g: how many there may be, what there is, what went wrong. What lies below 'base' is not theirs. -/
structure OutAt (base : Nat) (w : World) (g : Nat) (most : Int) (l : List Int) (er : Int) : Prop where
  ex : ∃ A n cap, w.heap[g]? = some (.cells #[.slice A n cap, .int .i64 most, .int .i64 er] 87 (0, 0)) ∧ Ow (eI .u8) 1 5 base w A n cap l
  le : base ≤ g
/-- The blocks below base are as they were; and so is whatever holds neither bytes nor such a writer. -/
structure Kept (base : Nat) (w w' : World) : Prop where
  out : Below base w w'
  oth : ∀ (k : Nat) (cs : Array Value) (t : Nat) (fr : Nat × Nat), w.heap[k]? = some (.cells cs t fr) → t ≠ 5 → t ≠ 87 → w'.heap[k]? = some (.cells cs t fr)
theorem Kept.refl (base : Nat) (w : World) : Kept base w w := ⟨Below.refl _ _, fun _ _ _ _ h _ _ => h⟩
theorem Kept.trans {base : Nat} {a b c : World} (h : Kept base a b) (k : Kept base b c) : Kept base a c := ⟨h.out.trans k.out, fun i cs t fr h1 h2 h3 => k.oth i cs t fr (h.oth i cs t fr h1 h2 h3) h2 h3⟩
theorem Kept.setOut {base g j : Nat} {a b : World} (h : Kept base a b) (hp : base ≤ g) {cs : Array Value} {fr : Nat × Nat} (hg : b.heap[g]? = some (.cells cs 87 fr)) (u : Value) : Kept base a (b.setCell ⟨g, j, none⟩ u) :=
  ⟨h.out.setCell hp u, fun i cs' t fr' h1 h2 h3 => by
    have h4 := h.oth i cs' t fr' h1 h2 h3
    rw [Below.heap_setCell _ _ _ _ (fun e => ?_)]
    · exact h4
    · subst e
      rw [h4] at hg
      injection hg with hg
      injection hg with _ hg
      exact h3 hg⟩
theorem Ext.kept {base : Nat} {a b : World} (h : Ext a b) (hb : base ≤ a.heap.size) : Kept base a b := ⟨h.out.mono hb, fun i cs t fr h1 _ _ => (h.block i (lt_of_heap h1)).trans h1⟩
theorem Kept.ext {a b c : World} {base : Nat} (h : Ext a b) (k : Kept base b c) (hb : a.heap.size ≤ base) : Ext a c := ⟨h.out.trans (k.out.mono hb)⟩
theorem Kept.at {base : Nat} {a b : World} (h : Kept base a b) {g j : Nat} {cs : Array Value} {t : Nat} {fr : Nat × Nat} (hg : a.heap[g]? = some (.cells cs t fr)) (h1 : t ≠ 5) (h2 : t ≠ 87) : b.cell? ⟨g, j, none⟩ = cs[j]? :=
  cell_of_heap (h.oth g cs t fr hg h1 h2) j
theorem Sl.keep {α : Type} {enc : α → List Value} {sz base : Nat} {Q : Nat → Prop} {w w' : World} {A : Option Addr} {n cap : Nat} {l : List α} (h : Sl enc sz Q w A n cap l) (hk : Kept base w w') (hq : ∀ k, Q k → k < base) : Sl enc sz Q w' A n cap l :=
  h.step fun k h1 _ => hk.out.block k (hq k h1)
theorem OutAt.ext {base : Nat} {w w' : World} {g : Nat} {most : Int} {l : List Int} {er : Int} (i : OutAt base w g most l er) (he : Ext w w') : OutAt base w' g most l er := by
  obtain ⟨A, n, cap, h1, h2⟩ := i.ex
  exact ⟨⟨A, n, cap, (he.block g (lt_of_heap h1)).trans h1, h2.ext he⟩, i.le⟩

/-- What becomes of bytes and error when more are put. -/
def putO (most : Int) (s : List Int × Int) (b : List Int) : List Int × Int :=
  if s.2 = 0 then (if most - s.1.length < b.length then (s.1, 6) else (s.1 ++ b, 0)) else s
def OutDone (base g : Nat) (most : Int) (w : World) (s : List Int × Int) (e : Ending) (w' : World) : Prop := e = .returned (.tuple #[]) ∧ OutAt base w' g most s.1 s.2 ∧ Kept base w w'

set_option maxHeartbeats 400000 in
theorem ofail_any (base g : Nat) (most : Int) (l : List Int) (c : Int) (w : World) (h : OutAt base w g most l 0) :
    Calls Tryd.prog 53 #[.pointer (some ⟨g, 0, none⟩), .int .i64 c] w (OutDone base g most w (l, c)) := by
  have hle := h.le
  obtain ⟨A, n, cap, h1, h2⟩ := h.ex
  have c2 := cell_of_heap h1 2
  have f2 := free_of_heap h1 2
  simp only [List.getElem?_toArray, List.getElem?_cons_zero, List.getElem?_cons_succ] at c2
  have H1 := Lib.hid h1
  have H2 := Lib.hid h2
  clear h h1 h2
  go_enter Tryd.func53, Tryd.ntmps53
  go_wp2
  go_end0
  refine ⟨rfl, ⟨⟨_, _, _, (heap_set _ _ _ _ _ _ _ H1.out).trans rfl, H2.out.step fun k hk => Below.heap_setCell _ _ _ _ (H2.out.ne H1.out (by decide) k hk)⟩, hle⟩, (Kept.refl _ _).setOut hle H1.out _⟩

set_option maxHeartbeats 800000 in
theorem oput_any (base g : Nat) (most : Int) (l : List Int) (er : Int) (A : Option Addr) (n cap : Nat) (b : List Int) (Q : Nat → Prop) (w : World) (h : OutAt base w g most l er)
    (hs : Sl (eI .u8) 1 Q w A n cap b) (hl : l.length ≤ 1048576) (hb : b.length ≤ 1048576) (hm : 0 ≤ most ∧ most ≤ 1048576) :
    Calls Tryd.prog 55 #[.pointer (some ⟨g, 0, none⟩), .slice A n cap] w (OutDone base g most w (putO most (l, er) b)) := by
  obtain ⟨hm0, hm1⟩ := hm
  have hle := h.le
  obtain ⟨A0, n0, cap0, h1, h2⟩ := h.ex
  have c0 := cell_of_heap h1 0
  have c1 := cell_of_heap h1 1
  have c2 := cell_of_heap h1 2
  have f0 := free_of_heap h1 0
  simp only [List.getElem?_toArray, List.getElem?_cons_zero, List.getElem?_cons_succ] at c0 c1 c2
  have n0' : n0 ≤ 1048576 := by rw [h2.len]; exact hl
  have n' : n ≤ 1048576 := by rw [hs.len]; exact hb
  have hbase : base ≤ w.heap.size := Nat.le_of_lt (Nat.lt_of_le_of_lt hle (lt_of_heap h1))
  have HN0 := Lib.hid h2.len
  have HN := Lib.hid hs.len
  have HH := Lib.hid h
  have H1 := Lib.hid h1
  have H2 := Lib.hid h2
  have HS := Lib.hid hs
  clear h h1 h2 hs
  by_cases he : er = 0
  · subst he
    by_cases hlt : most - (n0 : Int) < (n : Int)
    · have E : putO most (l, 0) b = (l, 6) := by unfold putO; rw [if_pos rfl, if_pos (by rw [← HN0.out, ← HN.out]; exact hlt)]
      rw [E]
      go_enter Tryd.func55, Tryd.ntmps55
      go_wp2
      go_quiet (fail)
      go_wp2_with (go_at_call 53; refine (ofail_any base _ most l _ _ (HH.out.ext ((Ext.refl _).drewN _))).mono ?_; rintro e w' ⟨rfl, hi, hk⟩)
      go_end0
      exact ⟨rfl, hi, ((Ext.refl _).drewN _ |>.kept hbase).trans hk⟩
    · have E : putO most (l, 0) b = (l ++ b, 0) := by unfold putO; rw [if_pos rfl, if_neg (by rw [← HN0.out, ← HN.out]; exact hlt)]
      rw [E]
      go_enter Tryd.func55, Tryd.ntmps55
      go_wp2
      go_quiet (fail)
      go_wp2_with (at_builtin; refine wpList_app _ rfl _ _ 29 rfl info_u8 Tryd.underlying29 rfl (by decide) (eI_len _) (eI_one _) (base := base) (H2.out.ext ((Ext.refl _).drewN _)) rfl (HS.out.ext ((Ext.refl _).drewN _)) rfl (by omega) (by omega) hbase ?_; intro A2 n2 cap2 w2 hO hg hrow _; have hh := heap_grown (by exact H1.out) hg (H2.out.row_ne H1.out (by decide)); have c0' := cell_of_heap hh 0; have f0' := free_of_heap hh 0; simp only [List.getElem?_toArray, List.getElem?_cons_zero] at c0'; have HO := Lib.hid hO; have HG := Lib.hid hg; have HH2 := Lib.hid hh; clear hO hg hrow hh)
      go_end0
      refine ⟨rfl, ⟨⟨A2, n2, cap2, (heap_set _ _ _ _ _ _ _ HH2.out).trans rfl, HO.out.step fun k hk => Below.heap_setCell _ _ _ _ (HO.out.ne HH2.out (by decide) k hk)⟩, hle⟩, Kept.setOut ⟨?_, ?_⟩ hle HH2.out _⟩
      · exact ((Below.refl base w).trans (((Ext.refl w).drewN _).out.mono hbase)).grown HG.out hbase fun k hk => (H2.out.lt k hk).1
      · intro k cs t fr hk ht _
        exact heap_grown (by exact hk) HG.out (H2.out.row_ne hk ht)
  · have e0 : (er != 0) = true := by simp [he]
    have E : putO most (l, er) b = (l, er) := by simp [putO, he]
    rw [E]
    clear he
    go_enter Tryd.func55, Tryd.ntmps55
    go_wp2
    go_end0
    exact ⟨rfl, HH.out, Kept.refl _ _⟩
end Go.Proofs.YtdocdppimpapiabDoor

namespace Go.Proofs.YtdocdppimpapiabDoor
open Go.RowKit

set_option maxHeartbeats 400000 in
theorem onew_any (most : Int) (w : World) (hm : 0 ≤ most) :
    Calls Tryd.prog 31 #[.int .i64 most] w fun e w' => ∃ g, e = .returned (.pointer (some ⟨g, 0, none⟩)) ∧ OutAt w.heap.size w' g most [] 0 ∧ Ext w w' := by
  go_enter Tryd.func31, Tryd.ntmps31
  go_wp2
  go_ret
  exact ⟨_, rfl, ⟨⟨none, 0, 0, heap_alloc_new _ _, Ow.nil _⟩, Nat.le_refl _⟩, (Ext.refl _).alloc _⟩

theorem pow256_le {n : Int} {k : Nat} (h0 : 0 ≤ n) (h : n < 256 ^ k) : n / 2 ^ (8 * k) = 0 := by
  rw [pow256] at h
  exact Int.ediv_eq_zero_of_lt h0 h

set_option maxHeartbeats 400000 in
theorem fits_any (n : Int) (k : Nat) (w : World) (h0 : 0 ≤ n) (h : n < 256 ^ k) (h8 : k ≤ 8) :
    Calls Tryd.prog 54 #[.int .u64 n, .int .i64 k] w fun e w' => e = .returned (.bool true) ∧ w = w' := by
  by_cases h9 : k = 8
  · subst h9
    clear h
    go_enter Tryd.func54, Tryd.ntmps54
    go_wp2
    go_ret
    exact ⟨rfl, rfl⟩
  · have e8 : ((k : Int) == 8) = false := by simp; omega
    have HP := Lib.hid (pow256_le h0 h)
    have k0 : (0 : Int) ≤ (k : Int) := by omega
    clear h h9
    go_enter Tryd.func54, Tryd.ntmps54
    go_wp2
    go_ret
    exact ⟨ret_bool (by rw [HP.out]; rfl), rfl⟩

set_option maxHeartbeats 800000 in
theorem oPut_any (base g : Nat) (most : Int) (l : List Int) (er : Int) (n : Int) (k : Nat) (w : World) (h : OutAt base w g most l er)
    (hl : l.length ≤ 1048576) (hm : 0 ≤ most ∧ most ≤ 1048576) (h0 : 0 ≤ n) (hn : n < 256 ^ k) (h1 : 1 ≤ k) (h8 : k ≤ 8) :
    Calls Tryd.prog 32 #[.pointer (some ⟨g, 0, none⟩), .int .u64 n, .int .i64 k] w (OutDone base g most w (putO most (l, er) (beB n k))) := by
  obtain ⟨A0, n0, cap0, hx, _⟩ := h.ex
  have hbase : base ≤ w.heap.size := Nat.le_of_lt (Nat.lt_of_le_of_lt h.le (lt_of_heap hx))
  have H := Lib.hid h
  have HN := Lib.hid hn
  have HM := Lib.hid hm
  clear h hn hm hx
  go_enter Tryd.func32, Tryd.ntmps32
  go_wp2_with (first
    | (go_at_call 52; refine (known_any _ _ h1 h8).mono ?_; rintro e w' ⟨rfl, rfl⟩)
    | (go_at_call 54; refine (fits_any _ _ _ h0 HN.out h8).mono ?_; rintro e w' ⟨rfl, rfl⟩)
    | (go_at_call 56; refine (laid_any _ _ _ h8).mono ?_; rintro e w1 ⟨A1, n1, cap1, rfl, hs1, he1⟩)
    | (go_at_call 55; refine (oput_any base _ most l er _ _ _ _ _ _ (H.out.ext he1) hs1 hl (by rw [beB_len]; omega) HM.out).mono ?_; rintro e w2 ⟨rfl, hi, hk⟩))
  go_end0
  exact ⟨rfl, hi, (he1.kept hbase).trans hk⟩

set_option maxHeartbeats 800000 in
theorem oRaw_any (base g : Nat) (most : Int) (l : List Int) (er : Int) (A : Option Addr) (n cap : Nat) (b : List Int) (Q : Nat → Prop) (w : World) (h : OutAt base w g most l er)
    (hs : Sl (eI .u8) 1 Q w A n cap b) (hl : l.length ≤ 1048576) (hb : b.length ≤ 1048576) (hm : 0 ≤ most ∧ most ≤ 1048576) :
    Calls Tryd.prog 33 #[.pointer (some ⟨g, 0, none⟩), .slice A n cap] w (OutDone base g most w (putO most (l, er) b)) := by
  have H := Lib.hid h
  have HS := Lib.hid hs
  have HM := Lib.hid hm
  clear h hs hm
  go_enter Tryd.func33, Tryd.ntmps33
  go_wp2_with (go_at_call 55; refine (oput_any base _ most l er _ _ _ _ _ _ H.out HS.out hl hb HM.out).mono ?_; rintro e w2 ⟨rfl, hi, hk⟩)
  go_end0
  exact ⟨rfl, hi, hk⟩

def doneB (l : List Int) (er : Int) : List Int := if er = 0 then l else []
set_option maxHeartbeats 800000 in
theorem oDone_any (base g : Nat) (most : Int) (l : List Int) (er : Int) (w : World) (h : OutAt base w g most l er) (hl : l.length ≤ 1048576) :
    Calls Tryd.prog 34 #[.pointer (some ⟨g, 0, none⟩)] w fun e w' => ∃ A n cap, e = .returned (.tuple #[.slice A n cap, .int .i64 er]) ∧
      Sl (eI .u8) 1 (fun k => w.heap.size ≤ k) w' A n cap (doneB l er) ∧ Ext w w' := by
  obtain ⟨A0, n0, cap0, h1, h2⟩ := h.ex
  have c0 := cell_of_heap h1 0
  have c2 := cell_of_heap h1 2
  simp only [List.getElem?_toArray, List.getElem?_cons_zero, List.getElem?_cons_succ] at c0 c2
  have HS := Lib.hid (h2.sl (eI_len _))
  clear h h1 h2
  by_cases he : er = 0
  · subst he
    go_enter Tryd.func34, Tryd.ntmps34
    go_wp2_with (go_at_call 57; refine (cloneB_any _ _ _ _ _ _ HS.out hl).mono ?_; rintro e w1 ⟨A1, n1, cap1, rfl, hs1, he1⟩)
    go_ret2
    exact ⟨A1, n1, cap1, rfl, hs1, he1⟩
  · have e0 : (er != 0) = true := by simp [he]
    have E : doneB l er = [] := by simp [doneB, he]
    rw [E]
    clear he
    go_enter Tryd.func34, Tryd.ntmps34
    go_wp2
    go_quiet (fail)
    go_wp2
    go_ret2
    exact ⟨none, 0, 0, rfl, Sl.nil _ _ none 0 (Nat.zero_le _), (Ext.refl _).drewN _⟩
end Go.Proofs.YtdocdppimpapiabDoor

namespace Go.Proofs.YtdocdppimpapiabDoor
open Go.RowKit

/-- Which letters stand in names. -/
def plainI (c : Int) : Bool := (decide (97 ≤ c) && decide (c ≤ 122)) || ((decide (48 ≤ c) && decide (c ≤ 57)) || ((c == 46) || ((c == 95) || (c == 45))))
def plainU (u : UInt8) : Bool := plainI (u.toNat : Int)
/-- Which texts are names. -/
def nameB (s : ByteArray) : Bool := decide (1 ≤ s.size) && (decide (s.size ≤ 11) && (!(s.toList == [46]) && (!(s.toList == [46, 46]) && s.data.toList.all plainU)))

set_option maxHeartbeats 800000 in
theorem plain_any (c : Int) (w : World) : Calls Tryd.prog 35 #[.int .i32 c] w fun e w' => e = .returned (.bool (plainI c)) ∧ w = w' := by
  by_cases h1 : 97 ≤ c
  · by_cases h2 : c ≤ 122
    · go_enter Tryd.func35, Tryd.ntmps35
      go_wp2
      go_ret
      exact ⟨ret_bool (by simp [plainI, h1, h2]), rfl⟩
    · have h3 : ¬ c ≤ 57 := by omega
      have h4 : 48 ≤ c := by omega
      have h5 : (c == 46) = false := by simp; omega
      go_enter Tryd.func35, Tryd.ntmps35
      go_wp2
      all_goals (go_ret; exact ⟨ret_bool (by rw [Bool.eq_iff_iff]; simp [plainI]; first | done | omega), rfl⟩)
  · by_cases h2 : 48 ≤ c
    · by_cases h3 : c ≤ 57
      · go_enter Tryd.func35, Tryd.ntmps35
        go_wp2
        go_ret
        exact ⟨ret_bool (by simp [plainI, h2, h3]), rfl⟩
      · have h5 : (c == 46) = false := by simp; omega
        go_enter Tryd.func35, Tryd.ntmps35
        go_wp2
        all_goals (go_ret; exact ⟨ret_bool (by rw [Bool.eq_iff_iff]; simp [plainI]; first | done | omega), rfl⟩)
    · go_enter Tryd.func35, Tryd.ntmps35
      go_wp2
      all_goals (go_ret; exact ⟨ret_bool (by rw [Bool.eq_iff_iff]; simp [plainI]; first | done | omega), rfl⟩)

theorem high_plain {r : Nat} (h : 128 ≤ r) : plainI (r : Int) = false := by
  have h1 : ¬ (r : Int) ≤ 122 := by omega
  have h2 : ¬ (r : Int) ≤ 57 := by omega
  have h3 : ((r : Int) == 46) = false := by simp; omega
  have h4 : ((r : Int) == 95) = false := by simp; omega
  have h5 : ((r : Int) == 45) = false := by simp; omega
  simp [plainI, h1, h2, h3, h4, h5]

theorem all_upto {s : ByteArray} {p : UInt8 → Bool} (h : ∀ (j : Nat) (hj : j < s.size), p s[j] = true) : s.data.toList.all p = true := by
  rw [List.all_eq_true]
  intro x hx
  obtain ⟨j, hj, e⟩ := List.getElem_of_mem hx
  have hj' : j < s.size := by simpa using hj
  have := h j hj'
  rw [← e]
  exact this
theorem all_not {s : ByteArray} {p : UInt8 → Bool} {j : Nat} (hj : j < s.size) (h : p s[j] = false) : s.data.toList.all p = false := by
  rw [Bool.eq_false_iff]
  intro e
  rw [List.all_eq_true] at e
  have := e s[j] (by
    have : s[j] = s.data.toList[j]'(by simpa using hj) := rfl
    rw [this]
    exact List.getElem_mem _)
  rw [h] at this
  cases this

set_option maxHeartbeats 4000000 in
theorem name_any (s : ByteArray) (w : World) : Calls Tryd.prog 12 #[.string s] w fun e w' => e = .returned (.bool (nameB s)) ∧ Ext w w' := by
  by_cases d1 : s.toList = [46]
  · have E : nameB s = false := by simp [nameB, d1]
    rw [E]
    go_enter Tryd.func12, Tryd.ntmps12
    go_wp2
    go_ret
    exact ⟨rfl, Ext.refl _⟩
  by_cases d2 : s.toList = [46, 46]
  · have E : nameB s = false := by simp [nameB, d2]
    rw [E]
    go_enter Tryd.func12, Tryd.ntmps12
    go_wp2
    go_ret
    exact ⟨rfl, Ext.refl _⟩
  by_cases d3 : s.size < 1
  · have E : nameB s = false := by have : ¬ 1 ≤ s.size := by omega
                                   simp [nameB, this]
    rw [E]
    go_enter Tryd.func12, Tryd.ntmps12
    go_wp2
    go_ret
    exact ⟨rfl, Ext.refl _⟩
  by_cases d4 : 11 < s.size
  · have E : nameB s = false := by have : ¬ s.size ≤ 11 := by omega
                                   simp [nameB, this]
    rw [E]
    go_enter Tryd.func12, Tryd.ntmps12
    go_wp2
    go_ret
    exact ⟨rfl, Ext.refl _⟩
  have E : nameB s = s.data.toList.all plainU := by
    have h1 : 1 ≤ s.size := by omega
    have h2 : s.size ≤ 11 := by omega
    unfold nameB
    rw [beq_eq_false_iff_ne.2 d1, beq_eq_false_iff_ne.2 d2, decide_eq_true h1, decide_eq_true h2]
    rfl
  rw [E]
  clear E
  replace d1 : (s.toList == [46]) = false := beq_eq_false_iff_ne.2 d1
  replace d2 : (s.toList == [46, 46]) = false := beq_eq_false_iff_ne.2 d2
  replace d3 : decide ((s.size : Int) < 1) = false := decide_eq_false (by omega)
  replace d4 : decide (11 < (s.size : Int)) = false := decide_eq_false (by omega)
  go_enter Tryd.func12, Tryd.ntmps12
  go_wp2
  go_loopw [] (fun w' => ∃ pos, w' = w.iter s pos ∧ ∀ (j : Nat) (hj : j < s.size), j < pos → plainU s[j] = true) (fun w' => s.size - w'.iterPos w.heap.size)
  case atStart => exact ⟨0, rfl, fun j _ h => by omega⟩
  case round =>
    obtain ⟨pos, rfl, hpre⟩ := hrel
    have HP := Lib.hid hpre
    clear hpre
    by_cases hp : pos < s.size
    · by_cases ha : (s[pos]'hp).toNat < 128
      · have hnx : ∀ ty, (Instr.next (.pointer (some ⟨w.heap.size, 0, none⟩)) true ty).run Tryd.prog (w.iter s pos) = _ := fun ty => run_next_ascii w s pos ty hp ha
        by_cases hq : plainU s[pos] = true
        · have hq' : plainI (s[pos].toNat : Int) = true := hq
          go_wp2_with (go_at_call 35; refine (plain_any _ _).mono ?_; rintro e w' ⟨rfl, rfl⟩; rw [hq'])
          go_roundw
          case rel =>
            refine ⟨pos + 1, rfl, fun j hj h => ?_⟩
            by_cases e : j = pos
            · subst e; exact hq
            · exact HP.out j hj (by omega)
          case measure => simp; omega
        · have hq0 : plainU s[pos] = false := by simpa using hq
          have hq' : plainI (s[pos].toNat : Int) = false := hq0
          go_wp2_with (go_at_call 35; refine (plain_any _ _).mono ?_; rintro e w' ⟨rfl, rfl⟩; rw [hq'])
          go_ret
          exact ⟨ret_bool (all_not hp hq0).symm, (Ext.refl _).alloc _⟩
      · have hh := (decode_high s pos hp (by omega)).1
        have hq' := high_plain hh
        have hq0 : plainU s[pos] = false := high_plain (by omega)
        have hnx : ∀ ty, (Instr.next (.pointer (some ⟨w.heap.size, 0, none⟩)) true ty).run Tryd.prog (w.iter s pos) = _ := fun ty => run_next_any w s pos ty hp
        clear hh
        go_wp2_with (go_at_call 35; refine (plain_any _ _).mono ?_; rintro e w' ⟨rfl, rfl⟩; rw [hq'])
        go_ret
        exact ⟨ret_bool (all_not hp hq0).symm, (Ext.refl _).alloc _⟩
    · have hnx : ∀ ty, (Instr.next (.pointer (some ⟨w.heap.size, 0, none⟩)) true ty).run Tryd.prog (w.iter s pos) = _ := fun ty => run_next_end w s pos ty hp
      go_wp2
      go_ret
      exact ⟨ret_bool (all_upto fun j hj => HP.out j hj (by omega)).symm, (Ext.refl _).alloc _⟩
end Go.Proofs.YtdocdppimpapiabDoor

namespace Go.Proofs.YtdocdppimpapiabDoor
open Go.RowKit

/-- An entry: the name, the inode's number. -/
abbrev En := ByteArray × Int
def eE (e : En) : List Value := [.string e.1, .int .i64 e.2]
theorem eE_len (e : En) : (eE e).length = 2 := rfl
theorem eE_one (e : En) : ∀ u ∈ eE e, u.oneCell' = true := fun u hu => by
  simp only [eE, List.mem_cons, List.mem_nil_iff, or_false] at hu
  rcases hu with rfl | rfl <;> rfl
theorem Sl.en {Q : Nat → Prop} {w : World} {A : Option Addr} {n cap : Nat} {xs : List En} (h : Sl eE 2 Q w A n cap xs) (k : Nat) (hk : k < n) :
    ∃ b off s l, A = some ⟨b, off, none⟩ ∧ xs[k]? = some (s, l) ∧ Q b ∧ b < w.heap.size ∧ w.cell? ⟨b, off + k * 2, none⟩ = some (.string s) ∧ w.cell? ⟨b, off + k * 2 + 1, none⟩ = some (.int .i64 l) := by
  have hl : k < xs.length := by rw [← h.len]; exact hk
  have hx : xs[k]? = some xs[k] := List.getElem?_eq_getElem hl
  obtain ⟨b, off, ha, hb, hc⟩ := h.at_ k _ hx
  have c0 := hc 0 _ rfl
  rw [Nat.add_zero] at c0
  exact ⟨b, off, _, _, ha, hx, hb, World.block_lt_of_cell? w _ c0, c0, hc 1 _ rfl⟩
/-- Is a text before another one? -/
def lessB (a b : ByteArray) : Bool := Op.bytesLess a.toList b.toList
def nodeB (v : Int) : Bool := decide (1 ≤ v) && decide (v ≤ 65535)
/-- Does a name not stand behind the one before? -/
def prevNot (p : Option ByteArray) (s : ByteArray) : Bool := match p with
  | none => false
  | some q => !lessB q s
def chkN (prev : Option ByteArray) : List En → Int
  | [] => 0
  | p :: l => if nameB p.1 = false then 18 else if nodeB p.2 = false ∨ prevNot prev p.1 = true then 4 else chkN (some p.1) l
/-- The error of entries. -/
def checkE (l : List En) : Int := if 32 < l.length then 17 else chkN none l
def prevNm (l : List En) (k : Nat) : Option ByteArray := if k = 0 then none else (l[k - 1]?).map (·.1)
theorem chkN_step {l : List En} {k : Nat} {p : En} (h : l[k]? = some p) :
    chkN (prevNm l k) (l.drop k) = if nameB p.1 = false then 18 else if nodeB p.2 = false ∨ prevNot (prevNm l k) p.1 = true then 4 else chkN (prevNm l (k + 1)) (l.drop (k + 1)) := by
  have hk : k < l.length := by
    rcases Nat.lt_or_ge k l.length with h1 | h1
    · exact h1
    · rw [List.getElem?_eq_none h1] at h; cases h
  have h1 : prevNm l (k + 1) = some p.1 := by simp [prevNm, h]
  have h2 : l[k] = p := by rw [List.getElem?_eq_getElem hk] at h; injection h
  rw [List.drop_eq_getElem_cons hk, h1, h2]
  rfl

theorem less_tot : ∀ a b : List UInt8, (Op.bytesLess a b || a == b) = !(Op.bytesLess b a)
  | [], [] => rfl
  | [], _ :: _ => rfl
  | _ :: _, [] => rfl
  | a :: x, b :: y => by
    have ih := less_tot x y
    by_cases h : a = b
    · subst h
      have h1 : decide (a < a) = false := decide_eq_false (by rw [UInt8.lt_iff_toNat_lt]; omega)
      have h2 : (a == a) = true := by simp
      have h3 : ((a :: x) == (a :: y)) = (x == y) := by rw [Bool.eq_iff_iff]; simp
      simp only [Op.bytesLess, h1, h2, h3, Bool.false_or, Bool.true_and]
      exact ih
    · have h2 : (a == b) = false := by simpa using h
      have h3 : (b == a) = false := by simpa using fun e => h e.symm
      have h4 : ((a :: x) == (b :: y)) = false := by rw [Bool.eq_false_iff]; simp; intro e; exact absurd e h
      have h5 : a.toNat ≠ b.toNat := fun e => h (UInt8.toNat_inj.1 e)
      simp only [Op.bytesLess, h2, h3, h4, Bool.false_and, Bool.or_false]
      rw [Bool.eq_iff_iff]
      simp [UInt8.lt_iff_toNat_lt]
      omega

set_option maxHeartbeats 400000 in
theorem node_any (v : Int) (w : World) : Calls Tryd.prog 30 #[.int .i64 v] w fun e w' => e = .returned (.bool (nodeB v)) ∧ w = w' := by
  by_cases h : 1 ≤ v
  · go_enter Tryd.func30, Tryd.ntmps30
    go_wp2
    go_ret
    exact ⟨ret_bool (by simp [nodeB, h]), rfl⟩
  · go_enter Tryd.func30, Tryd.ntmps30
    go_wp2
    go_ret
    exact ⟨ret_bool (by simp [nodeB]; omega), rfl⟩

theorem node_q {v : Int} {b : Bool} (h : nodeB v = b) (w : World) : Calls Tryd.prog 30 #[.int .i64 v] w fun e w' => e = .returned (.bool b) ∧ Drawn w w' :=
  (node_any v w).mono fun _ _ r => ⟨by rw [← h]; exact r.1, r.2 ▸ Drawn.refl _⟩

theorem chkN_name {l : List En} {k : Nat} {s : ByteArray} {v : Int} (h : l[k]? = some (s, v)) (h1 : nameB s = false) : chkN (prevNm l k) (l.drop k) = 18 := by
  rw [chkN_step h, if_pos h1]
theorem chkN_form {l : List En} {k : Nat} {s : ByteArray} {v : Int} (h : l[k]? = some (s, v)) (h1 : nameB s = true) (h2 : nodeB v = false ∨ prevNot (prevNm l k) s = true) : chkN (prevNm l k) (l.drop k) = 4 := by
  rw [chkN_step h, if_neg (by rw [h1]; decide), if_pos h2]
theorem chkN_go {l : List En} {k : Nat} {s : ByteArray} {v : Int} (h : l[k]? = some (s, v)) (h1 : nameB s = true) (h2 : nodeB v = true) (h3 : prevNot (prevNm l k) s = false) : chkN (prevNm l k) (l.drop k) = chkN (prevNm l (k + 1)) (l.drop (k + 1)) := by
  rw [chkN_step h, if_neg (by rw [h1]; decide), if_neg]
  rintro (h4 | h4)
  · rw [h2] at h4; cases h4
  · rw [h3] at h4; cases h4

set_option maxHeartbeats 4000000 in
theorem dcheck_any (A : Option Addr) (n c : Nat) (l : List En) (Q : Nat → Prop) (w : World) (h : Sl eE 2 Q w A n c l) :
    Calls Tryd.prog 8 #[.slice A n c] w fun e w' => e = .returned (.int .i64 (checkE l)) ∧ Ext w w' := by
  have HN := Lib.hid h.len
  have H := Lib.hid h
  clear h
  by_cases h32 : 32 < n
  · have E : checkE l = 17 := by unfold checkE; rw [if_pos (by rw [← HN.out]; exact h32)]
    rw [E]
    go_enter Tryd.func8, Tryd.ntmps8
    go_wp2
    go_ret
    exact ⟨rfl, Ext.refl _⟩
  have E : checkE l = chkN none l := by unfold checkE; rw [if_neg (by rw [← HN.out]; exact h32)]
  rw [E]
  clear E
  go_enter Tryd.func8, Tryd.ntmps8
  go_wp2
  go_loopw [10] (fun i wr => ∃ k : Nat, k ≤ n ∧ i = .int .i64 k ∧ chkN (prevNm l k) (l.drop k) = chkN none l ∧ Ext w wr) (fun i _ => n - (intOf i).toNat)
  case atStart => exact ⟨0, Nat.zero_le _, rfl, rfl, Ext.refl _⟩
  case round =>
    obtain ⟨k, hk, rfl, hch, hx⟩ := hrel
    have HCH := Lib.hid hch
    have HX := Lib.hid hx
    clear hch hx
    by_cases hlt : k < n
    · obtain ⟨b, o, s, v, rfl, hp, _, hbl, hc0, hc1⟩ := H.out.en k hlt
      replace hc0 := HX.out.at hc0
      replace hc1 := HX.out.at hc1
      have k0 : (0 : Int) ≤ (k : Int) := by omega
      have k9 : (k : Int) < (n : Int) := by omega
      have b0 := cell_new wr #[.string s, .int .i64 v] 47 0 (0, 0) rfl
      have b1 := cell_new wr #[.string s, .int .i64 v] 47 1 (0, 0) rfl
      have HP := Lib.hid hp
      clear hp
      by_cases hnm : nameB s = true
      · by_cases hnd : nodeB v = true
        · by_cases hk0 : k = 0
          · have hd0 : decide (0 < k) = false := by simp; omega
            have hd0' : decide ((0 : Int) < (k : Int)) = false := by simp; omega
            have HPB : prevNot (prevNm l k) s = false := by simp [prevNm, hk0, prevNot]
            have H1 := Lib.hid (HCH.out.symm.trans (chkN_go HP.out hnm hnd HPB))
            clear HPB hk0
            go_wp2_with (go_at_call 12; refine (name_any _ _).mono ?_; rw [hnm]; rintro e w3 ⟨rfl, he3⟩; have c0 := he3.at b0; have c1 := he3.at b1)
            go_quiet ((go_at_call 30; exact quietD (node_q hnd _)))
            go_wp2
            exact ⟨⟨k + 1, by omega, by go_num, H1.out.symm, HX.out.trans ((((Ext.refl _).alloc _).trans he3).drewN _)⟩, by simp [intOf]; omega⟩
          · obtain ⟨b2, o2, s2, v2, hA, hp2, _, _, hq0, _⟩ := H.out.en (k - 1) (by omega)
            simp only [Option.some.injEq, Addr.mk.injEq, and_true] at hA
            obtain ⟨rfl, rfl⟩ := hA
            replace hq0 := HX.out.at hq0
            have hd0 : decide (0 < k) = true := by simp; omega
            have hd0' : decide ((0 : Int) < (k : Int)) = true := by simp; omega
            have k1 : (0 : Int) ≤ (k : Int) - 1 := by omega
            have k2 : (1 : Int) ≤ (k : Int) := by omega
            have k3 : 1 ≤ k := by omega
            have k4 : (k : Int) - 1 < (n : Int) := by omega
            have hpv : prevNm l k = some s2 := by simp [prevNm, hk0, hp2]
            have HPV := Lib.hid hpv
            clear hp2 hk0 hpv
            by_cases hls : Op.bytesLess s2.toList s.toList = true
            · have hle : (Op.bytesLess s.toList s2.toList || s.toList == s2.toList) = false := by rw [less_tot, hls]; rfl
              have H1 := Lib.hid (HCH.out.symm.trans (chkN_go HP.out hnm hnd (by rw [HPV.out]; show (!(Op.bytesLess s2.toList s.toList)) = false; rw [hls]; rfl)))
              go_wp2_with (go_at_call 12; refine (name_any _ _).mono ?_; rw [hnm]; rintro e w3 ⟨rfl, he3⟩; have c0 := he3.at b0; have c1 := he3.at b1; have q0 := he3.at (((Ext.refl _).alloc (.cells #[.string s, .int .i64 v] 47)).at hq0))
              go_quiet ((go_at_call 30; exact quietD (node_q hnd _)))
              go_wp2
              exact ⟨⟨k + 1, by omega, by go_num, H1.out.symm, HX.out.trans ((((Ext.refl _).alloc _).trans he3).drewN _)⟩, by simp [intOf]; omega⟩
            · replace hls : Op.bytesLess s2.toList s.toList = false := by simpa using hls
              have hle : (Op.bytesLess s.toList s2.toList || s.toList == s2.toList) = true := by rw [less_tot, hls]; rfl
              have H1 := Lib.hid (HCH.out.symm.trans (chkN_form HP.out hnm (.inr (by rw [HPV.out]; show (!(Op.bytesLess s2.toList s.toList)) = true; rw [hls]; rfl))))
              go_wp2_with (go_at_call 12; refine (name_any _ _).mono ?_; rw [hnm]; rintro e w3 ⟨rfl, he3⟩; have c0 := he3.at b0; have c1 := he3.at b1; have q0 := he3.at (((Ext.refl _).alloc (.cells #[.string s, .int .i64 v] 47)).at hq0))
              go_quiet ((go_at_call 30; exact quietD (node_q hnd _)))
              go_wp2
              go_ret
              exact ⟨ret_int H1.out.symm, HX.out.trans ((((Ext.refl _).alloc _).trans he3).drewN _)⟩
        · replace hnd : nodeB v = false := by simpa using hnd
          have H1 := Lib.hid (HCH.out.symm.trans (chkN_form HP.out hnm (.inl hnd)))
          go_wp2_with (go_at_call 12; refine (name_any _ _).mono ?_; rw [hnm]; rintro e w3 ⟨rfl, he3⟩; have c0 := he3.at b0; have c1 := he3.at b1)
          go_quiet ((go_at_call 30; exact quietD (node_q hnd _)))
          go_wp2
          go_ret
          exact ⟨ret_int H1.out.symm, HX.out.trans ((((Ext.refl _).alloc _).trans he3).drewN _)⟩
      · replace hnm : nameB s = false := by simpa using hnm
        have H1 := Lib.hid (HCH.out.symm.trans (chkN_name HP.out hnm))
        go_wp2_with (go_at_call 12; refine (name_any _ _).mono ?_; rw [hnm]; rintro e w3 ⟨rfl, he3⟩)
        go_ret
        exact ⟨ret_int H1.out.symm, HX.out.trans (((Ext.refl _).alloc _).trans he3)⟩
    · have hE : chkN none l = 0 := by
        have h1 := HCH.out
        rw [List.drop_eq_nil_of_le (by rw [← HN.out]; omega)] at h1
        exact h1.symm
      have H1 := Lib.hid hE
      clear hE
      go_wp2
      go_ret
      exact ⟨ret_int H1.out.symm, HX.out⟩
end Go.Proofs.YtdocdppimpapiabDoor

namespace Go.Proofs.YtdocdppimpapiabDoor
open Go.RowKit

/-- A text's bytes. -/
def bytesL (s : ByteArray) : List Int := s.data.toList.map fun u => (u.toNat : Int)
theorem bytesL_len (s : ByteArray) : (bytesL s).length = s.size := by simp [bytesL]
theorem bytes_ext (w : World) (t : TypeId) (s : ByteArray) : Ext w (Lib.bytesWorld w t s) :=
  ⟨⟨by simp [Lib.bytesWorld, World.freeze, World.alloc, World.drew, -World.alloc_eq, -World.drew_eq], by simp [Lib.bytesWorld, World.freeze, World.alloc, World.drew, -World.alloc_eq, -World.drew_eq], by simp [Lib.bytesWorld, World.freeze, World.alloc, World.drew, -World.alloc_eq, -World.drew_eq], by rw [Lib.bytesWorld_size]; omega, fun k hk => Lib.bytesWorld_at_old w t s k hk⟩⟩
theorem bytes_sl (w : World) (s : ByteArray) (hs : s.size ≤ 1048576) : Sl (eI .u8) 1 (fun k => w.heap.size ≤ k) (Lib.bytesWorld w 5 s) (some ⟨w.heap.size, 0, none⟩) s.size (grownCap w s.size 0 5) (bytesL s) := by
  refine ⟨(bytesL_len s).symm, grownCap_ge _ _ _ _, Nat.le_trans (grownCap_le_maxLen _ _ _ _ (by unfold maxLen; omega)) (by unfold maxLen; omega), fun i x hx => ⟨_, _, rfl, Nat.le_refl _, fun j u hu => ?_⟩⟩
  have hj : j = 0 := by
    rcases Nat.eq_zero_or_pos j with h | h
    · exact h
    · rw [List.getElem?_eq_none (by rw [eI_len]; exact h)] at hu; cases hu
  subst hj
  have hi : i < s.size := by
    rcases Nat.lt_or_ge i s.size with h | h
    · exact h
    · rw [List.getElem?_eq_none (by rw [bytesL_len]; exact h)] at hx; cases hx
  have hu' : u = .int .u8 x := by simpa [eI] using hu.symm
  subst hu'
  rw [Nat.mul_one, Nat.zero_add, Nat.add_zero, Lib.bytesWorld_cell w _ s i hi]
  simp only [bytesL, List.getElem?_map] at hx
  rw [List.getElem?_eq_getElem (by simpa using hi)] at hx
  injection hx with hx
  subst hx
  simp [List.getD, hi]

/-- An entry's bytes. -/
def encN (e : En) : List Int := beB e.1.size 1 ++ bytesL e.1 ++ List.replicate (11 - e.1.size) 0 ++ beB e.2 4
def encsN (l : List En) : List Int := l.flatMap encN
def putD (l : List En) : List Int := if checkE l = 0 then encsN l else []
theorem encN_len {e : En} (h : e.1.size ≤ 11) : (encN e).length = 16 := by
  simp only [encN, List.length_append, beB_len, bytesL_len, List.length_replicate]
  omega
theorem nameB_size {s : ByteArray} (h : nameB s = true) : 1 ≤ s.size ∧ s.size ≤ 11 := by
  simp only [nameB, Bool.and_eq_true, decide_eq_true_eq] at h
  exact ⟨h.1, h.2.1⟩
theorem chkN_ok : ∀ {l : List En} {p : Option ByteArray}, chkN p l = 0 → ∀ e ∈ l, nameB e.1 = true ∧ nodeB e.2 = true
  | [], _, _, e, he => by cases he
  | x :: l, p, h, e, he => by
    unfold chkN at h
    by_cases h1 : nameB x.1 = false
    · rw [if_pos h1] at h; cases h
    · rw [if_neg h1] at h
      by_cases h2 : nodeB x.2 = false ∨ prevNot p x.1 = true
      · rw [if_pos h2] at h; cases h
      · rw [if_neg h2] at h
        rcases List.mem_cons.1 he with rfl | he
        · refine ⟨by simpa using h1, ?_⟩
          cases hn : nodeB e.2
          · exact absurd (.inl hn) h2
          · rfl
        · exact chkN_ok h e he
theorem checkE_ok {l : List En} (h : checkE l = 0) : l.length ≤ 32 ∧ ∀ e ∈ l, (1 ≤ e.1.size ∧ e.1.size ≤ 11) ∧ 1 ≤ e.2 ∧ e.2 ≤ 65535 := by
  unfold checkE at h
  by_cases h1 : 32 < l.length
  · rw [if_pos h1] at h; cases h
  · rw [if_neg h1] at h
    refine ⟨by omega, fun e he => ?_⟩
    have := chkN_ok h e he
    refine ⟨nameB_size this.1, ?_⟩
    have h2 := this.2
    simp only [nodeB, Bool.and_eq_true, decide_eq_true_eq] at h2
    exact h2
theorem encsN_len {l : List En} (h : ∀ e ∈ l, e.1.size ≤ 11) : (encsN l).length = l.length * 16 := by
  induction l with
  | nil => rfl
  | cons e l ih =>
    rw [encsN, List.flatMap_cons, List.length_append, encN_len (h e List.mem_cons_self)]
    have := ih fun x hx => h x (List.mem_cons_of_mem _ hx)
    rw [encsN] at this
    rw [this, List.length_cons]
    omega
/-- Bytes and an error come back. -/
def RetBE (l : List Int) (er : Int) (w : World) (e : Ending) (w' : World) : Prop :=
  ∃ A n cap, e = .returned (.tuple #[.slice A n cap, .int .i64 er]) ∧ Sl (eI .u8) 1 (fun k => w.heap.size ≤ k) w' A n cap l ∧ Ext w w'
theorem putO_ok {most : Int} {l b : List Int} (h : (l.length : Int) + b.length ≤ most) : putO most (l, 0) b = (l ++ b, 0) := by
  unfold putO
  rw [if_pos rfl, if_neg (by simp only; omega)]
theorem p256_1 {x : Int} (h : x ≤ 255) : x < 256 ^ 1 := by omega
theorem p256_4 {x : Int} (h : x ≤ 65535) : x < 256 ^ 4 := by omega
theorem encsN_next {l : List En} {k : Nat} {e : En} (h : l[k]? = some e) : encsN (l.take k) ++ beB e.1.size 1 ++ bytesL e.1 ++ List.replicate (11 - e.1.size) 0 ++ beB e.2 4 = encsN (l.take (k + 1)) := by
  unfold encsN
  rw [List.take_add_one, h, List.flatMap_append]
  simp [encN, List.append_assoc]

set_option maxHeartbeats 3200000 in
theorem dput_any (A : Option Addr) (n c : Nat) (l : List En) (Q : Nat → Prop) (w : World) (h : Sl eE 2 Q w A n c l) :
    Calls Tryd.prog 10 #[.slice A n c] w (RetBE (putD l) (checkE l) w) := by
  have HL := Lib.hid h.len
  have H := Lib.hid h
  clear h
  by_cases hc : checkE l = 0
  · have hp : putD l = encsN (l.take n) := by unfold putD; rw [if_pos hc, List.take_of_length_le (by rw [HL.out]; exact Nat.le_refl _)]
    rw [hp, hc]
    obtain ⟨h32, hall⟩ := checkE_ok hc
    have hn : n ≤ 32 := by rw [HL.out]; exact h32
    have HALL := Lib.hid hall
    have HC := Lib.hid hc
    clear hc hp hall h32
    have HK : ∀ W s, (convert 9 29 (.string s)).run Tryd.prog W = .ok (.slice (some ⟨W.heap.size, 0, none⟩) s.size (grownCap W s.size 0 5)) (Lib.bytesWorld W 5 s) := fun W s => Lib.run_convert_string_bytes W 9 29 5 s Tryd.underlying9 Tryd.underlying29 Tryd.underlying5
    go_enter Tryd.func10, Tryd.ntmps10
    go_wp2_with (first
      | (go_at_call 8; go_must (refine (dcheck_any _ _ _ _ _ _ H.out).mono ?_); rintro e w1 ⟨rfl, he1⟩; rw [HC.out]; replace he1 := Lib.hid he1)
      | (go_at_call 31; go_must (refine (onew_any 512 _ (by decide)).mono ?_); rintro e w2 ⟨g, rfl, ho2, he2⟩; replace ho2 := Lib.hid ho2; replace he2 := Lib.hid he2))
    have hxA : Ext w w2 := he1.out.trans he2.out
    have HB := Lib.hid he1.out.size
    replace hxA := Lib.hid hxA
    go_loopw [16] (fun i wr => ∃ k : Nat, k ≤ n ∧ i = .int .i64 k ∧ OutAt w1.heap.size wr g 512 (encsN (l.take k)) 0 ∧ Ext w wr) (fun i _ => n - (intOf i).toNat)
    case atStart => exact ⟨0, Nat.zero_le _, rfl, ho2.out, hxA.out⟩
    case round =>
      obtain ⟨k, hk, rfl, ho, hx⟩ := hrel
      have HT := Lib.hid ho
      have HX := Lib.hid hx
      clear ho hx
      have hlen : (encsN (l.take k)).length = (l.take k).length * 16 := encsN_len fun e he => (HALL.out e (List.mem_of_mem_take he)).1.2
      by_cases hlt : k < n
      · obtain ⟨b1, o1, s1, v1, rfl, hp, _, hbl, hc0, hc1⟩ := H.out.en k hlt
        replace hc0 := HX.out.at hc0
        replace hc1 := HX.out.at hc1
        obtain ⟨⟨h1, h2⟩, h3, h4⟩ := HALL.out _ (List.mem_of_getElem? hp)
        simp only at h1 h2 h3 h4
        have HP := Lib.hid hp
        have k0 : (0 : Int) ≤ (k : Int) := by omega
        have k9 : (k : Int) < (n : Int) := by omega
        have hk7 : (l.take k).length ≤ 31 := by rw [List.length_take]; omega
        have hle : (encsN (l.take k)).length ≤ 496 := by omega
        have HLE := Lib.hid hle
        have s0 : (0 : Int) ≤ (s1.size : Int) := by omega
        have s1' : (s1.size : Int) ≤ 11 := by omega
        clear hp hlen hle
        go_wp2_with fail
        refine (oPut_any w1.heap.size _ 512 _ 0 s1.size 1 _ (HT.out.ext ((Ext.refl _).alloc _)) (by have := HLE.out; omega) (by decide) (by omega) (p256_1 (by omega)) (by decide) (by decide)).mono ?_
        rintro e w6 ⟨rfl, ho6, hk6⟩
        rw [putO_ok (by have := HLE.out; rw [beB_len]; omega)] at ho6
        have hx6 : Ext w w6 := Kept.ext (HX.out.alloc _) hk6 HB.out
        have hb6 := hk6.oth _ _ _ _ (heap_alloc_new wr _) (by decide) (by decide)
        have y0 := cell_of_heap hb6 0; have y1 := cell_of_heap hb6 1; simp only [List.getElem?_toArray, List.getElem?_cons_zero, List.getElem?_cons_succ] at y0 y1
        replace ho6 := Lib.hid ho6
        replace hx6 := Lib.hid hx6
        replace hb6 := Lib.hid hb6
        clear hk6
        go_wp2_with fail
        refine (oRaw_any w1.heap.size _ 512 _ 0 _ _ _ _ _ _ (ho6.out.ext (bytes_ext _ _ _)) (bytes_sl _ _ (by omega)) (by have := HLE.out; rw [List.length_append, beB_len]; omega) (by rw [bytesL_len]; omega) (by decide)).mono ?_
        rintro e w7 ⟨rfl, ho7, hk7⟩
        rw [putO_ok (by have := HLE.out; rw [List.length_append, beB_len, bytesL_len]; omega)] at ho7
        have hx7 : Ext w w7 := Kept.ext (hx6.out.trans (bytes_ext _ _ _)) hk7 HB.out
        have hb7 := hk7.oth _ _ _ _ ((bytes_ext w6 5 s1).heap hb6.out) (by decide) (by decide)
        have z0 := cell_of_heap hb7 0; have z1 := cell_of_heap hb7 1; simp only [List.getElem?_toArray, List.getElem?_cons_zero, List.getElem?_cons_succ] at z0 z1
        replace ho7 := Lib.hid ho7
        replace hx7 := Lib.hid hx7
        replace hb7 := Lib.hid hb7
        clear hk7
        have HN11 := Lib.hid (show (11 : Int) - (s1.size : Int) = ((11 - s1.size : Nat) : Int) by omega)
        go_wp2_with (at_make; refine wpList_mk _ rfl _ _ 29 rfl w7.heap.size info_u8 Tryd.underlying29 .i64 .i64 _ _ (11 - s1.size) rfl rfl HN11.out HN11.out (by omega) (by omega) (Nat.le_refl _) ?_; intro w8 hO8 hg8 hz8; have hE8 : Ext w7 w8 := (Ext.refl _).grown hg8 (fun _ h => by cases h); replace hO8 := Lib.hid hO8; replace hE8 := Lib.hid hE8; clear hg8)
        refine (oRaw_any w1.heap.size _ 512 _ 0 _ _ _ _ _ _ (ho7.out.ext hE8.out) (hO8.out.sl (eI_len _)) (by have := HLE.out; rw [List.length_append, List.length_append, beB_len, bytesL_len]; omega) (by rw [List.length_replicate]; omega) (by decide)).mono ?_
        rintro e w9 ⟨rfl, ho9, hk9⟩
        rw [putO_ok (by have := HLE.out; rw [List.length_append, List.length_append, beB_len, bytesL_len, List.length_replicate]; omega)] at ho9
        have hx9 : Ext w w9 := Kept.ext (hx7.out.trans hE8.out) hk9 HB.out
        have hb9 := hk9.oth _ _ _ _ (hE8.out.heap hb7.out) (by decide) (by decide)
        have x0 := cell_of_heap hb9 0; have x1 := cell_of_heap hb9 1; simp only [List.getElem?_toArray, List.getElem?_cons_zero, List.getElem?_cons_succ] at x0 x1
        replace ho9 := Lib.hid ho9
        replace hx9 := Lib.hid hx9
        clear hk9 hb9
        go_wp2_with fail
        refine (oPut_any w1.heap.size _ 512 _ 0 v1 4 _ ho9.out (by have := HLE.out; rw [List.length_append, List.length_append, List.length_append, beB_len, bytesL_len, List.length_replicate]; omega) (by decide) (by omega) (p256_4 (by omega)) (by decide) (by decide)).mono ?_
        rintro e w10 ⟨rfl, ho10, hk10⟩
        rw [putO_ok (by have := HLE.out; rw [List.length_append, List.length_append, List.length_append, beB_len, bytesL_len, List.length_replicate, beB_len]; omega)] at ho10
        have hx10 : Ext w w10 := Kept.ext hx9.out hk10 HB.out
        have hfin : OutAt w1.heap.size w10 g 512 (encsN (l.take (k + 1))) 0 := by rw [← encsN_next HP.out]; exact ho10
        replace hfin := Lib.hid hfin
        replace hx10 := Lib.hid hx10
        clear ho10 hk10
        go_wp2
        exact ⟨⟨k + 1, by omega, by go_num, hfin.out, hx10.out⟩, by simp [intOf]; omega⟩
      · obtain rfl : k = n := by omega
        have hle : (encsN (l.take k)).length ≤ 1048576 := by rw [hlen, List.length_take]; omega
        have HLE := Lib.hid hle
        clear hlen hle
        go_wp2_with (go_at_call 34; refine (oDone_any _ _ _ _ _ _ HT.out HLE.out).mono ?_; rintro e w7 ⟨A7, n7, cap7, rfl, hs7, he7⟩)
        go_ret2
        exact ⟨A7, n7, cap7, rfl, hs7.mono fun j hj => Nat.le_trans HX.out.size hj, HX.out.trans he7⟩
  · rw [show putD l = [] by unfold putD; rw [if_neg hc]]
    have e0 : (checkE l != 0) = true := by simp [hc]
    clear hc
    go_enter Tryd.func10, Tryd.ntmps10
    go_wp2_with (go_at_call 8; refine (dcheck_any _ _ _ _ _ _ H.out).mono ?_; rintro e w1 ⟨rfl, he1⟩)
    go_ret2
    exact ⟨none, 0, 0, rfl, Sl.nil _ _ none 0 (Nat.zero_le _), he1⟩
end Go.Proofs.YtdocdppimpapiabDoor
