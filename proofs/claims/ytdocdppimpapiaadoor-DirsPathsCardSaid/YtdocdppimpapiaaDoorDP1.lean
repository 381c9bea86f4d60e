/-
  A frame of small words for the walks: 'Ext w w'': nothing that lay in w has turned; closing lemmas. No Go in it. What a slice in memory reads as ('Sl': elements encoded as cells), what a call owns ('Ow'), and what a step keeps. No function of the program. Steps that keep the blocks of which P holds. No function of the program. dirs.plain and dirs.Name. Bytes of a text; a name's length. No function of the program. strings.CutPrefix, strings.Split, Builder.String, Equal of strings and what they lean on, laid by the shelf (lay-shelf, lay-plain). slices.ContainsFunc at texts with the literal of dirs.Split: is one of them no name?. dirs.Split: a path's names. strings.Builder: the own-pointer check. strings.Builder: WriteString. dirs.Join: the path of names. dirs.Above: a path without its last name, and that. dirs.Under: is a path another one, or below it?; the page's example.
-/
import Derived.Test.YtdocdppimpapiaaDoorProg
import Derived.Below
import Derived.WalkKit
import Derived.OwnWalk
import Derived.Deep.QuietTactic
import Derived.BigQuiet
import Derived.Deep.RegionHeld3
import Derived.Deep.AppendLies
import Derived.WalkLawsBesides
import Derived.WalkSpells
import Derived.IntWalk
import Derived.Lib.Hide
import Derived.Outline
import Derived.Deep.Draws
import Derived.Laws.OwnMore
import Derived.Laws.AppendOwnNone
import Derived.Lib.AppendZeros
import Derived.Laws.RangeString
import Derived.Laws.RangeAny
import Derived.LoopTactic
import Derived.Shelf.Strings.Builder1
import Derived.Shelf.Small.Wraps
import Derived.Shelf.Strings.BuilderF
import Derived.Shelf.Strings.BuilderK
import Derived.Shelf.Utf8.RuneCount
import Derived.Shelf.Strings.Search1
import Derived.Shelf.Strings.Search2
import Derived.Shelf.Strings.Search3
import Derived.Shelf.Strings.Count
import Derived.Shelf.LaysM
import Derived.Shelf.Strings.Shaped
import Derived.Shelf.Strings.Prefix
import Derived.Shelf.Strings.Split
import Derived.Shelf.Strings.SplitShaped
import Derived.Shelf.Unicode.Decode
import Derived.Shelf.Strings.RuneCount
import Derived.Shelf.Strings.Explode
import Derived.Shelf.Unicode.DecodeSlow
import Derived.Shelf.Unicode.DecodeAny
import Derived.Shelf.Strings.BuilderCap
import Derived.Shelf.Slices.Equal
import Derived.Shelf.Slices.Empties2
import Derived.Lib.SplitLaws
import Derived.Lib.Builder
import Derived.Lib.AppendStr
set_option linter.unusedSimpArgs false
set_option linter.unusedVariables false
namespace Go.Proofs.YtdocdppimpapiaaDoor
open Go.RowKit

/-- Nothing that lay in w has turned in w'. -/
structure Ext (w w' : World) : Prop where
  out : Below w.heap.size w w'

theorem Ext.refl (w : World) : Ext w w := ⟨Below.refl _ _⟩
theorem Ext.trans {a b c : World} (h : Ext a b) (k : Ext b c) : Ext a c := ⟨h.out.trans (k.out.mono h.out.size)⟩
theorem Ext.alloc {a b : World} (h : Ext a b) (o : Obj) : Ext a (b.alloc o) := ⟨h.out.alloc h.out.size o⟩
theorem Ext.drew {a b : World} (h : Ext a b) : Ext a b.drew := ⟨h.out.drew⟩
theorem Ext.drewN {a b : World} (h : Ext a b) (n : Nat) : Ext a (b.drewN n) := ⟨below_drewN h.out n⟩
theorem Ext.setCell {a b : World} (h : Ext a b) {p : Addr} (hp : a.heap.size ≤ p.block) (u : Value) : Ext a (b.setCell p u) := ⟨h.out.setCell hp u⟩
theorem Ext.grown {a b c : World} {row : Option Nat} (h : Ext a b) (hg : b.grownBy c row) (hr : ∀ k, row = some k → a.heap.size ≤ k) : Ext a c := ⟨h.out.grown hg h.out.size hr⟩
theorem Ext.size {a b : World} (h : Ext a b) : a.heap.size ≤ b.heap.size := h.out.size
theorem Ext.block {a b : World} (h : Ext a b) (k : Nat) (hk : k < a.heap.size) : b.heap[k]? = a.heap[k]? := h.out.block k hk
theorem ecell {W w1 : World} (hb : Ext W w1) : (∀ b o, b < W.heap.size → w1.cell? ⟨b, o, none⟩ = W.cell? ⟨b, o, none⟩) ∧ (∀ b o, b < W.heap.size → w1.frozen? ⟨b, o, none⟩ = W.frozen? ⟨b, o, none⟩) :=
  ⟨fun b o h => hb.out.cell (p := ⟨b, o, none⟩) h, fun b o h => hb.out.frozen (p := ⟨b, o, none⟩) h⟩

theorem ecell3 {W w1 : World} (hb : Ext W w1) : (∀ b o, b < W.heap.size → w1.cell? ⟨b, o, none⟩ = W.cell? ⟨b, o, none⟩) ∧ (∀ b o, b < W.heap.size → w1.frozen? ⟨b, o, none⟩ = W.frozen? ⟨b, o, none⟩) ∧ (∀ b, b < W.heap.size → b < w1.heap.size) :=
  ⟨fun b o h => hb.out.cell (p := ⟨b, o, none⟩) h, fun b o h => hb.out.frozen (p := ⟨b, o, none⟩) h, fun _ h => Nat.lt_of_lt_of_le h hb.size⟩

theorem Ext.at {a b : World} (h : Ext a b) {p : Addr} {v : Value} (hc : a.cell? p = some v) : b.cell? p = some v := by
  rw [h.out.cell (p := p) (World.block_lt_of_cell? a p hc)]; exact hc
/-- A cell of a block that has just been laid. -/
theorem cell_new (w : World) (cs : Array Value) (t j : Nat) (fr : Nat × Nat) {v : Value} (h : cs[j]? = some v) : (w.alloc (.cells cs t fr)).cell? ⟨w.heap.size, j, none⟩ = some v := by
  unfold World.cell?; simp only [heap_alloc_new]; exact h

theorem ret_bool {a b : Bool} (h : a = b) : Ending.returned (.bool a) = .returned (.bool b) := by rw [h]
theorem ret_int {k : IntKind} {a b : Int} (h : a = b) : Ending.returned (.int k a) = .returned (.int k b) := by rw [h]
theorem ret_ints {a b a' b' : Int} (h : a = a') (h' : b = b') : Ending.returned (.tuple #[.int .i64 a, .int .i64 b]) = .returned (.tuple #[.int .i64 a', .int .i64 b']) := by rw [h, h']
end Go.Proofs.YtdocdppimpapiaaDoor

namespace Go.Proofs.YtdocdppimpapiaaDoor
open Go.RowKit

/-- Slice A n cap reads as l: element i's cells are 'enc l[i]', in a block of which Q holds. -/
structure Sl {α : Type} (enc : α → List Value) (sz : Nat) (Q : Nat → Prop) (w : World) (A : Option Addr) (n cap : Nat) (l : List α) : Prop where
  len : n = l.length
  le : n ≤ cap
  mx : cap ≤ 9223372036854775807
  at_ : ∀ i x, l[i]? = some x → ∃ b off, A = some ⟨b, off, none⟩ ∧ Q b ∧ ∀ j u, (enc x)[j]? = some u → w.cell? ⟨b, off + i * sz + j, none⟩ = some u

section
variable {α : Type} {enc : α → List Value} {sz : Nat} {Q Q' : Nat → Prop} {w w' : World} {A : Option Addr} {n cap : Nat} {l : List α}

theorem Sl.mono (h : Sl enc sz Q w A n cap l) (hq : ∀ k, Q k → Q' k) : Sl enc sz Q' w A n cap l :=
  ⟨h.len, h.le, h.mx, fun i x hx => let ⟨b, off, ha, hb, hc⟩ := h.at_ i x hx; ⟨b, off, ha, hq b hb, hc⟩⟩

/-- Any step that keeps the blocks of which Q holds. -/
theorem Sl.step (h : Sl enc sz Q w A n cap l) (hm : ∀ k, Q k → k < w.heap.size → w'.heap[k]? = w.heap[k]?) : Sl enc sz Q w' A n cap l :=
  ⟨h.len, h.le, h.mx, fun i x hx => by
    obtain ⟨b, off, ha, hb, hc⟩ := h.at_ i x hx
    refine ⟨b, off, ha, hb, fun j u hu => ?_⟩
    have h1 := hc j u hu
    have h2 := World.block_lt_of_cell? w _ h1
    rw [World.cell?_of_block (w := w) (a := ⟨b, off + i * sz + j, none⟩) (hm b hb h2)]
    exact h1⟩

theorem Sl.ext (h : Sl enc sz Q w A n cap l) (he : Ext w w') : Sl enc sz Q w' A n cap l := h.step fun k _ hk => he.block k hk

/-- The blocks lie in w. -/
theorem Sl.inside (h : Sl enc sz Q w A n cap l) (hne : ∀ x, 0 < (enc x).length) : Sl enc sz (fun k => Q k ∧ k < w.heap.size) w A n cap l :=
  ⟨h.len, h.le, h.mx, fun i x hx => by
    obtain ⟨b, off, ha, hb, hc⟩ := h.at_ i x hx
    refine ⟨b, off, ha, ⟨hb, ?_⟩, hc⟩
    have hu : (enc x)[0]? = some ((enc x)[0]'(hne x)) := List.getElem?_eq_getElem _
    exact World.block_lt_of_cell? w _ (hc 0 _ hu)⟩

theorem Sl.grown (h : Sl enc sz Q w A n cap l) {row : Option Nat} (hg : w.grownBy w' row) (hq : ∀ k, Q k → some k ≠ row) : Sl enc sz Q w' A n cap l :=
  h.step fun k hk hlt => hg.block k hlt (hq k hk)

theorem Sl.nil (Q : Nat → Prop) (w : World) (A : Option Addr) (cap : Nat) (hc : cap ≤ 9223372036854775807) : Sl enc sz Q w A 0 cap ([] : List α) :=
  ⟨rfl, Nat.zero_le _, hc, fun i x hx => by simp at hx⟩

/-- s[k:] -/
theorem Sl.drop (h : Sl enc sz Q w A n cap l) (k : Nat) (hk : k ≤ n) :
    Sl enc sz Q w (if cap = k then A else A.map (·.add (k * sz))) (n - k) (cap - k) (l.drop k) := by
  refine ⟨by rw [List.length_drop, h.len], by have := h.le; omega, by have := h.mx; omega, fun i x hx => ?_⟩
  rw [List.getElem?_drop] at hx
  obtain ⟨b, off, ha, hb, hc⟩ := h.at_ (k + i) x hx
  have hlt : k + i < l.length := by
    rcases Nat.lt_or_ge (k + i) l.length with h1 | h1
    · exact h1
    · rw [List.getElem?_eq_none h1] at hx; cases hx
  have hne : cap ≠ k := by have := h.le; have := h.len; omega
  refine ⟨b, off + k * sz, by rw [if_neg hne, ha]; simp only [Option.map_some, Addr.add]; split <;> simp_all, hb, fun j u hu => ?_⟩
  have := hc j u hu
  rw [Nat.add_mul] at this
  rw [show off + k * sz + i * sz + j = off + (k * sz + i * sz) + j by omega]
  exact this
/-- s[:k] -/
theorem Sl.take (h : Sl enc sz Q w A n cap l) (k : Nat) (hk : k ≤ n) (c : Nat) (hc : k ≤ c) (hm : c ≤ 9223372036854775807) : Sl enc sz Q w A k c (l.take k) := by
  refine ⟨by rw [List.length_take, ← h.len]; omega, hc, hm, fun i x hx => ?_⟩
  rw [List.getElem?_take] at hx
  split at hx
  · exact h.at_ i x hx
  · cases hx
end

/-- What a call owns from block 'base' on: a row of elements of type e. -/
structure Ow {α : Type} (enc : α → List Value) (sz e base : Nat) (w : World) (A : Option Addr) (n cap : Nat) (l : List α) : Prop where
  len : n = l.length
  own : w.ownsRow base e sz (.slice A n cap) n (l.flatMap enc)

section
variable {α : Type} {enc : α → List Value} {sz e base : Nat} {w w' : World} {A : Option Addr} {n cap : Nat} {l : List α}

theorem Ow.nil (w : World) : Ow enc sz e base w none 0 0 ([] : List α) := ⟨rfl, World.ownsRow_nil _ _ _ _⟩

theorem Ow.kept (h : Ow enc sz e base w A n cap l) {row : Option Nat} (hg : w.grownBy w' row) (hne : (Value.slice A n cap).ownBlock = none ∨ (Value.slice A n cap).ownBlock ≠ row) : Ow enc sz e base w' A n cap l :=
  ⟨h.len, h.own.kept hg hne⟩
theorem Ow.alloc (h : Ow enc sz e base w A n cap l) (o : Obj) : Ow enc sz e base (w.alloc o) A n cap l := ⟨h.len, h.own.alloc o⟩
theorem Ow.lt (h : Ow enc sz e base w A n cap l) : ∀ k, (Value.slice A n cap).ownBlock = some k → base ≤ k ∧ k < w.heap.size := h.own.lt
theorem Ow.step (h : Ow enc sz e base w A n cap l) (hm : ∀ k, (Value.slice A n cap).ownBlock = some k → w'.heap[k]? = w.heap[k]?) : Ow enc sz e base w' A n cap l := by
  obtain ⟨h0, h1, h2⟩ := h
  refine ⟨h0, h1, ?_⟩
  rcases h2 with h2 | ⟨g, cap, cur, hv, hg, hh, r⟩
  · exact .inl h2
  · exact .inr ⟨g, cap, cur, hv, hg, (hm g (by rw [hv]; rfl)).trans hh, r⟩
theorem Ow.ext (h : Ow enc sz e base w A n cap l) (he : Ext w w') : Ow enc sz e base w' A n cap l := h.step fun k hk => he.block k (h.lt k hk).2

theorem flatMap_get {α β : Type} {enc : α → List β} {sz : Nat} (hsz : ∀ x, (enc x).length = sz) : ∀ (l : List α) (i : Nat) (x : α), l[i]? = some x → ∀ j u, (enc x)[j]? = some u → (l.flatMap enc)[i * sz + j]? = some u
  | [], i, x, h => by simp at h
  | y :: l, 0, x, h => fun j u hu => by
    simp only [List.getElem?_cons_zero, Option.some.injEq] at h
    subst h
    rw [List.flatMap_cons, Nat.zero_mul, Nat.zero_add, List.getElem?_append_left]
    · exact hu
    · rcases Nat.lt_or_ge j (enc y).length with h1 | h1
      · exact h1
      · rw [List.getElem?_eq_none h1] at hu; cases hu
  | y :: l, i + 1, x, h => fun j u hu => by
    rw [List.getElem?_cons_succ] at h
    have ih := flatMap_get hsz l i x h j u hu
    rw [List.flatMap_cons, List.getElem?_append_right (by rw [hsz, Nat.add_mul]; omega), hsz, show (i + 1) * sz + j - sz = i * sz + j by rw [Nat.add_mul]; omega]
    exact ih
theorem flatMap_len {α β : Type} {enc : α → List β} {sz : Nat} (hsz : ∀ x, (enc x).length = sz) (l : List α) : (l.flatMap enc).length = l.length * sz := by
  induction l with
  | nil => simp
  | cons x l ih => rw [List.flatMap_cons, List.length_append, ih, hsz, List.length_cons, Nat.add_mul]; omega

/-- What is owned, read. -/
theorem Ow.sl (h : Ow enc sz e base w A n cap l) (hsz : ∀ x, (enc x).length = sz) : Sl enc sz (fun k => base ≤ k ∧ (Value.slice A n cap).ownBlock = some k) w A n cap l := by
  obtain ⟨h0, h1, h2⟩ := h
  rcases h2 with ⟨hv, hn⟩ | ⟨g, cap', cur, hv, hg, hh, hc, hm, hs, ht⟩
  · injection hv with hA hn' hcap
    subst hA hcap
    have : l = [] := List.eq_nil_of_length_eq_zero (by omega)
    subst this hn'
    exact Sl.nil _ _ _ _ (by decide)
  · injection hv with hA hn' hcap
    subst hA hcap
    refine ⟨h0, hc, hm, fun i x hx => ⟨g, 0, rfl, ⟨hg, rfl⟩, fun j u hu => ?_⟩⟩
    have h3 := flatMap_get hsz l i x hx j u hu
    rw [Nat.zero_add]
    rw [← ht, List.getElem?_take] at h3
    split at h3
    · unfold World.cell?
      simp only [hh]
      simpa using h3
    · cases h3
end

/-- append(v, x...), v the call's own; x whatever slice reads. -/
theorem wp_app {α : Type} {enc : α → List Value} {P : Program} (w : World) {o : Oper} {a : Act} {K : Act → World → Prop} {Q : Exit → Act → World → Prop} (s x : Operand) (t : TypeId)
    (ho : o.op = .call { callee := .builtin .append, args := #[s, x], argTypes := #[t, t] })
    {e : TypeId} {z : Value} {size bytes : Nat} (hinf : (P.info? e).map (fun i => (i.zero, i.size, i.bytes)) = some (some z, size, bytes)) (ht : P.underlying t = some (.slice e))
    (hzs : z.cells.size = size) (hsz : 0 < size) (henc : ∀ x, (enc x).length = size) (hone : ∀ x, ∀ u ∈ enc x, u.oneCell' = true)
    {base : Nat} {A : Option Addr} {n cap : Nat} {l : List α} (hown : Ow enc size e base w A n cap l) (hs : a.eval s = .slice A n cap)
    {B : Option Addr} {m c : Nat} {l2 : List α} {R : Nat → Prop} (hsl : Sl enc size R w B m c l2) (hx : a.eval x = .slice B m c)
    (h63 : l.length + l2.length ≤ 1099511627776) (hbytes : (l.length + l2.length) * bytes ≤ 140737488355328) (hbase : base ≤ w.heap.size)
    (h : ∀ A' n' cap' w', Ow enc size e base w' A' n' cap' (l ++ l2) → w.grownBy w' (Value.slice A n cap).ownBlock →
      (∀ k, (Value.slice A' n' cap').ownBlock = some k → (Value.slice A n cap).ownBlock = some k ∨ k = w.heap.size) → (l ++ l2 ≠ [] → ∃ g, A' = some ⟨g, 0, none⟩) →
      K (a.put o.dst (.slice A' n' cap')) w') : o.wp P a w K Q := by
  obtain ⟨i, hi, hz, hsi, hby⟩ := info_parts hinf
  have hl := hown.len
  have hl2 := hsl.len
  cases hl2' : l2 with
  | nil =>
    subst hl2'
    have hm : m = 0 := by simpa using hl2
    subst hm
    have hrun : (Builtin.append_ #[t, t] o.type #[.slice A n cap, .slice B 0 c]).run P w = .ok (.slice A n cap) w := by
      have hfc : (Builtin.firstCells i.size 0 (.slice B 0 c)).run P w = .ok #[] w := by
        cases B <;> simp [Builtin.firstCells, loadCells, loadCellsFrom]
      have hcn : n ≤ cap := by
        rcases hown.own.2 with ⟨hv, _⟩ | ⟨g, cap', cur, hv, _, _, hc, _⟩ <;> injection hv with _ h2 h3 <;> omega
      rcases hown.own.2 with ⟨hv, hn0⟩ | ⟨g, cap', cur, hv, _, hh, hc, _⟩
      · injection hv with h1 h2 h3
        subst h1 h2 h3
        cases B <;> simp [Builtin.append_, run_underlying ht, sizeOf, typeInfo, hi, Builtin.lenOf, Builtin.firstCells, loadCells, loadCellsFrom]
      · injection hv with h1 h2 h3
        subst h1 h3
        simp [Builtin.append_, run_underlying ht, sizeOf, typeInfo, hi, Builtin.lenOf, hfc, hcn, storeCells]
    unfold Oper.wp
    simp [execOp, ho, resolve, invoke, builtin, hs, hx, hrun, Result.andThen]
    refine (h A n cap w (by simpa using hown) ⟨rfl, rfl, rfl, Nat.le_refl _, fun _ _ _ => rfl⟩ (fun k hk => .inl hk) (fun hne => ?_))
    rcases hown.own.2 with ⟨hv, hn0⟩ | ⟨g, cap', cur, hv, _, hh, hc, _⟩
    · exact absurd (List.eq_nil_of_length_eq_zero (l := l) (by omega)) (by simpa using hne)
    · injection hv with h1 h2 h3
      exact ⟨g, h1⟩
  | cons y l3 =>
    obtain ⟨b, off, hB, _, _⟩ := hsl.at_ 0 y (by rw [hl2']; rfl)
    subst hB
    have hpos : 0 < m := by rw [hl2, hl2']; simp
    refine wp_append_lies w s x t ho base e i z size bytes ht hi hz hsi hby hzs hsz (.slice A n cap) n (l.flatMap enc) hs hown.own ⟨b, off, none⟩ m c (l2.flatMap enc) hx (by rw [flatMap_len henc, hl2]) ?_ ?_ hpos
      (by rw [hl, hl2]; unfold maxLen; omega) (by rw [hl, hl2]; exact hbytes) hbase w.heap.size rfl fun g cap' w' h1 h2 h3 h4 => ?_
    · intro j u hu
      have hj : j < l2.length * size := by
        rcases Nat.lt_or_ge j (l2.flatMap enc).length with h5 | h5
        · rwa [flatMap_len henc] at h5
        · rw [List.getElem?_eq_none h5] at hu; cases hu
      have hi2 : j / size < l2.length := by rw [Nat.div_lt_iff_lt_mul hsz]; exact hj
      have hx2 : l2[j / size]? = some (l2[j / size]) := List.getElem?_eq_getElem hi2
      obtain ⟨b', off', hB', _, hc'⟩ := hsl.at_ _ _ hx2
      injection hB' with hB'
      injection hB' with hb1 hb2
      subst hb1 hb2
      have hmod : j % size < (enc l2[j / size]).length := by rw [henc]; exact Nat.mod_lt _ hsz
      have h6 := flatMap_get henc l2 (j / size) _ hx2 (j % size) _ (List.getElem?_eq_getElem hmod)
      have hdm : j / size * size + j % size = j := by rw [Nat.mul_comm]; exact Nat.div_add_mod j size
      rw [hdm] at h6
      have h7 := hc' (j % size) _ (List.getElem?_eq_getElem hmod)
      rw [Nat.add_assoc, hdm] at h7
      rw [hu] at h6
      injection h6 with h6
      rw [h6]
      simpa [Addr.add_lit] using h7
    · intro u hu
      obtain ⟨y', _, hy'⟩ := List.mem_flatMap.1 hu
      exact hone y' u hy'
    · refine h (some ⟨g, 0, none⟩) (n + m) cap' w' ⟨by rw [List.length_append, hl, hl2], by rw [List.flatMap_append]; exact h1⟩ h2 (fun k hk => ?_) (fun _ => ⟨g, rfl⟩)
      have : g = k := by simpa [Value.ownBlock] using hk
      subst this
      exact h3


theorem wpList_app {α : Type} {enc : α → List Value} {P : Program} (w : World) {ops : Array Oper} {rest : List Oper} {o : Oper} {a : Act} {Q : Exit → Act → World → Prop} (hgd : o.guard = none) (s x : Operand) (t : TypeId)
    (ho : o.op = .call { callee := .builtin .append, args := #[s, x], argTypes := #[t, t] })
    {e : TypeId} {z : Value} {size bytes : Nat} (hinf : (P.info? e).map (fun i => (i.zero, i.size, i.bytes)) = some (some z, size, bytes)) (ht : P.underlying t = some (.slice e))
    (hzs : z.cells.size = size) (hsz : 0 < size) (henc : ∀ x, (enc x).length = size) (hone : ∀ x, ∀ u ∈ enc x, u.oneCell' = true)
    {base : Nat} {A : Option Addr} {n cap : Nat} {l : List α} (hown : Ow enc size e base w A n cap l) (hs : a.eval s = .slice A n cap)
    {B : Option Addr} {m c : Nat} {l2 : List α} {R : Nat → Prop} (hsl : Sl enc size R w B m c l2) (hx : a.eval x = .slice B m c)
    (h63 : l.length + l2.length ≤ 1099511627776) (hbytes : (l.length + l2.length) * bytes ≤ 140737488355328) (hbase : base ≤ w.heap.size)
    (h : ∀ A' n' cap' w', Ow enc size e base w' A' n' cap' (l ++ l2) → w.grownBy w' (Value.slice A n cap).ownBlock →
      (∀ k, (Value.slice A' n' cap').ownBlock = some k → (Value.slice A n cap).ownBlock = some k ∨ k = w.heap.size) → (l ++ l2 ≠ [] → ∃ g, A' = some ⟨g, 0, none⟩) →
      wpList P ops Q rest (a.put o.dst (.slice A' n' cap')) w') : wpList P ops Q (o :: rest) a w :=
  wpList_plain hgd fun _ hK => wp_app w s x t ho hinf ht hzs hsz henc hone hown hs hsl hx h63 hbytes hbase fun A' n' cap' w' h1 h2 h3 h4 => hK _ _ (h A' n' cap' w' h1 h2 h3 h4)

/-- At a step of a region that draws its order. -/
theorem step_app {α : Type} {enc : α → List Value} {P : Program} (w : World) {ops : Array Oper} {o : Oper} {a : Act} {K : Act → World → Prop} {Q : Exit → Act → World → Prop} {E : Prop} (hgd : o.guard = none) (s x : Operand) (t : TypeId)
    (ho : o.op = .call { callee := .builtin .append, args := #[s, x], argTypes := #[t, t] })
    {e : TypeId} {z : Value} {size bytes : Nat} (hinf : (P.info? e).map (fun i => (i.zero, i.size, i.bytes)) = some (some z, size, bytes)) (ht : P.underlying t = some (.slice e))
    (hzs : z.cells.size = size) (hsz : 0 < size) (henc : ∀ x, (enc x).length = size) (hone : ∀ x, ∀ u ∈ enc x, u.oneCell' = true)
    {base : Nat} {A : Option Addr} {n cap : Nat} {l : List α} (hown : Ow enc size e base w A n cap l) (hs : a.eval s = .slice A n cap)
    {B : Option Addr} {m c : Nat} {l2 : List α} {R : Nat → Prop} (hsl : Sl enc size R w B m c l2) (hx : a.eval x = .slice B m c)
    (h63 : l.length + l2.length ≤ 1099511627776) (hbytes : (l.length + l2.length) * bytes ≤ 140737488355328) (hbase : base ≤ w.heap.size)
    (h : ∀ A' n' cap' w', Ow enc size e base w' A' n' cap' (l ++ l2) → w.grownBy w' (Value.slice A n cap).ownBlock →
      (∀ k, (Value.slice A' n' cap').ownBlock = some k → (Value.slice A n cap).ownBlock = some k ∨ k = w.heap.size) → (l ++ l2 ≠ [] → ∃ g, A' = some ⟨g, 0, none⟩) →
      K (a.put o.dst (.slice A' n' cap')) w') : if Region.wanted o (yielded ops a.tmps) = true then Oper.wp P o a w K Q else E := by
  rw [if_pos (by simp [Region.wanted, hgd])]
  exact wp_app w s x t ho hinf ht hzs hsz henc hone hown hs hsl hx h63 hbytes hbase h

/-- A whole number as a cell. -/
def eI (k : IntKind) (x : Int) : List Value := [.int k x]
theorem eI_len (k : IntKind) (x : Int) : (eI k x).length = 1 := rfl
theorem eI_one (k : IntKind) (x : Int) : ∀ u ∈ eI k x, u.oneCell' = true := fun u hu => by rw [List.mem_singleton.1 hu]; rfl
theorem eI_flat (k : IntKind) (l : List Int) : l.flatMap (eI k) = l.map (Value.int k) := by
  induction l with
  | nil => rfl
  | cons x l ih => rw [List.flatMap_cons, ih]; rfl
/-- Element i, its cell. -/
theorem Sl.num {k : IntKind} {Q : Nat → Prop} {w : World} {A : Option Addr} {n cap : Nat} {l : List Int} (h : Sl (eI k) 1 Q w A n cap l) (i : Nat) (hi : i < n) :
    ∃ b off x, A = some ⟨b, off, none⟩ ∧ l[i]? = some x ∧ Q b ∧ b < w.heap.size ∧ w.cell? ⟨b, off + i, none⟩ = some (.int k x) := by
  have hl : i < l.length := by rw [← h.len]; exact hi
  obtain ⟨b, off, ha, hb, hc⟩ := h.at_ i l[i] (List.getElem?_eq_getElem hl)
  have h1 := hc 0 _ rfl
  rw [Nat.mul_one, Nat.add_zero] at h1
  exact ⟨b, off, l[i], ha, List.getElem?_eq_getElem hl, hb, World.block_lt_of_cell? w _ h1, h1⟩
theorem Sl.noAddr {α : Type} {enc : α → List Value} {sz : Nat} {Q : Nat → Prop} {w : World} {n cap : Nat} {l : List α} (h : Sl enc sz Q w none n cap l) : l = [] ∧ n = 0 := by
  cases l with
  | nil => exact ⟨rfl, h.len⟩
  | cons x l => obtain ⟨b, off, ha, _⟩ := h.at_ 0 x rfl; cases ha
/-- A block that has just been laid, read as a row of its elements. -/
theorem Sl.laid {α : Type} {enc : α → List Value} {sz : Nat} (hsz : ∀ x, (enc x).length = sz) (w : World) (l : List α) (cs : Array Value) (t n : Nat) (hcs : cs.toList = l.flatMap enc) (hn : n = l.length) (hm : n ≤ 9223372036854775807) :
    Sl enc sz (fun k => k = w.heap.size) (w.alloc (.cells cs t)) (some ⟨w.heap.size, 0, none⟩) n n l :=
  ⟨hn, Nat.le_refl _, hm, fun i x hx => ⟨w.heap.size, 0, rfl, rfl, fun j u hu => by
    have h := flatMap_get hsz l i x hx j u hu
    rw [← hcs, Array.getElem?_toList] at h
    rw [Nat.zero_add]
    exact cell_new w cs t _ _ h⟩⟩
theorem Ow.laid {α : Type} {enc : α → List Value} {sz e base : Nat} (hsz : ∀ x, (enc x).length = sz) (w : World) (l : List α) (cs : Array Value) (n : Nat) (hcs : cs.toList = l.flatMap enc) (hn : n = l.length) (hm : n ≤ 1099511627776) (hb : base ≤ w.heap.size) :
    Ow enc sz e base (w.alloc (.cells cs e)) (some ⟨w.heap.size, 0, none⟩) n n l := by
  refine ⟨hn, by rw [flatMap_len hsz, hn], .inr ⟨w.heap.size, n, cs, rfl, hb, heap_alloc_new w _, Nat.le_refl _, by unfold maxLen; omega, ?_, ?_⟩⟩
  · rw [← Array.length_toList, hcs, flatMap_len hsz, hn]
  · rw [hcs, List.take_of_length_le (by rw [flatMap_len hsz, hn]; exact Nat.le_refl _)]

/-- One block of what was there may have turned. -/
def Mut (g : Nat) (w w' : World) : Prop := w.grownBy w' (some g)
theorem Mut.refl (g : Nat) (w : World) : Mut g w w := ⟨rfl, rfl, rfl, Nat.le_refl _, fun _ _ _ => rfl⟩
theorem Mut.trans {g : Nat} {a b c : World} (h : Mut g a b) (k : Mut g b c) : Mut g a c :=
  ⟨k.os.trans h.os, k.tape.trans h.tape, k.output.trans h.output, Nat.le_trans h.size k.size, fun i hi hn => (k.block i (Nat.lt_of_lt_of_le hi h.size) hn).trans (h.block i hi hn)⟩
theorem Mut.setCell {g : Nat} {a b : World} (h : Mut g a b) (j : Nat) (u : Value) : Mut g a (b.setCell ⟨g, j, none⟩ u) :=
  h.trans ⟨rfl, rfl, rfl, by simp [World.setCell], fun k _ hn => Below.heap_setCell _ _ _ _ (fun e => hn (by rw [e]))⟩
theorem Ext.mut (g : Nat) {a b : World} (h : Ext a b) : Mut g a b := ⟨h.out.os, h.out.tape, h.out.output, h.size, fun k hk _ => h.block k hk⟩
theorem Mut.ext {g : Nat} {a b c : World} (h : Ext a b) (k : Mut g b c) (hg : a.heap.size ≤ g) : Ext a c := h.grown k fun i hi => by injection hi with hi; omega
theorem Sl.mut {α : Type} {enc : α → List Value} {sz : Nat} {Q : Nat → Prop} {w w' : World} {A : Option Addr} {n cap : Nat} {l : List α} {g : Nat} (h : Sl enc sz Q w A n cap l) (hm : Mut g w w') (hq : ∀ k, Q k → k ≠ g) : Sl enc sz Q w' A n cap l :=
  h.grown hm fun k hk e => hq k hk (by injection e)

theorem heap_set (w : World) (g j : Nat) (u : Value) (cs : Array Value) (t : Nat) (fr : Nat × Nat) (h : w.heap[g]? = some (.cells cs t fr)) : (w.setCell ⟨g, j, none⟩ u).heap[g]? = some (.cells (cs.setIfInBounds j u) t fr) := by
  simp [World.setCell, Array.getElem?_modify, h]
theorem cell_of_heap {w : World} {g : Nat} {cs : Array Value} {t : Nat} {fr : Nat × Nat} (h : w.heap[g]? = some (.cells cs t fr)) (j : Nat) : w.cell? ⟨g, j, none⟩ = cs[j]? := by
  simp [World.cell?, h]
theorem free_of_heap {w : World} {g : Nat} {cs : Array Value} {t : Nat} (h : w.heap[g]? = some (.cells cs t (0, 0))) (j : Nat) : w.frozen? ⟨g, j, none⟩ = false := by
  simp [World.frozen?, h]
theorem lt_of_heap {w : World} {g : Nat} {o : Obj} (h : w.heap[g]? = some o) : g < w.heap.size := by
  rcases Nat.lt_or_ge g w.heap.size with h1 | h1
  · exact h1
  · rw [Array.getElem?_eq_none h1] at h; cases h

/-- What is owned, one element turned (whole numbers). -/
theorem Ow.set {k : IntKind} {e base g n cap : Nat} {w : World} {l : List Int} (h : Ow (eI k) 1 e base w (some ⟨g, 0, none⟩) n cap l) (j : Nat) (x : Int) :
    Ow (eI k) 1 e base (w.setCell ⟨g, j, none⟩ (.int k x)) (some ⟨g, 0, none⟩) n cap (l.set j x) ∧ w.grownBy (w.setCell ⟨g, j, none⟩ (.int k x)) (some g) := by
  obtain ⟨h1, h2⟩ := h.own.stored j (.int k x)
  refine ⟨⟨by rw [List.length_set]; exact h.len, ?_⟩, h2⟩
  rw [eI_flat, List.map_set, ← eI_flat]
  exact h1
theorem Ow.free {α : Type} {enc : α → List Value} {sz e base g n cap : Nat} {w : World} {l : List α} (h : Ow enc sz e base w (some ⟨g, 0, none⟩) n cap l) (j : Nat) : w.frozen? ⟨g, j, none⟩ = false := h.own.frozenAt j
theorem Ow.num {k : IntKind} {e base g n cap : Nat} {w : World} {l : List Int} (h : Ow (eI k) 1 e base w (some ⟨g, 0, none⟩) n cap l) (j : Nat) (hj : j < n) : ∃ x, l[j]? = some x ∧ w.cell? ⟨g, j, none⟩ = some (.int k x) := by
  obtain ⟨b, off, x, ha, hx, _, _, hc⟩ := (h.sl (eI_len k)).num j hj
  simp only [Option.some.injEq, Addr.mk.injEq] at ha
  obtain ⟨rfl, rfl, _⟩ := ha
  exact ⟨x, hx, by rw [Nat.zero_add] at hc; exact hc⟩
/-- make([]T, n), whole numbers. -/
theorem wpList_mk {P : Program} (w : World) {ops : Array Oper} {rest : List Oper} {o : Oper} {a : Act} {Q : Exit → Act → World → Prop}
    (hg : o.guard = none) (l c : Operand) (t : TypeId) (hop : o.op = Op.makeSlice t l c)
    (base : Nat) {e : TypeId} {k : IntKind} {bytes : Nat} (hinf : (P.info? e).map (fun i => (i.zero, i.size, i.bytes)) = some (some (.int k 0), 1, bytes)) (h1 : P.underlying t = some (.slice e))
    (kl kc : IntKind) (L C : Int) (n : Nat) (hl : a.eval l = .int kl L) (hc : a.eval c = .int kc C) (hL : L = (n : Int)) (hC : C = (n : Int)) (b2 : bytes * n ≤ 281474976710656) (b3 : n ≤ 9223372036854775807) (b4 : base ≤ w.heap.size)
    (hK : ∀ w', Ow (eI k) 1 e base w' (some ⟨w.heap.size, 0, none⟩) n n (List.replicate n 0) → w.grownBy w' none → w.heap.size < w'.heap.size → wpList P ops Q rest (a.put o.dst (.slice (some ⟨w.heap.size, 0, none⟩) n n)) w') :
    wpList P ops Q (o :: rest) a w := by
  obtain ⟨i, hi, hz, hsi, hby⟩ := info_parts hinf
  refine wpList_make_full w hg l c t hop base e i (.int k 0) 1 h1 hi hz hsi kl kc L C n hl hc hL hC (by rw [hby]; exact b2) (by unfold maxLen; exact b3) b4 fun w' h2 h3 => ?_
  refine hK w' ⟨by rw [List.length_replicate], ?_⟩ h3 (h2.lt _ rfl).2
  have : (List.replicate n (0 : Int)).flatMap (eI k) = (madeCells (Value.int k 0).cells (n * 1)).toList := by
    rw [eI_flat, List.map_replicate, Nat.mul_one]
    exact (toList_madeCells_one (.int k 0) n).symm
  rw [this]
  exact h2

/-- What is owned lies in no block of another type. -/
theorem Ow.ne {α : Type} {enc : α → List Value} {sz e base g t n cap : Nat} {w : World} {A : Option Addr} {l : List α} {cs : Array Value} {fr : Nat × Nat} (h : Ow enc sz e base w A n cap l) (hg : w.heap[g]? = some (.cells cs t fr)) (hte : t ≠ e) :
    ∀ k, (Value.slice A n cap).ownBlock = some k → k ≠ g := by
  intro k hk e1
  subst e1
  rcases h.own.2 with ⟨hv, _⟩ | ⟨g', cap', cur, hv, _, hh, _⟩
  · rw [hv] at hk; cases hk
  · rw [hv] at hk
    have : g' = k := by simpa [Value.ownBlock] using hk
    subst this
    rw [hh] at hg
    injection hg with hg
    injection hg with _ hg
    exact hte hg.symm

theorem heap_grown {w w' : World} {row : Option Nat} {g : Nat} {o : Obj} (h : w.heap[g]? = some o) (hg : w.grownBy w' row) (hne : row ≠ some g) : w'.heap[g]? = some o :=
  (hg.block g (lt_of_heap h) fun e => hne e.symm).trans h
theorem Ow.row_ne {α : Type} {enc : α → List Value} {sz e base g t n cap : Nat} {w : World} {A : Option Addr} {l : List α} {cs : Array Value} {fr : Nat × Nat} (h : Ow enc sz e base w A n cap l) (hg : w.heap[g]? = some (.cells cs t fr)) (hte : t ≠ e) :
    (Value.slice A n cap).ownBlock ≠ some g := fun e1 => h.ne hg hte g e1 rfl

/-- A slice's header as a cell. -/
def eH (h : Option Addr × Nat × Nat) : List Value := [.slice h.1 h.2.1 h.2.2]
theorem eH_len (h : Option Addr × Nat × Nat) : (eH h).length = 1 := rfl
theorem eH_one (h : Option Addr × Nat × Nat) : ∀ u ∈ eH h, u.oneCell' = true := fun u hu => by rw [List.mem_singleton.1 hu]; rfl
theorem Sl.head {Q : Nat → Prop} {w : World} {A : Option Addr} {n cap : Nat} {l : List (Option Addr × Nat × Nat)} (h : Sl eH 1 Q w A n cap l) (i : Nat) (hi : i < n) :
    ∃ b off x, A = some ⟨b, off, none⟩ ∧ l[i]? = some x ∧ Q b ∧ b < w.heap.size ∧ w.cell? ⟨b, off + i, none⟩ = some (.slice x.1 x.2.1 x.2.2) := by
  have hl : i < l.length := by rw [← h.len]; exact hi
  obtain ⟨b, off, ha, hb, hc⟩ := h.at_ i l[i] (List.getElem?_eq_getElem hl)
  have h1 := hc 0 _ rfl
  rw [Nat.mul_one, Nat.add_zero] at h1
  exact ⟨b, off, l[i], ha, List.getElem?_eq_getElem hl, hb, World.block_lt_of_cell? w _ h1, h1⟩
/-- Two lists, element by element. -/
structure Each {α β : Type} (R : α → β → Prop) (l : List α) (m : List β) : Prop where
  length : l.length = m.length
  all : ∀ (i : Nat) (x : α) (y : β), l[i]? = some x → m[i]? = some y → R x y
theorem Each.get {α β : Type} {R : α → β → Prop} {l : List α} {m : List β} (h : Each R l m) {i : Nat} {x : α} (hx : l[i]? = some x) : ∃ y, m[i]? = some y ∧ R x y := by
  have hi : i < m.length := by
    rcases Nat.lt_or_ge i l.length with h1 | h1
    · rw [← h.length]; exact h1
    · rw [List.getElem?_eq_none h1] at hx; cases hx
  exact ⟨m[i], List.getElem?_eq_getElem hi, h.all i x _ hx (List.getElem?_eq_getElem hi)⟩
theorem Each.nil {α β : Type} (R : α → β → Prop) : Each R ([] : List α) ([] : List β) := ⟨rfl, fun i x y hx => by simp at hx⟩
theorem Each.cons {α β : Type} {R : α → β → Prop} {l : List α} {m : List β} {x : α} {y : β} (hr : R x y) (h : Each R l m) : Each R (x :: l) (y :: m) :=
  ⟨by rw [List.length_cons, List.length_cons, h.length], fun i => by
    cases i with
    | zero => intro a b ha hb; simp only [List.getElem?_cons_zero, Option.some.injEq] at ha hb; subst ha hb; exact hr
    | succ i => intro a b ha hb; rw [List.getElem?_cons_succ] at ha hb; exact h.all i a b ha hb⟩
theorem Each.mono {α β : Type} {R R' : α → β → Prop} {l : List α} {m : List β} (h : Each R l m) (hr : ∀ x y, R x y → R' x y) : Each R' l m := ⟨h.length, fun i x y hx hy => hr x y (h.all i x y hx hy)⟩
/-- How many elements the first k lists have. -/
def totL (ls : List (List Int)) (k : Nat) : Nat := (ls.take k).flatten.length
theorem totL_zero (ls : List (List Int)) : totL ls 0 = 0 := by simp [totL]
theorem totL_next (ls : List (List Int)) {k : Nat} {l : List Int} (h : ls[k]? = some l) : totL ls (k + 1) = totL ls k + l.length := by
  unfold totL
  rw [List.take_add_one, h, Option.toList_some, List.flatten_append, List.length_append, List.flatten_singleton]
theorem totL_le (ls : List (List Int)) (k : Nat) : totL ls k ≤ ls.flatten.length := by
  unfold totL
  conv => rhs; rw [← List.take_append_drop k ls, List.flatten_append, List.length_append]
  omega
theorem totL_all (ls : List (List Int)) {k : Nat} (h : ls.length ≤ k) : totL ls k = ls.flatten.length := by
  unfold totL; rw [List.take_of_length_le h]

/-- Only draws lie between. -/
structure Drawn (w w' : World) : Prop where
  ex : ∃ q, w' = w.drewN q
theorem Drawn.refl (w : World) : Drawn w w := ⟨0, rfl⟩
theorem Drawn.drewN {a b : World} (h : Drawn a b) (n : Nat) : Drawn a (b.drewN n) := by
  obtain ⟨q, rfl⟩ := h.ex
  exact ⟨_, World.drewN_drewN _ _ _⟩
theorem Drawn.trans {a b c : World} (h : Drawn a b) (k : Drawn b c) : Drawn a c := by
  obtain ⟨q, rfl⟩ := k.ex
  exact h.drewN q
theorem Drawn.ext {a b : World} (h : Drawn a b) : Ext a b := by
  obtain ⟨q, rfl⟩ := h.ex
  exact (Ext.refl _).drewN q
/-- A callee that only draws, in a region that draws. -/
theorem quietD {P : Program} {f : FuncId} {args : Array Value} {w : World} {n : Nat} {v : Value} (h : Calls P f args (w.drewN n) fun e w' => e = .returned v ∧ Drawn (w.drewN n) w') :
    Calls P f args (w.drewN n) fun e w'' => e = .returned v ∧ ∃ m, w'' = w.drewN m :=
  Calls.quiet_of (h.mono fun _ _ ⟨he, hd⟩ => ⟨he, hd.ex⟩)

/-- A reading over elder blocks, said of another world over the same elder one. -/
theorem Sl.via {α : Type} {enc : α → List Value} {sz : Nat} {Q : Nat → Prop} {a b c : World} {A : Option Addr} {n cap : Nat} {l : List α} (h : Sl enc sz (fun k => Q k ∧ k < a.heap.size) b A n cap l) (e1 : Ext a b) (e2 : Ext a c) : Sl enc sz Q c A n cap l :=
  (h.step (w' := c) fun k hk _ => (e2.block k hk.2).trans (e1.block k hk.2).symm).mono fun _ hk => hk.1
theorem Sl.in' {k : IntKind} {Q : Nat → Prop} {w : World} {A : Option Addr} {n cap : Nat} {l : List Int} (h : Sl (eI k) 1 Q w A n cap l) : Sl (eI k) 1 (fun j => Q j ∧ j < w.heap.size) w A n cap l :=
  h.inside fun _ => Nat.zero_lt_one

theorem Ext.heap {a b : World} (h : Ext a b) {g : Nat} {o : Obj} (hh : a.heap[g]? = some o) : b.heap[g]? = some o := (h.block g (lt_of_heap hh)).trans hh
/-- The second of two new blocks. -/
theorem heap_new2 (w : World) (x y : Obj) : ((w.alloc x).alloc y).heap[w.heap.size + 1]? = some y := by
  have h := heap_alloc_new (w.alloc x) y
  rwa [World.size_alloc] at h

theorem cell_drew (w : World) (a : Addr) : w.drew.cell? a = w.cell? a := rfl
theorem cell_new' (w : World) (g : Nat) (hg : w.heap.size = g) (cs : Array Value) (t j : Nat) (fr : Nat × Nat) {v : Value} (h : cs[j]? = some v) : (w.alloc (.cells cs t fr)).cell? ⟨g, j, none⟩ = some v := by
  subst hg
  exact cell_new w cs t j fr h

theorem Ow.mut {α : Type} {enc : α → List Value} {sz e base g n cap : Nat} {w w' : World} {A : Option Addr} {l : List α} (h : Ow enc sz e base w A n cap l) (hm : Mut g w w') (hg : g < base) : Ow enc sz e base w' A n cap l :=
  h.step fun k hk => hm.block k (h.lt k hk).2 fun e1 => by have := (h.lt k hk).1; injection e1 with e1; omega

theorem Sl.old {α : Type} {enc : α → List Value} {sz : Nat} {a b c : World} {A : Option Addr} {n cap : Nat} {l : List α} (h : Sl enc sz (fun k => k < a.heap.size) b A n cap l) (e1 : Ext a b) (e2 : Ext a c) : Sl enc sz (fun k => k < a.heap.size) c A n cap l :=
  h.step (w' := c) fun k hk _ => (e2.block k hk).trans (e1.block k hk).symm

theorem Mut.setNew {g : Nat} {a b : World} (h : Mut g a b) {p : Addr} (hp : a.heap.size ≤ p.block) (u : Value) : Mut g a (b.setCell p u) :=
  ⟨h.os, h.tape, h.output, by rw [World.size_setCell]; exact h.size, fun k hk hn => (Below.heap_setCell _ _ _ _ (by omega)).trans (h.block k hk hn)⟩
end Go.Proofs.YtdocdppimpapiaaDoor

namespace Go.Proofs.YtdocdppimpapiaaDoor
open Go.RowKit

/-- The blocks of a of which P holds lie in b as they lay. -/
structure Kp (P : Nat → Prop) (a b : World) : Prop where
  size : a.heap.size ≤ b.heap.size
  block : ∀ k, P k → k < a.heap.size → b.heap[k]? = a.heap[k]?
theorem Kp.refl (P : Nat → Prop) (a : World) : Kp P a a := ⟨Nat.le_refl _, fun _ _ _ => rfl⟩
theorem Kp.trans {P : Nat → Prop} {a b c : World} (h : Kp P a b) (k : Kp P b c) : Kp P a c := ⟨Nat.le_trans h.size k.size, fun i hp hi => (k.block i hp (Nat.lt_of_lt_of_le hi h.size)).trans (h.block i hp hi)⟩
theorem Kp.ext {P : Nat → Prop} {a b c : World} (h : Kp P a b) (e : Ext b c) : Kp P a c := h.trans ⟨e.size, fun i _ hi => e.block i hi⟩
theorem Kp.alloc {P : Nat → Prop} {a b : World} (h : Kp P a b) (o : Obj) : Kp P a (b.alloc o) := h.ext ((Ext.refl _).alloc o)
theorem Kp.drew {P : Nat → Prop} {a b : World} (h : Kp P a b) : Kp P a b.drew := h.ext ((Ext.refl _).drew)
theorem Kp.drewN {P : Nat → Prop} {a b : World} (h : Kp P a b) (n : Nat) : Kp P a (b.drewN n) := h.ext ((Ext.refl _).drewN n)
theorem Kp.setCell {P : Nat → Prop} {a b : World} (h : Kp P a b) {p : Addr} (u : Value) (hp : ∀ k, P k → k < a.heap.size → k ≠ p.block) : Kp P a (b.setCell p u) :=
  ⟨by rw [World.size_setCell]; exact h.size, fun i hi hl => (Below.heap_setCell _ _ _ _ (hp i hi hl)).trans (h.block i hi hl)⟩
theorem Sl.kp {α : Type} {enc : α → List Value} {sz : Nat} {Q : Nat → Prop} {w w' : World} {A : Option Addr} {n cap : Nat} {l : List α} (h : Sl enc sz Q w A n cap l) (hk : Kp Q w w') : Sl enc sz Q w' A n cap l := h.step fun k hq hl => hk.block k hq hl
theorem Ext.free' {a b : World} (h : Ext a b) {p : Addr} (hf : a.frozen? p = false) (hl : p.block < a.heap.size) : b.frozen? p = false := by
  rw [h.out.frozen (p := p) hl]; exact hf
/-- Whatever a cell holds. -/
def rv (W : World) (p : Addr) : Value := (W.cell? p).getD (.int .i64 0)
theorem rv_of {W : World} {p : Addr} {v : Value} (h : W.cell? p = some v) : W.cell? p = some (rv W p) := by unfold rv; rw [h]; rfl
theorem Ext.rv {a b : World} (h : Ext a b) {p : Addr} (hc : a.cell? p = some (rv a p)) : b.cell? p = some (Go.Proofs.YtdocdppimpapiaaDoor.rv b p) := rv_of (h.at hc)
theorem rv_set {W : World} {p q : Addr} {u : Value} (h : W.cell? p = some (rv W p)) : (W.setCell q u).cell? p = some (rv (W.setCell q u) p) := by
  obtain ⟨v', hv⟩ := cell?_setCell_some (w := W) (p := q) (x := u) (q := p) (v := rv W p) h
  exact rv_of hv
end Go.Proofs.YtdocdppimpapiaaDoor

namespace Go.Proofs.YtdocdppimpapiaaDoor
open Go.RowKit

/-- Which letters stand in names. -/
def plainI (c : Int) : Bool := (decide (97 ≤ c) && decide (c ≤ 122)) || ((decide (48 ≤ c) && decide (c ≤ 57)) || ((c == 46) || ((c == 95) || (c == 45))))
def plainU (u : UInt8) : Bool := plainI (u.toNat : Int)
/-- Which texts are names. -/
def nameB (s : ByteArray) : Bool := decide (1 ≤ s.size) && (decide (s.size ≤ 11) && (!(s.toList == [46]) && (!(s.toList == [46, 46]) && s.data.toList.all plainU)))

set_option maxHeartbeats 800000 in
theorem plain_any (c : Int) (w : World) : Calls Tryd.prog 26 #[.int .i32 c] w fun e w' => e = .returned (.bool (plainI c)) ∧ w = w' := by
  by_cases h1 : 97 ≤ c
  · by_cases h2 : c ≤ 122
    · go_enter Tryd.func26, Tryd.ntmps26
      go_wp2
      go_ret
      exact ⟨ret_bool (by simp [plainI, h1, h2]), rfl⟩
    · have h3 : ¬ c ≤ 57 := by omega
      have h4 : 48 ≤ c := by omega
      have h5 : (c == 46) = false := by simp; omega
      go_enter Tryd.func26, Tryd.ntmps26
      go_wp2
      all_goals (go_ret; exact ⟨ret_bool (by rw [Bool.eq_iff_iff]; simp [plainI]; first | done | omega), rfl⟩)
  · by_cases h2 : 48 ≤ c
    · by_cases h3 : c ≤ 57
      · go_enter Tryd.func26, Tryd.ntmps26
        go_wp2
        go_ret
        exact ⟨ret_bool (by simp [plainI, h2, h3]), rfl⟩
      · have h5 : (c == 46) = false := by simp; omega
        go_enter Tryd.func26, Tryd.ntmps26
        go_wp2
        all_goals (go_ret; exact ⟨ret_bool (by rw [Bool.eq_iff_iff]; simp [plainI]; first | done | omega), rfl⟩)
    · go_enter Tryd.func26, Tryd.ntmps26
      go_wp2
      all_goals (go_ret; exact ⟨ret_bool (by rw [Bool.eq_iff_iff]; simp [plainI]; first | done | omega), rfl⟩)

theorem high_plain {r : Nat} (h : 128 ≤ r) : plainI (r : Int) = false := by
  have h1 : ¬ (r : Int) ≤ 122 := by omega
  have h2 : ¬ (r : Int) ≤ 57 := by omega
  have h3 : ((r : Int) == 46) = false := by simp; omega
  have h4 : ((r : Int) == 95) = false := by simp; omega
  have h5 : ((r : Int) == 45) = false := by simp; omega
  simp [plainI, h1, h2, h3, h4, h5]

theorem all_upto {s : ByteArray} {p : UInt8 → Bool} (h : ∀ (j : Nat) (hj : j < s.size), p s[j] = true) : s.data.toList.all p = true := by
  rw [List.all_eq_true]
  intro x hx
  obtain ⟨j, hj, e⟩ := List.getElem_of_mem hx
  have hj' : j < s.size := by simpa using hj
  have := h j hj'
  rw [← e]
  exact this
theorem all_not {s : ByteArray} {p : UInt8 → Bool} {j : Nat} (hj : j < s.size) (h : p s[j] = false) : s.data.toList.all p = false := by
  rw [Bool.eq_false_iff]
  intro e
  rw [List.all_eq_true] at e
  have := e s[j] (by
    have : s[j] = s.data.toList[j]'(by simpa using hj) := rfl
    rw [this]
    exact List.getElem_mem _)
  rw [h] at this
  cases this

set_option maxHeartbeats 4000000 in
theorem name_any (s : ByteArray) (w : World) : Calls Tryd.prog 18 #[.string s] w fun e w' => e = .returned (.bool (nameB s)) ∧ Ext w w' := by
  by_cases d1 : s.toList = [46]
  · have E : nameB s = false := by simp [nameB, d1]
    rw [E]
    go_enter Tryd.func18, Tryd.ntmps18
    go_wp2
    go_ret
    exact ⟨rfl, Ext.refl _⟩
  by_cases d2 : s.toList = [46, 46]
  · have E : nameB s = false := by simp [nameB, d2]
    rw [E]
    go_enter Tryd.func18, Tryd.ntmps18
    go_wp2
    go_ret
    exact ⟨rfl, Ext.refl _⟩
  by_cases d3 : s.size < 1
  · have E : nameB s = false := by have : ¬ 1 ≤ s.size := by omega
                                   simp [nameB, this]
    rw [E]
    go_enter Tryd.func18, Tryd.ntmps18
    go_wp2
    go_ret
    exact ⟨rfl, Ext.refl _⟩
  by_cases d4 : 11 < s.size
  · have E : nameB s = false := by have : ¬ s.size ≤ 11 := by omega
                                   simp [nameB, this]
    rw [E]
    go_enter Tryd.func18, Tryd.ntmps18
    go_wp2
    go_ret
    exact ⟨rfl, Ext.refl _⟩
  have E : nameB s = s.data.toList.all plainU := by
    have h1 : 1 ≤ s.size := by omega
    have h2 : s.size ≤ 11 := by omega
    unfold nameB
    rw [beq_eq_false_iff_ne.2 d1, beq_eq_false_iff_ne.2 d2, decide_eq_true h1, decide_eq_true h2]
    rfl
  rw [E]
  clear E
  replace d1 : (s.toList == [46]) = false := beq_eq_false_iff_ne.2 d1
  replace d2 : (s.toList == [46, 46]) = false := beq_eq_false_iff_ne.2 d2
  replace d3 : decide ((s.size : Int) < 1) = false := decide_eq_false (by omega)
  replace d4 : decide (11 < (s.size : Int)) = false := decide_eq_false (by omega)
  go_enter Tryd.func18, Tryd.ntmps18
  go_wp2
  go_loopw [] (fun w' => ∃ pos, w' = w.iter s pos ∧ ∀ (j : Nat) (hj : j < s.size), j < pos → plainU s[j] = true) (fun w' => s.size - w'.iterPos w.heap.size)
  case atStart => exact ⟨0, rfl, fun j _ h => by omega⟩
  case round =>
    obtain ⟨pos, rfl, hpre⟩ := hrel
    have HP := Lib.hid hpre
    clear hpre
    by_cases hp : pos < s.size
    · by_cases ha : (s[pos]'hp).toNat < 128
      · have hnx : ∀ ty, (Instr.next (.pointer (some ⟨w.heap.size, 0, none⟩)) true ty).run Tryd.prog (w.iter s pos) = _ := fun ty => run_next_ascii w s pos ty hp ha
        by_cases hq : plainU s[pos] = true
        · have hq' : plainI (s[pos].toNat : Int) = true := hq
          go_wp2_with (go_at_call 26; refine (plain_any _ _).mono ?_; rintro e w' ⟨rfl, rfl⟩; rw [hq'])
          go_roundw
          case rel =>
            refine ⟨pos + 1, rfl, fun j hj h => ?_⟩
            by_cases e : j = pos
            · subst e; exact hq
            · exact HP.out j hj (by omega)
          case measure => simp; omega
        · have hq0 : plainU s[pos] = false := by simpa using hq
          have hq' : plainI (s[pos].toNat : Int) = false := hq0
          go_wp2_with (go_at_call 26; refine (plain_any _ _).mono ?_; rintro e w' ⟨rfl, rfl⟩; rw [hq'])
          go_ret
          exact ⟨ret_bool (all_not hp hq0).symm, (Ext.refl _).alloc _⟩
      · have hh := (decode_high s pos hp (by omega)).1
        have hq' := high_plain hh
        have hq0 : plainU s[pos] = false := high_plain (by omega)
        have hnx : ∀ ty, (Instr.next (.pointer (some ⟨w.heap.size, 0, none⟩)) true ty).run Tryd.prog (w.iter s pos) = _ := fun ty => run_next_any w s pos ty hp
        clear hh
        go_wp2_with (go_at_call 26; refine (plain_any _ _).mono ?_; rintro e w' ⟨rfl, rfl⟩; rw [hq'])
        go_ret
        exact ⟨ret_bool (all_not hp hq0).symm, (Ext.refl _).alloc _⟩
    · have hnx : ∀ ty, (Instr.next (.pointer (some ⟨w.heap.size, 0, none⟩)) true ty).run Tryd.prog (w.iter s pos) = _ := fun ty => run_next_end w s pos ty hp
      go_wp2
      go_ret
      exact ⟨ret_bool (all_upto fun j hj => HP.out j hj (by omega)).symm, (Ext.refl _).alloc _⟩
end Go.Proofs.YtdocdppimpapiaaDoor

namespace Go.Proofs.YtdocdppimpapiaaDoor
open Go.RowKit

theorem info_u8 : (Tryd.prog.info? 5).map (fun i => (i.zero, i.size, i.bytes)) = some (some (.int .u8 0), 1, 1) := by kernel_rfl
def bytesL (s : ByteArray) : List Int := s.data.toList.map fun u => (u.toNat : Int)
theorem bytesL_len (s : ByteArray) : (bytesL s).length = s.size := by simp [bytesL]
theorem nameB_size {s : ByteArray} (h : nameB s = true) : 1 ≤ s.size ∧ s.size ≤ 11 := by
  simp only [nameB, Bool.and_eq_true, decide_eq_true_eq] at h
  exact ⟨h.1, h.2.1⟩
end Go.Proofs.YtdocdppimpapiaaDoor

namespace Go.Proofs
open Go.Shelf
def Tryd.lays169_ren : Go.Shelf.Ren := ⟨fun | 169 => 22 | n => n, fun | 70 => 38 | 9 => 9 | 0 => 0 | 72 => 41 | 37 => 39 | 127 => 50 | 3 => 3 | 5 => 5 | n => n, fun | n => n⟩
theorem Tryd.lays169 : Go.Proofs.Lays.n169 Tryd.prog Tryd.lays169_ren := {
  mixed := by kernel_rfl
  f169 := Tryd.func22.trans (congrArg some (by kernel_rfl))
  t0 := Tryd.underlying0
  a0 := Tryd.isAgg0
  z0 := Tryd.sizeOf0
  v0 := Tryd.zeroValue0
  t3 := Tryd.underlying3
  a3 := Tryd.isAgg3
  z3 := Tryd.sizeOf3
  v3 := Tryd.zeroValue3
  t9 := Tryd.underlying9
  a9 := Tryd.isAgg9
  z9 := Tryd.sizeOf9
  v9 := Tryd.zeroValue9
  t37 := Tryd.underlying39
  a37 := Tryd.isAgg39
  z37 := Tryd.sizeOf39
  v37 := Tryd.zeroValue39
  t70 := Tryd.underlying38
  a70 := Tryd.isAgg38
  z70 := Tryd.sizeOf38
  v70 := Tryd.zeroValue38
  t72 := Tryd.underlying41
  a72 := Tryd.isAgg41
  z72 := Tryd.sizeOf41
  v72 := Tryd.zeroValue41
  t127 := Tryd.underlying50
  a127 := Tryd.isAgg50
  z127 := Tryd.sizeOf50
  v127 := Tryd.zeroValue50 }
theorem Tryd.Builder_Extra_169 : Builder.Extra Tryd.prog Tryd.lays169_ren := {
  sizeBuilder := by kernel_rfl
  liesBuilder := by kernel_rfl
  t5 := Tryd.underlying5
  a5 := Tryd.isAgg5
  z5 := Tryd.sizeOf5
  v5 := Tryd.zeroValue5
  infoByte := by kernel_rfl
  cellsByte := by kernel_rfl
  sizeByte := by kernel_rfl
  neB5 := by decide }
open Go.RowKit in
/-- (*strings.Builder).String: "String returns the accumulated string.": OF A BUILDER THAT HOLDS AT LEAST ONE BYTE. ✋ THE MODEL FREEZES THOSE BYTES IN THE BUFFER (unsafe.String): a later write INTO them ends the model's run without an answer; a later append BEHIND them goes on. The statement's order of evaluation is drawn: one draw. (LAID: no walk: one application.) -/
theorem Tryd.Builder_String (B b : Nat) (l : List UInt8) (w : World) (h : Lib.IsBuilder 41 5 B b (Lib.byteCells l) w) (h0 : l ≠ []) :
    Calls Tryd.prog 22 #[.pointer (some ⟨b, 0, none⟩)] w fun e w' => e = .returned (.string ⟨l.toArray⟩) ∧ Below B w w' := Any.Builder_String Tryd.lays169 Tryd.Builder_Extra_169 B b l w h h0
open Go.RowKit in
/-- (*strings.Builder).String OF A BUILDER THAT HOLDS NO BYTE: the empty string. (Its buffer is nil, or a row of which it has taken nothing yet; where that row has NO capacity the model lays one new block for unsafe.SliceData's 'some address'.) One draw. (LAID: no walk: one application.) -/
theorem Tryd.Builder_String_empty (B b : Nat) (w : World) (h : Lib.IsBuilder 41 5 B b [] w) (hBw : B ≤ w.heap.size) :
    Calls Tryd.prog 22 #[.pointer (some ⟨b, 0, none⟩)] w fun e w' => e = .returned (.string ⟨#[]⟩) ∧ Below B w w' := Any.Builder_String_empty Tryd.lays169 Tryd.Builder_Extra_169 B b w h hBw
open Go.RowKit in
/-- (*strings.Builder).String: "String returns the accumulated string.": WHATEVER THE BUILDER HOLDS. (LAID: no walk: one application.) -/
theorem Tryd.Builder_String_any (B b : Nat) (l : List UInt8) (w : World) (h : Lib.IsBuilder 41 5 B b (Lib.byteCells l) w) (hBw : B ≤ w.heap.size) :
    Calls Tryd.prog 22 #[.pointer (some ⟨b, 0, none⟩)] w fun e w' => e = .returned (.string ⟨l.toArray⟩) ∧ Below B w w' := Any.Builder_String_any Tryd.lays169 Tryd.Builder_Extra_169 B b l w h hBw
def Tryd.lays210_ren : Go.Shelf.Ren := ⟨fun | 210 => 23 | 206 => 28 | n => n, fun | 9 => 9 | 4 => 4 | 3 => 3 | n => n, fun | n => n⟩
theorem Tryd.lays210 : Go.Proofs.Lays.n210 Tryd.prog Tryd.lays210_ren := {
  mixed := by kernel_rfl
  f206 := Tryd.func28.trans (congrArg some (by kernel_rfl))
  f210 := Tryd.func23.trans (congrArg some (by kernel_rfl))
  t3 := Tryd.underlying3
  a3 := Tryd.isAgg3
  z3 := Tryd.sizeOf3
  v3 := Tryd.zeroValue3
  t4 := Tryd.underlying4
  a4 := Tryd.isAgg4
  z4 := Tryd.sizeOf4
  v4 := Tryd.zeroValue4
  t9 := Tryd.underlying9
  a9 := Tryd.isAgg9
  z9 := Tryd.sizeOf9
  v9 := Tryd.zeroValue9 }
open Go.RowKit in
/-- internal/stringslite.CutPrefix (what strings.CutPrefix calls). (LAID: no walk: one application.) -/
theorem Tryd.stringslite_CutPrefix (s p : ByteArray) (w : World) :
    Calls Tryd.prog 23 #[.string s, .string p] w fun e w' => e = .returned (.tuple #[.string ⟨(Lib.trimPrefix s.data.toList p.data.toList).toArray⟩, .bool (Lib.hasPrefix s.data.toList p.data.toList)]) ∧ w' = w := Any.stringslite_CutPrefix Tryd.lays210 s p w
def Tryd.lays103_ren : Go.Shelf.Ren := ⟨fun | 103 => 14 | 210 => 23 | 206 => 28 | n => n, fun | 9 => 9 | 4 => 4 | 24 => 33 | 3 => 3 | n => n, fun | n => n⟩
theorem Tryd.lays103 : Go.Proofs.Lays.n103 Tryd.prog Tryd.lays103_ren := {
  mixed := by kernel_rfl
  f103 := Tryd.func14.trans (congrArg some (by kernel_rfl))
  f206 := Tryd.func28.trans (congrArg some (by kernel_rfl))
  f210 := Tryd.func23.trans (congrArg some (by kernel_rfl))
  t3 := Tryd.underlying3
  a3 := Tryd.isAgg3
  z3 := Tryd.sizeOf3
  v3 := Tryd.zeroValue3
  t4 := Tryd.underlying4
  a4 := Tryd.isAgg4
  z4 := Tryd.sizeOf4
  v4 := Tryd.zeroValue4
  t9 := Tryd.underlying9
  a9 := Tryd.isAgg9
  z9 := Tryd.sizeOf9
  v9 := Tryd.zeroValue9
  t24 := Tryd.underlying33
  a24 := Tryd.isAgg33
  z24 := Tryd.sizeOf33
  v24 := Tryd.zeroValue33 }
open Go.RowKit in
/-- strings.CutPrefix: "CutPrefix returns s without the provided leading prefix string and reports whether it found the prefix. If s doesn't start with prefix, CutPrefix returns s, false. If prefix is the empty string, CutPrefix returns s, true.": IT RETURNS '(Lib.trimPrefix s p, Lib.hasPrefix s p)'; the world is as it was. (LAID: no walk: one application.) -/
theorem Tryd.strings_CutPrefix (s p : ByteArray) (w : World) :
    Calls Tryd.prog 14 #[.string s, .string p] w fun e w' => e = .returned (.tuple #[.string ⟨(Lib.trimPrefix s.data.toList p.data.toList).toArray⟩, .bool (Lib.hasPrefix s.data.toList p.data.toList)]) ∧ w' = w := Any.strings_CutPrefix Tryd.lays103 s p w
open Go.RowKit in
/-- (*strings.Builder).String: "String returns the accumulated string.": OF A BUILDER THAT HOLDS AT LEAST ONE BYTE. ✋ THE MODEL FREEZES THOSE BYTES IN THE BUFFER (unsafe.String): a later write INTO them ends the model's run without an answer; a later append BEHIND them goes on. The statement's order of evaluation is drawn: one draw. THE FORM '_f': IT SAYS BESIDES THAT THE BUILDER IS A BUILDER STILL ('Lib.IsBuilderF', the same bytes): SO IT CAN BE WRITTEN ON: 'b.WriteString(b.String()[:k])'. (LAID: no walk: one application.) -/
theorem Tryd.Builder_String_f (B b : Nat) (l : List UInt8) (w : World) (h : Lib.IsBuilderF 41 5 B b (Lib.byteCells l) w) (h0 : l ≠ []) :
    Calls Tryd.prog 22 #[.pointer (some ⟨b, 0, none⟩)] w fun e w' => e = .returned (.string ⟨l.toArray⟩) ∧ (Lib.IsBuilderF 41 5 B b (Lib.byteCells l) w' ∧ Below B w w') := Any.Builder_String_f Tryd.lays169 Tryd.Builder_Extra_169 B b l w h h0
open Go.RowKit in
/-- (*strings.Builder).String OF A BUILDER THAT HOLDS NO BYTE: the empty string; THE FORM '_f': a builder still. (LAID: no walk: one application.) -/
theorem Tryd.Builder_String_empty_f (B b : Nat) (w : World) (h : Lib.IsBuilderF 41 5 B b [] w) (hBw : B ≤ w.heap.size) :
    Calls Tryd.prog 22 #[.pointer (some ⟨b, 0, none⟩)] w fun e w' => e = .returned (.string ⟨#[]⟩) ∧ (Lib.IsBuilderF 41 5 B b [] w' ∧ Below B w w') := Any.Builder_String_empty_f Tryd.lays169 Tryd.Builder_Extra_169 B b w h hBw
open Go.RowKit in
/-- (*strings.Builder).String: "String returns the accumulated string.": WHATEVER THE BUILDER HOLDS; THE FORM '_f': OF A BUILDER THAT MAY HAVE BEEN READ BEFORE; AND IT IS A BUILDER STILL, holding the same bytes: it can be written on. (LAID: no walk: one application.) -/
theorem Tryd.Builder_String_any_f (B b : Nat) (l : List UInt8) (w : World) (h : Lib.IsBuilderF 41 5 B b (Lib.byteCells l) w) (hBw : B ≤ w.heap.size) :
    Calls Tryd.prog 22 #[.pointer (some ⟨b, 0, none⟩)] w fun e w' => e = .returned (.string ⟨l.toArray⟩) ∧ (Lib.IsBuilderF 41 5 B b (Lib.byteCells l) w' ∧ Below B w w') := Any.Builder_String_any_f Tryd.lays169 Tryd.Builder_Extra_169 B b l w h hBw
open Go.RowKit in
/-- (*strings.Builder).String: "String returns the accumulated string.": OF A BUILDER THAT HOLDS AT LEAST ONE BYTE. ✋ THE MODEL FREEZES THOSE BYTES IN THE BUFFER (unsafe.String): a later write INTO them ends the model's run without an answer; a later append BEHIND them goes on. The statement's order of evaluation is drawn: one draw. THE FORM '_k': OVER 'Lib.IsBuilderF' (a builder that 'String()' may have read), AND WITH THE FRAME THAT REACHES ABOVE THE BUILDER: 'Lib.OthersKept': every block that is not b and is no row of uint8's stands as it stood: the iterator of a range among them. (LAID: no walk: one application.) -/
theorem Tryd.Builder_String_k (B b : Nat) (l : List UInt8) (w : World) (h : Lib.IsBuilderF 41 5 B b (Lib.byteCells l) w) (h0 : l ≠ []) :
    Calls Tryd.prog 22 #[.pointer (some ⟨b, 0, none⟩)] w fun e w' => e = .returned (.string ⟨l.toArray⟩) ∧ (Lib.IsBuilderF 41 5 B b (Lib.byteCells l) w' ∧ Below B w w' ∧ Lib.OthersKept 5 (some b) w w') := Any.Builder_String_k Tryd.lays169 Tryd.Builder_Extra_169 B b l w h h0
open Go.RowKit in
/-- (*strings.Builder).String OF A BUILDER THAT HOLDS NO BYTE: the empty string; THE FORM '_k': OVER 'Lib.IsBuilderF' (a builder that 'String()' may have read), AND WITH THE FRAME THAT REACHES ABOVE THE BUILDER: 'Lib.OthersKept': every block that is not b and is no row of uint8's stands as it stood: the iterator of a range among them. (LAID: no walk: one application.) -/
theorem Tryd.Builder_String_empty_k (B b : Nat) (w : World) (h : Lib.IsBuilderF 41 5 B b [] w) (hBw : B ≤ w.heap.size) :
    Calls Tryd.prog 22 #[.pointer (some ⟨b, 0, none⟩)] w fun e w' => e = .returned (.string ⟨#[]⟩) ∧ (Lib.IsBuilderF 41 5 B b [] w' ∧ Below B w w' ∧ Lib.OthersKept 5 (some b) w w') := Any.Builder_String_empty_k Tryd.lays169 Tryd.Builder_Extra_169 B b w h hBw
open Go.RowKit in
/-- (*strings.Builder).String: "String returns the accumulated string.": WHATEVER THE BUILDER HOLDS; THE FORM '_k': OVER 'Lib.IsBuilderF' (a builder that 'String()' may have read), AND WITH THE FRAME THAT REACHES ABOVE THE BUILDER: 'Lib.OthersKept': every block that is not b and is no row of uint8's stands as it stood: the iterator of a range among them. (LAID: no walk: one application.) -/
theorem Tryd.Builder_String_any_k (B b : Nat) (l : List UInt8) (w : World) (h : Lib.IsBuilderF 41 5 B b (Lib.byteCells l) w) (hBw : B ≤ w.heap.size) :
    Calls Tryd.prog 22 #[.pointer (some ⟨b, 0, none⟩)] w fun e w' => e = .returned (.string ⟨l.toArray⟩) ∧ (Lib.IsBuilderF 41 5 B b (Lib.byteCells l) w' ∧ Below B w w' ∧ Lib.OthersKept 5 (some b) w w') := Any.Builder_String_any_k Tryd.lays169 Tryd.Builder_Extra_169 B b l w h hBw
def Tryd.lays195_ren : Go.Shelf.Ren := ⟨fun | 195 => 33 | n => n, fun | 9 => 9 | 3 => 3 | 0 => 0 | 4 => 4 | n => n, fun | n => n⟩
theorem Tryd.lays195 : Go.Proofs.Lays.n195 Tryd.prog Tryd.lays195_ren := {
  mixed := by kernel_rfl
  f195 := Tryd.func33.trans (congrArg some (by kernel_rfl))
  t0 := Tryd.underlying0
  a0 := Tryd.isAgg0
  z0 := Tryd.sizeOf0
  v0 := Tryd.zeroValue0
  t3 := Tryd.underlying3
  a3 := Tryd.isAgg3
  z3 := Tryd.sizeOf3
  v3 := Tryd.zeroValue3
  t4 := Tryd.underlying4
  a4 := Tryd.isAgg4
  z4 := Tryd.sizeOf4
  v4 := Tryd.zeroValue4
  t9 := Tryd.underlying9
  a9 := Tryd.isAgg9
  z9 := Tryd.sizeOf9
  v9 := Tryd.zeroValue9 }
open Go.RowKit in
/-- unicode/utf8.RuneCountInString: "RuneCountInString is like RuneCount but its input is a string." ("RuneCount returns the number of runes in p. Erroneous and short encodings are treated as single runes of width 1 byte."): EVERY STRING, valid UTF-8 or not: 'Lib.runeCount s' (plain Lean over the model's own 'Utf8.decode'; 'Lib.runeCount_le': at most len(s); 'Lib.runeCount_ascii': on ASCII: len(s)). THE ONE CONDITION: len(s) below 2^63 - 1 (the counter does not wrap): the form's reach pays it. THE WORLD BEHIND THE CALL: ONE BLOCK MORE: the model's iterator over s, at its end: all else as it was. (LAID: no walk: one application.) -/
theorem Tryd.utf8_RuneCountInString (s : ByteArray) (w : World) (hs : s.size < 9223372036854775807) :
    Calls Tryd.prog 33 #[.string s] w fun e w' => e = .returned (.int .i64 (Lib.runeCount s)) ∧ ∃ pos, w' = w.iter s pos := Any.utf8_RuneCountInString Tryd.lays195 s w hs
def Tryd.lays217_ren : Go.Shelf.Ren := ⟨fun | 217 => 38 | 266 => 42 | n => n, fun | 9 => 9 | 5 => 5 | 3 => 3 | n => n, fun | n => n⟩
theorem Tryd.lays217 : Go.Proofs.Lays.n217 Tryd.prog Tryd.lays217_ren := {
  mixed := by kernel_rfl
  f217 := Tryd.func38.trans (congrArg some (by kernel_rfl))
  f266 := Tryd.func42.trans (congrArg some (by kernel_rfl))
  t3 := Tryd.underlying3
  a3 := Tryd.isAgg3
  z3 := Tryd.sizeOf3
  v3 := Tryd.zeroValue3
  t5 := Tryd.underlying5
  a5 := Tryd.isAgg5
  z5 := Tryd.sizeOf5
  v5 := Tryd.zeroValue5
  t9 := Tryd.underlying9
  a9 := Tryd.isAgg9
  z9 := Tryd.sizeOf9
  v9 := Tryd.zeroValue9 }
open Go.RowKit Go.Lib in
/-- internal/stringslite.IndexByte (what strings.IndexByte calls): IT RETURNS 'Lib.indexByte s c'; the world is as it was. (LAID: no walk: one application.) -/
theorem Tryd.stringslite_IndexByte (s : ByteArray) (c : Int) (w : World) :
    Calls Tryd.prog 38 #[.string s, .int .u8 c] w fun e w' => e = .returned (.int .i64 (Lib.indexByte s.data.toList c.toNat.toUInt8)) ∧ w' = w := Any.stringslite_IndexByte Tryd.lays217 s c w
def Tryd.lays224_ren : Go.Shelf.Ren := ⟨fun | 224 => 40 | n => n, fun | 3 => 3 | n => n, fun | n => n⟩
theorem Tryd.lays224 : Go.Proofs.Lays.n224 Tryd.prog Tryd.lays224_ren := {
  mixed := by kernel_rfl
  f224 := Tryd.func40.trans (congrArg some (by kernel_rfl))
  t3 := Tryd.underlying3
  a3 := Tryd.isAgg3
  z3 := Tryd.sizeOf3
  v3 := Tryd.zeroValue3 }
open Go.RowKit Go.Lib in
/-- internal/bytealg.Cutover: "Cutover reports the number of failures of IndexByte we should tolerate before switching over to Index. n is the number of bytes processed so far.": on amd64: (n + 16) / 8. (LAID: no walk: one application.) -/
theorem Tryd.bytealg_Cutover (n : Int) (h0 : 0 ≤ n) (h1 : n < 4611686018427387904) (w : World) :
    Calls Tryd.prog 40 #[.int .i64 n] w fun e w' => e = .returned (.int .i64 ((n + 16) / 8)) ∧ w' = w := Any.bytealg_Cutover Tryd.lays224 n h0 h1 w
def Tryd.lays314_ren : Go.Shelf.Ren := ⟨fun | 314 => 43 | n => n, fun | 9 => 9 | 51 => 65 | 3 => 3 | 4 => 4 | 5 => 5 | 46 => 60 | n => n, fun | n => n⟩
theorem Tryd.lays314 : Go.Proofs.Lays.n314 Tryd.prog Tryd.lays314_ren := {
  mixed := by kernel_rfl
  f314 := Tryd.func43.trans (congrArg some (by kernel_rfl))
  t3 := Tryd.underlying3
  a3 := Tryd.isAgg3
  z3 := Tryd.sizeOf3
  v3 := Tryd.zeroValue3
  t4 := Tryd.underlying4
  a4 := Tryd.isAgg4
  z4 := Tryd.sizeOf4
  v4 := Tryd.zeroValue4
  t5 := Tryd.underlying5
  a5 := Tryd.isAgg5
  z5 := Tryd.sizeOf5
  v5 := Tryd.zeroValue5
  t9 := Tryd.underlying9
  a9 := Tryd.isAgg9
  z9 := Tryd.sizeOf9
  v9 := Tryd.zeroValue9
  t46 := Tryd.underlying60
  a46 := Tryd.isAgg60
  z46 := Tryd.sizeOf60
  v46 := Tryd.zeroValue60
  t51 := Tryd.underlying65
  a51 := Tryd.isAgg65
  z51 := Tryd.sizeOf65
  v51 := Tryd.zeroValue65 }
open Go.RowKit Go.Lib in
/-- hashStr: "returns the hash and the appropriate multiplicative factor for use in Rabin-Karp algorithm": THE HASH OF ALL OF sep, AND 16777619 ^ len(sep), both in uint32. (LAID: no walk: one application.) -/
theorem Tryd.bytealg_hashStr (sep : ByteArray) (hs : sep.size < 4294967281) (w : World) :
    Calls Tryd.prog 43 #[.string sep] w fun e w' => e = .returned (.tuple #[.int .u32 (RK.H sep.data.toList % 4294967296), .int .u32 (16777619 ^ sep.size % 4294967296)]) ∧ w' = w := Any.bytealg_hashStr Tryd.lays314 sep hs w
def Tryd.lays267_ren : Go.Shelf.Ren := ⟨fun | 267 => 41 | 314 => 43 | n => n, fun | 9 => 9 | 3 => 3 | 146 => 66 | 51 => 65 | 4 => 4 | 5 => 5 | 46 => 60 | n => n, fun | n => n⟩
theorem Tryd.lays267 : Go.Proofs.Lays.n267 Tryd.prog Tryd.lays267_ren := {
  mixed := by kernel_rfl
  f267 := Tryd.func41.trans (congrArg some (by kernel_rfl))
  f314 := Tryd.func43.trans (congrArg some (by kernel_rfl))
  t3 := Tryd.underlying3
  a3 := Tryd.isAgg3
  z3 := Tryd.sizeOf3
  v3 := Tryd.zeroValue3
  t4 := Tryd.underlying4
  a4 := Tryd.isAgg4
  z4 := Tryd.sizeOf4
  v4 := Tryd.zeroValue4
  t5 := Tryd.underlying5
  a5 := Tryd.isAgg5
  z5 := Tryd.sizeOf5
  v5 := Tryd.zeroValue5
  t9 := Tryd.underlying9
  a9 := Tryd.isAgg9
  z9 := Tryd.sizeOf9
  v9 := Tryd.zeroValue9
  t46 := Tryd.underlying60
  a46 := Tryd.isAgg60
  z46 := Tryd.sizeOf60
  v46 := Tryd.zeroValue60
  t51 := Tryd.underlying65
  a51 := Tryd.isAgg65
  z51 := Tryd.sizeOf65
  v51 := Tryd.zeroValue65
  t146 := Tryd.underlying66
  a146 := Tryd.isAgg66
  z146 := Tryd.sizeOf66
  v146 := Tryd.zeroValue66 }
open Go.RowKit Go.Lib in
theorem Tryd.bytealg_IndexRabinKarp (s sep : ByteArray) (h1 : 1 ≤ sep.size) (h2 : sep.size ≤ s.size) (hs : s.size < 4294967281) (w : World) :
    Calls Tryd.prog 41 #[.string s, .string sep] w fun e w' => e = .returned (.int .i64 (Lib.index s.data.toList sep.data.toList)) ∧ w' = w := Any.bytealg_IndexRabinKarp Tryd.lays267 s sep h1 h2 hs w
def Tryd.lays219_ren : Go.Shelf.Ren := ⟨fun | 219 => 36 | 217 => 38 | 225 => 39 | 224 => 40 | 267 => 41 | 266 => 42 | 314 => 43 | n => n, fun | 9 => 9 | 3 => 3 | 4 => 4 | 5 => 5 | 46 => 60 | 146 => 66 | 51 => 65 | n => n, fun | 1 => 0 | n => n⟩
theorem Tryd.lays219 : Go.Proofs.Lays.n219 Tryd.prog Tryd.lays219_ren := {
  mixed := by kernel_rfl
  f217 := Tryd.func38.trans (congrArg some (by kernel_rfl))
  f219 := Tryd.func36.trans (congrArg some (by kernel_rfl))
  f224 := Tryd.func40.trans (congrArg some (by kernel_rfl))
  f225 := Tryd.func39.trans (congrArg some (by kernel_rfl))
  f266 := Tryd.func42.trans (congrArg some (by kernel_rfl))
  f267 := Tryd.func41.trans (congrArg some (by kernel_rfl))
  f314 := Tryd.func43.trans (congrArg some (by kernel_rfl))
  t3 := Tryd.underlying3
  a3 := Tryd.isAgg3
  z3 := Tryd.sizeOf3
  v3 := Tryd.zeroValue3
  t4 := Tryd.underlying4
  a4 := Tryd.isAgg4
  z4 := Tryd.sizeOf4
  v4 := Tryd.zeroValue4
  t5 := Tryd.underlying5
  a5 := Tryd.isAgg5
  z5 := Tryd.sizeOf5
  v5 := Tryd.zeroValue5
  t9 := Tryd.underlying9
  a9 := Tryd.isAgg9
  z9 := Tryd.sizeOf9
  v9 := Tryd.zeroValue9
  t46 := Tryd.underlying60
  a46 := Tryd.isAgg60
  z46 := Tryd.sizeOf60
  v46 := Tryd.zeroValue60
  t51 := Tryd.underlying65
  a51 := Tryd.isAgg65
  z51 := Tryd.sizeOf65
  v51 := Tryd.zeroValue65
  t146 := Tryd.underlying66
  a146 := Tryd.isAgg66
  z146 := Tryd.sizeOf66
  v146 := Tryd.zeroValue66
  g1 := by kernel_rfl }
open Go.RowKit Go.Lib in
/-- internal/stringslite.Index (what strings.Index calls) AT A substr OF ONE BYTE c: IT RETURNS 'Lib.indexByte s c'; the world is as it was. (LAID: no walk: one application.) -/
theorem Tryd.stringslite_Index_one (s : ByteArray) (c : UInt8) (w : World) :
    Calls Tryd.prog 36 #[.string s, .string ⟨#[c]⟩] w fun e w' => e = .returned (.int .i64 (Lib.indexByte s.data.toList c)) ∧ w' = w := Any.stringslite_Index_one Tryd.lays219 s c w
open Go.RowKit Go.Lib in
/-- internal/stringslite.Index (what strings.Index calls) AT A substr OF WHATEVER LENGTH: IT RETURNS 'Lib.index s substr'; the world is as it was. 'm': what internal/bytealg.MaxLen holds: whatever. (LAID: no walk: one application.) -/
theorem Tryd.stringslite_Index (s sub : ByteArray) (m : Int) (w : World) (hs : s.size < 4294967281) (hm : w.cell? ⟨0, 0, none⟩ = some (.int .i64 m)) :
    Calls Tryd.prog 36 #[.string s, .string sub] w fun e w' => e = .returned (.int .i64 (Lib.index s.data.toList sub.data.toList)) ∧ w' = w := Any.stringslite_Index Tryd.lays219 s sub m w hs hm
def Tryd.lays143_ren : Go.Shelf.Ren := ⟨fun | 143 => 31 | 219 => 36 | 217 => 38 | 225 => 39 | 224 => 40 | 267 => 41 | 266 => 42 | 314 => 43 | n => n, fun | 9 => 9 | 3 => 3 | 4 => 4 | 5 => 5 | 46 => 60 | 146 => 66 | 51 => 65 | n => n, fun | 1 => 0 | n => n⟩
theorem Tryd.lays143 : Go.Proofs.Lays.n143 Tryd.prog Tryd.lays143_ren := {
  mixed := by kernel_rfl
  f143 := Tryd.func31.trans (congrArg some (by kernel_rfl))
  f217 := Tryd.func38.trans (congrArg some (by kernel_rfl))
  f219 := Tryd.func36.trans (congrArg some (by kernel_rfl))
  f224 := Tryd.func40.trans (congrArg some (by kernel_rfl))
  f225 := Tryd.func39.trans (congrArg some (by kernel_rfl))
  f266 := Tryd.func42.trans (congrArg some (by kernel_rfl))
  f267 := Tryd.func41.trans (congrArg some (by kernel_rfl))
  f314 := Tryd.func43.trans (congrArg some (by kernel_rfl))
  t3 := Tryd.underlying3
  a3 := Tryd.isAgg3
  z3 := Tryd.sizeOf3
  v3 := Tryd.zeroValue3
  t4 := Tryd.underlying4
  a4 := Tryd.isAgg4
  z4 := Tryd.sizeOf4
  v4 := Tryd.zeroValue4
  t5 := Tryd.underlying5
  a5 := Tryd.isAgg5
  z5 := Tryd.sizeOf5
  v5 := Tryd.zeroValue5
  t9 := Tryd.underlying9
  a9 := Tryd.isAgg9
  z9 := Tryd.sizeOf9
  v9 := Tryd.zeroValue9
  t46 := Tryd.underlying60
  a46 := Tryd.isAgg60
  z46 := Tryd.sizeOf60
  v46 := Tryd.zeroValue60
  t51 := Tryd.underlying65
  a51 := Tryd.isAgg65
  z51 := Tryd.sizeOf65
  v51 := Tryd.zeroValue65
  t146 := Tryd.underlying66
  a146 := Tryd.isAgg66
  z146 := Tryd.sizeOf66
  v146 := Tryd.zeroValue66
  g1 := by kernel_rfl }
open Go.RowKit Go.Lib in
/-- strings.Index: "Index returns the index of the first instance of substr in s, or -1 if substr is not present in s.": AT A substr OF ONE BYTE c: IT RETURNS 'Lib.indexByte s c'; the world is as it was. (LAID: no walk: one application.) -/
theorem Tryd.strings_Index_one (s : ByteArray) (c : UInt8) (w : World) :
    Calls Tryd.prog 31 #[.string s, .string ⟨#[c]⟩] w fun e w' => e = .returned (.int .i64 (Lib.indexByte s.data.toList c)) ∧ w' = w := Any.strings_Index_one Tryd.lays143 s c w
open Go.RowKit Go.Lib in
/-- strings.Index: "Index returns the index of the first instance of substr in s, or -1 if substr is not present in s.": IT RETURNS 'Lib.index s substr'; the world is as it was. (LAID: no walk: one application.) -/
theorem Tryd.strings_Index (s sub : ByteArray) (m : Int) (w : World) (hs : s.size < 4294967281) (hm : w.cell? ⟨0, 0, none⟩ = some (.int .i64 m)) :
    Calls Tryd.prog 31 #[.string s, .string sub] w fun e w' => e = .returned (.int .i64 (Lib.index s.data.toList sub.data.toList)) ∧ w' = w := Any.strings_Index Tryd.lays143 s sub m w hs hm
def Tryd.lays138_ren : Go.Shelf.Ren := ⟨fun | 138 => 30 | 195 => 33 | 218 => 35 | 143 => 31 | 219 => 36 | 217 => 38 | 225 => 39 | 224 => 40 | 267 => 41 | 266 => 42 | 314 => 43 | n => n, fun | 9 => 9 | 3 => 3 | 4 => 4 | 5 => 5 | 0 => 0 | 46 => 60 | 146 => 66 | 51 => 65 | n => n, fun | 1 => 0 | n => n⟩
theorem Tryd.lays138 : Go.Proofs.Lays.n138 Tryd.prog Tryd.lays138_ren := {
  mixed := by kernel_rfl
  f138 := Tryd.func30.trans (congrArg some (by kernel_rfl))
  f143 := Tryd.func31.trans (congrArg some (by kernel_rfl))
  f195 := Tryd.func33.trans (congrArg some (by kernel_rfl))
  f217 := Tryd.func38.trans (congrArg some (by kernel_rfl))
  f218 := Tryd.func35.trans (congrArg some (by kernel_rfl))
  f219 := Tryd.func36.trans (congrArg some (by kernel_rfl))
  f224 := Tryd.func40.trans (congrArg some (by kernel_rfl))
  f225 := Tryd.func39.trans (congrArg some (by kernel_rfl))
  f266 := Tryd.func42.trans (congrArg some (by kernel_rfl))
  f267 := Tryd.func41.trans (congrArg some (by kernel_rfl))
  f314 := Tryd.func43.trans (congrArg some (by kernel_rfl))
  t0 := Tryd.underlying0
  a0 := Tryd.isAgg0
  z0 := Tryd.sizeOf0
  v0 := Tryd.zeroValue0
  t3 := Tryd.underlying3
  a3 := Tryd.isAgg3
  z3 := Tryd.sizeOf3
  v3 := Tryd.zeroValue3
  t4 := Tryd.underlying4
  a4 := Tryd.isAgg4
  z4 := Tryd.sizeOf4
  v4 := Tryd.zeroValue4
  t5 := Tryd.underlying5
  a5 := Tryd.isAgg5
  z5 := Tryd.sizeOf5
  v5 := Tryd.zeroValue5
  t9 := Tryd.underlying9
  a9 := Tryd.isAgg9
  z9 := Tryd.sizeOf9
  v9 := Tryd.zeroValue9
  t46 := Tryd.underlying60
  a46 := Tryd.isAgg60
  z46 := Tryd.sizeOf60
  v46 := Tryd.zeroValue60
  t51 := Tryd.underlying65
  a51 := Tryd.isAgg65
  z51 := Tryd.sizeOf65
  v51 := Tryd.zeroValue65
  t146 := Tryd.underlying66
  a146 := Tryd.isAgg66
  z146 := Tryd.sizeOf66
  v146 := Tryd.zeroValue66
  g1 := by kernel_rfl }
open Go.RowKit Go.Lib in
/-- strings.Count AT A substr OF ONE BYTE ('hp'): "Count counts the number of non-overlapping instances of substr in s.": IT RETURNS 'Lib.countByte s (that byte)'; the world is as it was. ✋ NO CONTRACT HERE YET at an empty substr (utf8.RuneCountInString) or at a longer one (a loop over strings.Index). (LAID: no walk: one application.) -/
theorem Tryd.strings_Count_one (s : ByteArray) (c : UInt8) (w : World) :
    Calls Tryd.prog 30 #[.string s, .string ⟨#[c]⟩] w fun e w' => e = .returned (.int .i64 (Lib.countByte s.data.toList c)) ∧ w' = w := Any.strings_Count_one Tryd.lays138 s c w
open Go.RowKit Go.Lib in
/-- strings.Count AT A substr OF TWO BYTES OR MORE: "Count counts the number of non-overlapping instances of substr in s.": IT RETURNS 'Lib.count s substr'; the world is as it was. (LAID: no walk: one application.) -/
theorem Tryd.strings_Count (s sub : ByteArray) (m : Int) (w : World) (hs : s.size < 4294967281) (hm : w.cell? ⟨0, 0, none⟩ = some (.int .i64 m)) (h2 : 2 ≤ sub.size) :
    Calls Tryd.prog 30 #[.string s, .string sub] w fun e w' => e = .returned (.int .i64 (Lib.countB s sub)) ∧ w' = w := Any.strings_Count Tryd.lays138 s sub m w hs hm h2
def Tryd.laysM219_ren : Go.Shelf.Ren := ⟨fun | 219 => 36 | 217 => 38 | 225 => 39 | 224 => 40 | 267 => 41 | 266 => 42 | 314 => 43 | n => n, fun | 9 => 9 | 3 => 3 | 4 => 4 | 5 => 5 | 46 => 60 | 146 => 66 | 51 => 65 | n => n, fun | 1 => 0 | n => n⟩
theorem Tryd.laysM219 : Go.Proofs.LaysM.n219 Tryd.prog Tryd.laysM219_ren := {
  mixed := by kernel_rfl
  f217 := Tryd.func38.trans (congrArg some (by kernel_rfl))
  f219 := Tryd.func36.trans (congrArg some (by kernel_rfl))
  f224 := Tryd.func40.trans (congrArg some (by kernel_rfl))
  f225 := Tryd.func39.trans (congrArg some (by kernel_rfl))
  f266 := Tryd.func42.trans (congrArg some (by kernel_rfl))
  f267 := Tryd.func41.trans (congrArg some (by kernel_rfl))
  f314 := Tryd.func43.trans (congrArg some (by kernel_rfl))
  t3 := Tryd.underlying3
  a3 := Tryd.isAgg3
  z3 := Tryd.sizeOf3
  v3 := Tryd.zeroValue3
  t4 := Tryd.underlying4
  a4 := Tryd.isAgg4
  z4 := Tryd.sizeOf4
  v4 := Tryd.zeroValue4
  t5 := Tryd.underlying5
  a5 := Tryd.isAgg5
  z5 := Tryd.sizeOf5
  v5 := Tryd.zeroValue5
  t9 := Tryd.underlying9
  a9 := Tryd.isAgg9
  z9 := Tryd.sizeOf9
  v9 := Tryd.zeroValue9
  t46 := Tryd.underlying60
  a46 := Tryd.isAgg60
  z46 := Tryd.sizeOf60
  v46 := Tryd.zeroValue60
  t51 := Tryd.underlying65
  a51 := Tryd.isAgg65
  z51 := Tryd.sizeOf65
  v51 := Tryd.zeroValue65
  t146 := Tryd.underlying66
  a146 := Tryd.isAgg66
  z146 := Tryd.sizeOf66
  v146 := Tryd.zeroValue66
  g1 := by kernel_rfl
  i3 := by kernel_rfl
  i4 := by kernel_rfl
  i5 := by kernel_rfl
  i9 := by kernel_rfl
  i46 := by kernel_rfl
  i51 := by kernel_rfl
  i146 := by kernel_rfl
  m1 := by kernel_rfl
  s1_3 := fun w h => Go.Proofs.cell_of_shapedOpen_int (zero := #[.int .i64 0]) (t := 3) h (of_decide_eq_true (by kernel_rfl)) (by kernel_rfl) rfl (by kernel_rfl) (by kernel_rfl) Tryd.underlying3 }
open Go.RowKit Go.Lib in
theorem Tryd.stringslite_Index_shaped (s sub : ByteArray) (w : World) (h : w.ShapedOpen Tryd.prog) (hs : s.size < 4294967281) :
    Calls Tryd.prog 36 #[.string s, .string sub] w fun e w' => e = .returned (.int .i64 (Lib.index s.data.toList sub.data.toList)) ∧ w' = w := Any.stringslite_Index_shaped Tryd.laysM219 s sub w h hs
def Tryd.laysM143_ren : Go.Shelf.Ren := ⟨fun | 143 => 31 | 219 => 36 | 217 => 38 | 225 => 39 | 224 => 40 | 267 => 41 | 266 => 42 | 314 => 43 | n => n, fun | 9 => 9 | 3 => 3 | 4 => 4 | 5 => 5 | 46 => 60 | 146 => 66 | 51 => 65 | n => n, fun | 1 => 0 | n => n⟩
theorem Tryd.laysM143 : Go.Proofs.LaysM.n143 Tryd.prog Tryd.laysM143_ren := {
  mixed := by kernel_rfl
  f143 := Tryd.func31.trans (congrArg some (by kernel_rfl))
  f217 := Tryd.func38.trans (congrArg some (by kernel_rfl))
  f219 := Tryd.func36.trans (congrArg some (by kernel_rfl))
  f224 := Tryd.func40.trans (congrArg some (by kernel_rfl))
  f225 := Tryd.func39.trans (congrArg some (by kernel_rfl))
  f266 := Tryd.func42.trans (congrArg some (by kernel_rfl))
  f267 := Tryd.func41.trans (congrArg some (by kernel_rfl))
  f314 := Tryd.func43.trans (congrArg some (by kernel_rfl))
  t3 := Tryd.underlying3
  a3 := Tryd.isAgg3
  z3 := Tryd.sizeOf3
  v3 := Tryd.zeroValue3
  t4 := Tryd.underlying4
  a4 := Tryd.isAgg4
  z4 := Tryd.sizeOf4
  v4 := Tryd.zeroValue4
  t5 := Tryd.underlying5
  a5 := Tryd.isAgg5
  z5 := Tryd.sizeOf5
  v5 := Tryd.zeroValue5
  t9 := Tryd.underlying9
  a9 := Tryd.isAgg9
  z9 := Tryd.sizeOf9
  v9 := Tryd.zeroValue9
  t46 := Tryd.underlying60
  a46 := Tryd.isAgg60
  z46 := Tryd.sizeOf60
  v46 := Tryd.zeroValue60
  t51 := Tryd.underlying65
  a51 := Tryd.isAgg65
  z51 := Tryd.sizeOf65
  v51 := Tryd.zeroValue65
  t146 := Tryd.underlying66
  a146 := Tryd.isAgg66
  z146 := Tryd.sizeOf66
  v146 := Tryd.zeroValue66
  g1 := by kernel_rfl
  i3 := by kernel_rfl
  i4 := by kernel_rfl
  i5 := by kernel_rfl
  i9 := by kernel_rfl
  i46 := by kernel_rfl
  i51 := by kernel_rfl
  i146 := by kernel_rfl
  m1 := by kernel_rfl
  s1_3 := fun w h => Go.Proofs.cell_of_shapedOpen_int (zero := #[.int .i64 0]) (t := 3) h (of_decide_eq_true (by kernel_rfl)) (by kernel_rfl) rfl (by kernel_rfl) (by kernel_rfl) Tryd.underlying3 }
open Go.RowKit Go.Lib in
theorem Tryd.strings_Index_shaped (s sub : ByteArray) (w : World) (h : w.ShapedOpen Tryd.prog) (hs : s.size < 4294967281) :
    Calls Tryd.prog 31 #[.string s, .string sub] w fun e w' => e = .returned (.int .i64 (Lib.index s.data.toList sub.data.toList)) ∧ w' = w := Any.strings_Index_shaped Tryd.laysM143 s sub w h hs
def Tryd.laysM138_ren : Go.Shelf.Ren := ⟨fun | 138 => 30 | 195 => 33 | 218 => 35 | 143 => 31 | 219 => 36 | 217 => 38 | 225 => 39 | 224 => 40 | 267 => 41 | 266 => 42 | 314 => 43 | n => n, fun | 9 => 9 | 3 => 3 | 4 => 4 | 5 => 5 | 0 => 0 | 46 => 60 | 146 => 66 | 51 => 65 | n => n, fun | 1 => 0 | n => n⟩
theorem Tryd.laysM138 : Go.Proofs.LaysM.n138 Tryd.prog Tryd.laysM138_ren := {
  mixed := by kernel_rfl
  f138 := Tryd.func30.trans (congrArg some (by kernel_rfl))
  f143 := Tryd.func31.trans (congrArg some (by kernel_rfl))
  f195 := Tryd.func33.trans (congrArg some (by kernel_rfl))
  f217 := Tryd.func38.trans (congrArg some (by kernel_rfl))
  f218 := Tryd.func35.trans (congrArg some (by kernel_rfl))
  f219 := Tryd.func36.trans (congrArg some (by kernel_rfl))
  f224 := Tryd.func40.trans (congrArg some (by kernel_rfl))
  f225 := Tryd.func39.trans (congrArg some (by kernel_rfl))
  f266 := Tryd.func42.trans (congrArg some (by kernel_rfl))
  f267 := Tryd.func41.trans (congrArg some (by kernel_rfl))
  f314 := Tryd.func43.trans (congrArg some (by kernel_rfl))
  t0 := Tryd.underlying0
  a0 := Tryd.isAgg0
  z0 := Tryd.sizeOf0
  v0 := Tryd.zeroValue0
  t3 := Tryd.underlying3
  a3 := Tryd.isAgg3
  z3 := Tryd.sizeOf3
  v3 := Tryd.zeroValue3
  t4 := Tryd.underlying4
  a4 := Tryd.isAgg4
  z4 := Tryd.sizeOf4
  v4 := Tryd.zeroValue4
  t5 := Tryd.underlying5
  a5 := Tryd.isAgg5
  z5 := Tryd.sizeOf5
  v5 := Tryd.zeroValue5
  t9 := Tryd.underlying9
  a9 := Tryd.isAgg9
  z9 := Tryd.sizeOf9
  v9 := Tryd.zeroValue9
  t46 := Tryd.underlying60
  a46 := Tryd.isAgg60
  z46 := Tryd.sizeOf60
  v46 := Tryd.zeroValue60
  t51 := Tryd.underlying65
  a51 := Tryd.isAgg65
  z51 := Tryd.sizeOf65
  v51 := Tryd.zeroValue65
  t146 := Tryd.underlying66
  a146 := Tryd.isAgg66
  z146 := Tryd.sizeOf66
  v146 := Tryd.zeroValue66
  g1 := by kernel_rfl
  i0 := by kernel_rfl
  i3 := by kernel_rfl
  i4 := by kernel_rfl
  i5 := by kernel_rfl
  i9 := by kernel_rfl
  i46 := by kernel_rfl
  i51 := by kernel_rfl
  i146 := by kernel_rfl
  m1 := by kernel_rfl
  s1_3 := fun w h => Go.Proofs.cell_of_shapedOpen_int (zero := #[.int .i64 0]) (t := 3) h (of_decide_eq_true (by kernel_rfl)) (by kernel_rfl) rfl (by kernel_rfl) (by kernel_rfl) Tryd.underlying3 }
open Go.RowKit Go.Lib in
theorem Tryd.strings_Count_shaped (s sub : ByteArray) (w : World) (h : w.ShapedOpen Tryd.prog) (hs : s.size < 4294967281) (h2 : 2 ≤ sub.size) :
    Calls Tryd.prog 30 #[.string s, .string sub] w fun e w' => e = .returned (.int .i64 (Lib.countB s sub)) ∧ w' = w := Any.strings_Count_shaped Tryd.laysM138 s sub w h hs h2
def Tryd.lays206_ren : Go.Shelf.Ren := ⟨fun | 206 => 28 | n => n, fun | 9 => 9 | 4 => 4 | 3 => 3 | n => n, fun | n => n⟩
theorem Tryd.lays206 : Go.Proofs.Lays.n206 Tryd.prog Tryd.lays206_ren := {
  mixed := by kernel_rfl
  f206 := Tryd.func28.trans (congrArg some (by kernel_rfl))
  t3 := Tryd.underlying3
  a3 := Tryd.isAgg3
  z3 := Tryd.sizeOf3
  v3 := Tryd.zeroValue3
  t4 := Tryd.underlying4
  a4 := Tryd.isAgg4
  z4 := Tryd.sizeOf4
  v4 := Tryd.zeroValue4
  t9 := Tryd.underlying9
  a9 := Tryd.isAgg9
  z9 := Tryd.sizeOf9
  v9 := Tryd.zeroValue9 }
open Go.RowKit Go.Lib in
/-- internal/stringslite.HasPrefix (what strings.HasPrefix calls). (LAID: no walk: one application.) -/
theorem Tryd.stringslite_HasPrefix (s p : ByteArray) (w : World) :
    Calls Tryd.prog 28 #[.string s, .string p] w fun e w' => e = .returned (.bool (Lib.hasPrefix s.data.toList p.data.toList)) ∧ w' = w := Any.stringslite_HasPrefix Tryd.lays206 s p w
open Go.RowKit Go.Lib in
/-- strings.Count at whatever sep that is not empty: the two roads under one statement. (LAID: no walk: one application.) -/
theorem Tryd.strings_Count_any (s sep : ByteArray) (m : Int) (w : World) (hs : s.size < 4294967281) (hm : w.cell? ⟨0, 0, none⟩ = some (.int .i64 m)) (h1 : 1 ≤ sep.size) :
    Calls Tryd.prog 30 #[.string s, .string sep] w fun e w' => e = .returned (.int .i64 (Lib.countB s sep)) ∧ w' = w := Any.strings_Count_any Tryd.lays138 s sep m w hs hm h1
def Tryd.lays221_ren : Go.Shelf.Ren := ⟨fun | 221 => 24 | 268 => 29 | 138 => 30 | 143 => 31 | 195 => 33 | 197 => 34 | 218 => 35 | 219 => 36 | 260 => 37 | 217 => 38 | 225 => 39 | 224 => 40 | 267 => 41 | 266 => 42 | 314 => 43 | n => n, fun | 9 => 9 | 3 => 3 | 31 => 22 | 4 => 4 | 0 => 0 | 105 => 56 | 21 => 21 | 5 => 5 | 46 => 60 | 119 => 61 | 139 => 64 | 138 => 63 | 146 => 66 | 51 => 65 | n => n, fun | 1 => 0 | 3 => 1 | 4 => 2 | n => n⟩
theorem Tryd.lays221 : Go.Proofs.Lays.n221 Tryd.prog Tryd.lays221_ren := {
  mixed := by kernel_rfl
  f138 := Tryd.func30.trans (congrArg some (by kernel_rfl))
  f143 := Tryd.func31.trans (congrArg some (by kernel_rfl))
  f195 := Tryd.func33.trans (congrArg some (by kernel_rfl))
  f197 := Tryd.func34.trans (congrArg some (by kernel_rfl))
  f217 := Tryd.func38.trans (congrArg some (by kernel_rfl))
  f218 := Tryd.func35.trans (congrArg some (by kernel_rfl))
  f219 := Tryd.func36.trans (congrArg some (by kernel_rfl))
  f221 := Tryd.func24.trans (congrArg some (by kernel_rfl))
  f224 := Tryd.func40.trans (congrArg some (by kernel_rfl))
  f225 := Tryd.func39.trans (congrArg some (by kernel_rfl))
  f260 := Tryd.func37.trans (congrArg some (by kernel_rfl))
  f266 := Tryd.func42.trans (congrArg some (by kernel_rfl))
  f267 := Tryd.func41.trans (congrArg some (by kernel_rfl))
  f268 := Tryd.func29.trans (congrArg some (by kernel_rfl))
  f314 := Tryd.func43.trans (congrArg some (by kernel_rfl))
  t0 := Tryd.underlying0
  a0 := Tryd.isAgg0
  z0 := Tryd.sizeOf0
  v0 := Tryd.zeroValue0
  t3 := Tryd.underlying3
  a3 := Tryd.isAgg3
  z3 := Tryd.sizeOf3
  v3 := Tryd.zeroValue3
  t4 := Tryd.underlying4
  a4 := Tryd.isAgg4
  z4 := Tryd.sizeOf4
  v4 := Tryd.zeroValue4
  t5 := Tryd.underlying5
  a5 := Tryd.isAgg5
  z5 := Tryd.sizeOf5
  v5 := Tryd.zeroValue5
  t9 := Tryd.underlying9
  a9 := Tryd.isAgg9
  z9 := Tryd.sizeOf9
  v9 := Tryd.zeroValue9
  t21 := Tryd.underlying21
  a21 := Tryd.isAgg21
  z21 := Tryd.sizeOf21
  v21 := Tryd.zeroValue21
  t31 := Tryd.underlying22
  a31 := Tryd.isAgg22
  z31 := Tryd.sizeOf22
  v31 := Tryd.zeroValue22
  t46 := Tryd.underlying60
  a46 := Tryd.isAgg60
  z46 := Tryd.sizeOf60
  v46 := Tryd.zeroValue60
  t51 := Tryd.underlying65
  a51 := Tryd.isAgg65
  z51 := Tryd.sizeOf65
  v51 := Tryd.zeroValue65
  t105 := Tryd.underlying56
  a105 := Tryd.isAgg56
  z105 := Tryd.sizeOf56
  v105 := Tryd.zeroValue56
  t119 := Tryd.underlying61
  a119 := Tryd.isAgg61
  z119 := Tryd.sizeOf61
  t138 := Tryd.underlying63
  a138 := Tryd.isAgg63
  z138 := Tryd.sizeOf63
  v138 := Tryd.zeroValue63
  t139 := Tryd.underlying64
  a139 := Tryd.isAgg64
  z139 := Tryd.sizeOf64
  v139 := Tryd.zeroValue64
  t146 := Tryd.underlying66
  a146 := Tryd.isAgg66
  z146 := Tryd.sizeOf66
  v146 := Tryd.zeroValue66
  g1 := by kernel_rfl
  g3 := by kernel_rfl
  g4 := by kernel_rfl }
open Go.RowKit Go.Lib in
theorem Tryd.strings_genSplit (s sep : ByteArray) (sv : Nat) (n : Int) (N : Nat) (m : Int) (w : World) (hs : s.size < 4294967281) (hm : w.cell? ⟨0, 0, none⟩ = some (.int .i64 m)) (h1 : 1 ≤ sep.size) (hsv : sv ≤ sep.size) (hn0 : n ≠ 0) (hn63 : n ≤ 9223372036854775807) (hN : (N : Int) = min (if n < 0 then (Lib.countB s sep : Int) + 1 else n) ((s.size : Int) + 1)) :
    Calls Tryd.prog 24 #[.string s, .string sep, .int .i64 sv, .int .i64 n] w fun e w' =>
      e = .returned (.slice (some ⟨w.heap.size, 0, none⟩) (Lib.splitB sep sv (N - 1) s).length N) ∧ w' = w.alloc (.cells (Lib.cellsOf (Lib.splitB sep sv (N - 1) s) N) 9) := Any.strings_genSplit Tryd.lays221 (by kernel_rfl) s sep sv n N m w hs hm h1 hsv hn0 hn63 hN
def Tryd.lays146_ren : Go.Shelf.Ren := ⟨fun | 146 => 15 | 221 => 24 | 268 => 29 | 138 => 30 | 143 => 31 | 195 => 33 | 197 => 34 | 218 => 35 | 219 => 36 | 260 => 37 | 217 => 38 | 225 => 39 | 224 => 40 | 267 => 41 | 266 => 42 | 314 => 43 | n => n, fun | 9 => 9 | 31 => 22 | 3 => 3 | 4 => 4 | 0 => 0 | 105 => 56 | 21 => 21 | 5 => 5 | 46 => 60 | 119 => 61 | 139 => 64 | 138 => 63 | 146 => 66 | 51 => 65 | n => n, fun | 1 => 0 | 3 => 1 | 4 => 2 | n => n⟩
theorem Tryd.lays146 : Go.Proofs.Lays.n146 Tryd.prog Tryd.lays146_ren := {
  mixed := by kernel_rfl
  f138 := Tryd.func30.trans (congrArg some (by kernel_rfl))
  f143 := Tryd.func31.trans (congrArg some (by kernel_rfl))
  f146 := Tryd.func15.trans (congrArg some (by kernel_rfl))
  f195 := Tryd.func33.trans (congrArg some (by kernel_rfl))
  f197 := Tryd.func34.trans (congrArg some (by kernel_rfl))
  f217 := Tryd.func38.trans (congrArg some (by kernel_rfl))
  f218 := Tryd.func35.trans (congrArg some (by kernel_rfl))
  f219 := Tryd.func36.trans (congrArg some (by kernel_rfl))
  f221 := Tryd.func24.trans (congrArg some (by kernel_rfl))
  f224 := Tryd.func40.trans (congrArg some (by kernel_rfl))
  f225 := Tryd.func39.trans (congrArg some (by kernel_rfl))
  f260 := Tryd.func37.trans (congrArg some (by kernel_rfl))
  f266 := Tryd.func42.trans (congrArg some (by kernel_rfl))
  f267 := Tryd.func41.trans (congrArg some (by kernel_rfl))
  f268 := Tryd.func29.trans (congrArg some (by kernel_rfl))
  f314 := Tryd.func43.trans (congrArg some (by kernel_rfl))
  t0 := Tryd.underlying0
  a0 := Tryd.isAgg0
  z0 := Tryd.sizeOf0
  v0 := Tryd.zeroValue0
  t3 := Tryd.underlying3
  a3 := Tryd.isAgg3
  z3 := Tryd.sizeOf3
  v3 := Tryd.zeroValue3
  t4 := Tryd.underlying4
  a4 := Tryd.isAgg4
  z4 := Tryd.sizeOf4
  v4 := Tryd.zeroValue4
  t5 := Tryd.underlying5
  a5 := Tryd.isAgg5
  z5 := Tryd.sizeOf5
  v5 := Tryd.zeroValue5
  t9 := Tryd.underlying9
  a9 := Tryd.isAgg9
  z9 := Tryd.sizeOf9
  v9 := Tryd.zeroValue9
  t21 := Tryd.underlying21
  a21 := Tryd.isAgg21
  z21 := Tryd.sizeOf21
  v21 := Tryd.zeroValue21
  t31 := Tryd.underlying22
  a31 := Tryd.isAgg22
  z31 := Tryd.sizeOf22
  v31 := Tryd.zeroValue22
  t46 := Tryd.underlying60
  a46 := Tryd.isAgg60
  z46 := Tryd.sizeOf60
  v46 := Tryd.zeroValue60
  t51 := Tryd.underlying65
  a51 := Tryd.isAgg65
  z51 := Tryd.sizeOf65
  v51 := Tryd.zeroValue65
  t105 := Tryd.underlying56
  a105 := Tryd.isAgg56
  z105 := Tryd.sizeOf56
  v105 := Tryd.zeroValue56
  t119 := Tryd.underlying61
  a119 := Tryd.isAgg61
  z119 := Tryd.sizeOf61
  t138 := Tryd.underlying63
  a138 := Tryd.isAgg63
  z138 := Tryd.sizeOf63
  v138 := Tryd.zeroValue63
  t139 := Tryd.underlying64
  a139 := Tryd.isAgg64
  z139 := Tryd.sizeOf64
  v139 := Tryd.zeroValue64
  t146 := Tryd.underlying66
  a146 := Tryd.isAgg66
  z146 := Tryd.sizeOf66
  v146 := Tryd.zeroValue66
  g1 := by kernel_rfl
  g3 := by kernel_rfl
  g4 := by kernel_rfl }
open Go.RowKit Go.Lib in
/-- strings.Split. (LAID: no walk: one application.) -/
theorem Tryd.strings_Split (s sep : ByteArray) (m : Int) (w : World) (hs : s.size < 4294967281) (hm : w.cell? ⟨0, 0, none⟩ = some (.int .i64 m)) (h1 : 1 ≤ sep.size) :
    Calls Tryd.prog 15 #[.string s, .string sep] w fun e w' =>
      e = .returned (.slice (some ⟨w.heap.size, 0, none⟩) (Lib.countB s sep + 1) (Lib.countB s sep + 1)) ∧ w' = w.alloc (.cells ((Lib.splitB sep 0 (Lib.countB s sep) s).map Value.string).toArray 9) := Any.strings_Split Tryd.lays146 (by kernel_rfl) s sep m w hs hm h1
def Tryd.laysM146_ren : Go.Shelf.Ren := ⟨fun | 146 => 15 | 221 => 24 | 268 => 29 | 138 => 30 | 143 => 31 | 195 => 33 | 197 => 34 | 218 => 35 | 219 => 36 | 260 => 37 | 217 => 38 | 225 => 39 | 224 => 40 | 267 => 41 | 266 => 42 | 314 => 43 | n => n, fun | 9 => 9 | 31 => 22 | 3 => 3 | 4 => 4 | 0 => 0 | 105 => 56 | 21 => 21 | 5 => 5 | 46 => 60 | 119 => 61 | 139 => 64 | 138 => 63 | 146 => 66 | 51 => 65 | n => n, fun | 1 => 0 | 3 => 1 | 4 => 2 | n => n⟩
theorem Tryd.laysM146 : Go.Proofs.LaysM.n146 Tryd.prog Tryd.laysM146_ren := {
  mixed := by kernel_rfl
  f138 := Tryd.func30.trans (congrArg some (by kernel_rfl))
  f143 := Tryd.func31.trans (congrArg some (by kernel_rfl))
  f146 := Tryd.func15.trans (congrArg some (by kernel_rfl))
  f195 := Tryd.func33.trans (congrArg some (by kernel_rfl))
  f197 := Tryd.func34.trans (congrArg some (by kernel_rfl))
  f217 := Tryd.func38.trans (congrArg some (by kernel_rfl))
  f218 := Tryd.func35.trans (congrArg some (by kernel_rfl))
  f219 := Tryd.func36.trans (congrArg some (by kernel_rfl))
  f221 := Tryd.func24.trans (congrArg some (by kernel_rfl))
  f224 := Tryd.func40.trans (congrArg some (by kernel_rfl))
  f225 := Tryd.func39.trans (congrArg some (by kernel_rfl))
  f260 := Tryd.func37.trans (congrArg some (by kernel_rfl))
  f266 := Tryd.func42.trans (congrArg some (by kernel_rfl))
  f267 := Tryd.func41.trans (congrArg some (by kernel_rfl))
  f268 := Tryd.func29.trans (congrArg some (by kernel_rfl))
  f314 := Tryd.func43.trans (congrArg some (by kernel_rfl))
  t0 := Tryd.underlying0
  a0 := Tryd.isAgg0
  z0 := Tryd.sizeOf0
  v0 := Tryd.zeroValue0
  t3 := Tryd.underlying3
  a3 := Tryd.isAgg3
  z3 := Tryd.sizeOf3
  v3 := Tryd.zeroValue3
  t4 := Tryd.underlying4
  a4 := Tryd.isAgg4
  z4 := Tryd.sizeOf4
  v4 := Tryd.zeroValue4
  t5 := Tryd.underlying5
  a5 := Tryd.isAgg5
  z5 := Tryd.sizeOf5
  v5 := Tryd.zeroValue5
  t9 := Tryd.underlying9
  a9 := Tryd.isAgg9
  z9 := Tryd.sizeOf9
  v9 := Tryd.zeroValue9
  t21 := Tryd.underlying21
  a21 := Tryd.isAgg21
  z21 := Tryd.sizeOf21
  v21 := Tryd.zeroValue21
  t31 := Tryd.underlying22
  a31 := Tryd.isAgg22
  z31 := Tryd.sizeOf22
  v31 := Tryd.zeroValue22
  t46 := Tryd.underlying60
  a46 := Tryd.isAgg60
  z46 := Tryd.sizeOf60
  v46 := Tryd.zeroValue60
  t51 := Tryd.underlying65
  a51 := Tryd.isAgg65
  z51 := Tryd.sizeOf65
  v51 := Tryd.zeroValue65
  t105 := Tryd.underlying56
  a105 := Tryd.isAgg56
  z105 := Tryd.sizeOf56
  v105 := Tryd.zeroValue56
  t119 := Tryd.underlying61
  a119 := Tryd.isAgg61
  z119 := Tryd.sizeOf61
  t138 := Tryd.underlying63
  a138 := Tryd.isAgg63
  z138 := Tryd.sizeOf63
  v138 := Tryd.zeroValue63
  t139 := Tryd.underlying64
  a139 := Tryd.isAgg64
  z139 := Tryd.sizeOf64
  v139 := Tryd.zeroValue64
  t146 := Tryd.underlying66
  a146 := Tryd.isAgg66
  z146 := Tryd.sizeOf66
  v146 := Tryd.zeroValue66
  g1 := by kernel_rfl
  g3 := by kernel_rfl
  g4 := by kernel_rfl
  i0 := by kernel_rfl
  i3 := by kernel_rfl
  i4 := by kernel_rfl
  i5 := by kernel_rfl
  i9 := by kernel_rfl
  i21 := by kernel_rfl
  i31 := by kernel_rfl
  i46 := by kernel_rfl
  i51 := by kernel_rfl
  i105 := by kernel_rfl
  i138 := by kernel_rfl
  i139 := by kernel_rfl
  i146 := by kernel_rfl
  m1 := by kernel_rfl
  s1_3 := fun w h => Go.Proofs.cell_of_shapedOpen_int (zero := #[.int .i64 0]) (t := 3) h (of_decide_eq_true (by kernel_rfl)) (by kernel_rfl) rfl (by kernel_rfl) (by kernel_rfl) Tryd.underlying3
  m3 := by kernel_rfl
  m4 := by kernel_rfl }
open Go.RowKit Go.Lib in
/-- strings.Split, sep not empty. (LAID: no walk: one application.) -/
theorem Tryd.strings_Split_shaped (s sep : ByteArray) (w : World) (h : w.ShapedOpen Tryd.prog) (hs : s.size < 4294967281) (h1 : 1 ≤ sep.size) :
    Calls Tryd.prog 15 #[.string s, .string sep] w fun e w' =>
      e = .returned (.slice (some ⟨w.heap.size, 0, none⟩) (Lib.countB s sep + 1) (Lib.countB s sep + 1)) ∧ w' = w.alloc (.cells ((Lib.splitB sep 0 (Lib.countB s sep) s).map Value.string).toArray 9) := Any.strings_Split_shaped Tryd.laysM146 s sep w h hs h1
def Tryd.lays197_ren : Go.Shelf.Ren := ⟨fun | 197 => 34 | 260 => 37 | n => n, fun | 9 => 9 | 21 => 21 | 3 => 3 | 4 => 4 | 5 => 5 | 105 => 56 | 119 => 61 | 0 => 0 | 46 => 60 | 139 => 64 | 138 => 63 | n => n, fun | 3 => 1 | 4 => 2 | n => n⟩
theorem Tryd.lays197 : Go.Proofs.Lays.n197 Tryd.prog Tryd.lays197_ren := {
  mixed := by kernel_rfl
  f197 := Tryd.func34.trans (congrArg some (by kernel_rfl))
  f260 := Tryd.func37.trans (congrArg some (by kernel_rfl))
  t0 := Tryd.underlying0
  a0 := Tryd.isAgg0
  z0 := Tryd.sizeOf0
  v0 := Tryd.zeroValue0
  t3 := Tryd.underlying3
  a3 := Tryd.isAgg3
  z3 := Tryd.sizeOf3
  v3 := Tryd.zeroValue3
  t4 := Tryd.underlying4
  a4 := Tryd.isAgg4
  z4 := Tryd.sizeOf4
  v4 := Tryd.zeroValue4
  t5 := Tryd.underlying5
  a5 := Tryd.isAgg5
  z5 := Tryd.sizeOf5
  v5 := Tryd.zeroValue5
  t9 := Tryd.underlying9
  a9 := Tryd.isAgg9
  z9 := Tryd.sizeOf9
  v9 := Tryd.zeroValue9
  t21 := Tryd.underlying21
  a21 := Tryd.isAgg21
  z21 := Tryd.sizeOf21
  v21 := Tryd.zeroValue21
  t46 := Tryd.underlying60
  a46 := Tryd.isAgg60
  z46 := Tryd.sizeOf60
  v46 := Tryd.zeroValue60
  t105 := Tryd.underlying56
  a105 := Tryd.isAgg56
  z105 := Tryd.sizeOf56
  v105 := Tryd.zeroValue56
  t119 := Tryd.underlying61
  a119 := Tryd.isAgg61
  z119 := Tryd.sizeOf61
  t138 := Tryd.underlying63
  a138 := Tryd.isAgg63
  z138 := Tryd.sizeOf63
  v138 := Tryd.zeroValue63
  t139 := Tryd.underlying64
  a139 := Tryd.isAgg64
  z139 := Tryd.sizeOf64
  v139 := Tryd.zeroValue64
  g3 := by kernel_rfl
  g4 := by kernel_rfl }
open Go.RowKit Go.Lib in
/-- unicode/utf8.DecodeRuneInString: "DecodeRuneInString is like DecodeRune but its input is a string.": ("DecodeRune unpacks the first UTF-8 encoding in p and returns the rune and its width in bytes."): WHERE s BEGINS WITH AN ASCII BYTE x: (x, 1). (LAID: no walk: one application.) -/
theorem Tryd.utf8_DecodeRuneInString_ascii (s : ByteArray) (x : UInt8) (w : World) (h0 : s.data.toList[0]? = some x) (hx : x.toNat < 128) :
    Calls Tryd.prog 34 #[.string s] w fun e w' => e = .returned (.tuple #[.int .i32 x.toNat, .int .i64 1]) ∧ w' = w := Any.utf8_DecodeRuneInString_ascii Tryd.lays197 s x w h0 hx
open Go.RowKit Go.Lib in
theorem Tryd.utf8_RuneCountInString_ascii (s : ByteArray) (w : World) (hs : s.size < 4294967281) (hascii : ∀ (j : Nat) b, s.data.toList[j]? = some b → b.toNat < 128) :
    Calls Tryd.prog 33 #[.string s] w fun e w' => e = .returned (.int .i64 s.size) ∧ w' = w.iter s s.size := Any.utf8_RuneCountInString_ascii Tryd.lays195 s w hs hascii
def Tryd.lays268_ren : Go.Shelf.Ren := ⟨fun | 268 => 29 | 195 => 33 | 197 => 34 | 260 => 37 | n => n, fun | 9 => 9 | 3 => 3 | 31 => 22 | 4 => 4 | 105 => 56 | 21 => 21 | 0 => 0 | 5 => 5 | 119 => 61 | 46 => 60 | 139 => 64 | 138 => 63 | n => n, fun | 3 => 1 | 4 => 2 | n => n⟩
theorem Tryd.lays268 : Go.Proofs.Lays.n268 Tryd.prog Tryd.lays268_ren := {
  mixed := by kernel_rfl
  f195 := Tryd.func33.trans (congrArg some (by kernel_rfl))
  f197 := Tryd.func34.trans (congrArg some (by kernel_rfl))
  f260 := Tryd.func37.trans (congrArg some (by kernel_rfl))
  f268 := Tryd.func29.trans (congrArg some (by kernel_rfl))
  t0 := Tryd.underlying0
  a0 := Tryd.isAgg0
  z0 := Tryd.sizeOf0
  v0 := Tryd.zeroValue0
  t3 := Tryd.underlying3
  a3 := Tryd.isAgg3
  z3 := Tryd.sizeOf3
  v3 := Tryd.zeroValue3
  t4 := Tryd.underlying4
  a4 := Tryd.isAgg4
  z4 := Tryd.sizeOf4
  v4 := Tryd.zeroValue4
  t5 := Tryd.underlying5
  a5 := Tryd.isAgg5
  z5 := Tryd.sizeOf5
  v5 := Tryd.zeroValue5
  t9 := Tryd.underlying9
  a9 := Tryd.isAgg9
  z9 := Tryd.sizeOf9
  v9 := Tryd.zeroValue9
  t21 := Tryd.underlying21
  a21 := Tryd.isAgg21
  z21 := Tryd.sizeOf21
  v21 := Tryd.zeroValue21
  t31 := Tryd.underlying22
  a31 := Tryd.isAgg22
  z31 := Tryd.sizeOf22
  v31 := Tryd.zeroValue22
  t46 := Tryd.underlying60
  a46 := Tryd.isAgg60
  z46 := Tryd.sizeOf60
  v46 := Tryd.zeroValue60
  t105 := Tryd.underlying56
  a105 := Tryd.isAgg56
  z105 := Tryd.sizeOf56
  v105 := Tryd.zeroValue56
  t119 := Tryd.underlying61
  a119 := Tryd.isAgg61
  z119 := Tryd.sizeOf61
  t138 := Tryd.underlying63
  a138 := Tryd.isAgg63
  z138 := Tryd.sizeOf63
  v138 := Tryd.zeroValue63
  t139 := Tryd.underlying64
  a139 := Tryd.isAgg64
  z139 := Tryd.sizeOf64
  v139 := Tryd.zeroValue64
  g3 := by kernel_rfl
  g4 := by kernel_rfl }
open Go.RowKit Go.Lib in
theorem Tryd.strings_explode_all (s : ByteArray) (n : Int) (w : World) (hn : n < 0) (hs : s.size < 4294967281) (hascii : ∀ (j : Nat) b, s.data.toList[j]? = some b → b.toNat < 128) :
    Calls Tryd.prog 29 #[.string s, .int .i64 n] w fun e w' =>
      e = .returned (.slice (some ⟨(w.iter s s.size).heap.size, 0, none⟩) s.size s.size) ∧ w' = (w.iter s s.size).alloc (.cells ((Lib.charsB s).map Value.string).toArray 9) := Any.strings_explode_all Tryd.lays268 (by kernel_rfl) s n w hn hs hascii
open Go.RowKit Go.Lib in
/-- strings.genSplit at sep == "", n < 0: 'return explode(s, n)'. (LAID: no walk: one application.) -/
theorem Tryd.strings_genSplit_chars (s sep : ByteArray) (sv n : Int) (w : World) (h0 : sep.size = 0) (hn : n < 0) (hs : s.size < 4294967281) (hascii : ∀ (j : Nat) b, s.data.toList[j]? = some b → b.toNat < 128) :
    Calls Tryd.prog 24 #[.string s, .string sep, .int .i64 sv, .int .i64 n] w fun e w' =>
      e = .returned (.slice (some ⟨(w.iter s s.size).heap.size, 0, none⟩) s.size s.size) ∧ w' = (w.iter s s.size).alloc (.cells ((Lib.charsB s).map Value.string).toArray 9) := Any.strings_genSplit_chars Tryd.lays221 (by kernel_rfl) s sep sv n w h0 hn hs hascii
open Go.RowKit Go.Lib in
/-- strings.Split(s, ""), s ASCII: a piece a byte. (LAID: no walk: one application.) -/
theorem Tryd.strings_Split_chars (s sep : ByteArray) (w : World) (h0 : sep.size = 0) (hs : s.size < 4294967281) (hascii : ∀ (j : Nat) b, s.data.toList[j]? = some b → b.toNat < 128) :
    Calls Tryd.prog 15 #[.string s, .string sep] w fun e w' =>
      e = .returned (.slice (some ⟨(w.iter s s.size).heap.size, 0, none⟩) s.size s.size) ∧ w' = (w.iter s s.size).alloc (.cells ((Lib.charsB s).map Value.string).toArray 9) := Any.strings_Split_chars Tryd.lays146 (by kernel_rfl) s sep w h0 hs hascii
def Tryd.lays260_ren : Go.Shelf.Ren := ⟨fun | 260 => 37 | n => n, fun | 9 => 9 | 21 => 21 | 3 => 3 | 4 => 4 | 5 => 5 | 119 => 61 | 0 => 0 | 46 => 60 | 139 => 64 | 138 => 63 | n => n, fun | 3 => 1 | 4 => 2 | n => n⟩
theorem Tryd.lays260 : Go.Proofs.Lays.n260 Tryd.prog Tryd.lays260_ren := {
  mixed := by kernel_rfl
  f260 := Tryd.func37.trans (congrArg some (by kernel_rfl))
  t0 := Tryd.underlying0
  a0 := Tryd.isAgg0
  z0 := Tryd.sizeOf0
  v0 := Tryd.zeroValue0
  t3 := Tryd.underlying3
  a3 := Tryd.isAgg3
  z3 := Tryd.sizeOf3
  v3 := Tryd.zeroValue3
  t4 := Tryd.underlying4
  a4 := Tryd.isAgg4
  z4 := Tryd.sizeOf4
  v4 := Tryd.zeroValue4
  t5 := Tryd.underlying5
  a5 := Tryd.isAgg5
  z5 := Tryd.sizeOf5
  v5 := Tryd.zeroValue5
  t9 := Tryd.underlying9
  a9 := Tryd.isAgg9
  z9 := Tryd.sizeOf9
  v9 := Tryd.zeroValue9
  t21 := Tryd.underlying21
  a21 := Tryd.isAgg21
  z21 := Tryd.sizeOf21
  v21 := Tryd.zeroValue21
  t46 := Tryd.underlying60
  a46 := Tryd.isAgg60
  z46 := Tryd.sizeOf60
  v46 := Tryd.zeroValue60
  t119 := Tryd.underlying61
  a119 := Tryd.isAgg61
  z119 := Tryd.sizeOf61
  t138 := Tryd.underlying63
  a138 := Tryd.isAgg63
  z138 := Tryd.sizeOf63
  v138 := Tryd.zeroValue63
  t139 := Tryd.underlying64
  a139 := Tryd.isAgg64
  z139 := Tryd.sizeOf64
  v139 := Tryd.zeroValue64
  g3 := by kernel_rfl
  g4 := by kernel_rfl }
open Go.RowKit Go.Lib in
theorem Tryd.utf8_decodeRuneInStringSlow (s : ByteArray) (w : World) (hT : Lib.Utf8Tabs 1 2 w) :
    Calls Tryd.prog 37 #[.string s] w fun e w' => e = .returned (.tuple #[.int .i32 (Lib.decodeGo s).1, .int .i64 (Lib.decodeGo s).2]) ∧ Below w.heap.size w w' := Any.utf8_decodeRuneInStringSlow Tryd.lays260 s w hT
open Go.RowKit Go.Lib in
/-- **unicode/utf8.DecodeRuneInString AT EVERY STRING.** (LAID: no walk: one application.) -/
theorem Tryd.utf8_DecodeRuneInString (s : ByteArray) (w : World) (hT : Lib.Utf8Tabs 1 2 w) :
    Calls Tryd.prog 34 #[.string s] w fun e w' => e = .returned (.tuple #[.int .i32 (Lib.decodeGo s).1, .int .i64 (Lib.decodeGo s).2]) ∧ Below w.heap.size w w' := Any.utf8_DecodeRuneInString Tryd.lays197 s w hT
def Tryd.lays193_ren : Go.Shelf.Ren := ⟨fun | 193 => 20 | n => n, fun | 31 => 22 | 9 => 9 | 4 => 4 | 3 => 3 | 0 => 0 | n => n, fun | n => n⟩
theorem Tryd.lays193 : Go.Proofs.Lays.n193 Tryd.prog Tryd.lays193_ren := {
  mixed := by kernel_rfl
  f193 := Tryd.func20.trans (congrArg some (by kernel_rfl))
  t0 := Tryd.underlying0
  a0 := Tryd.isAgg0
  z0 := Tryd.sizeOf0
  v0 := Tryd.zeroValue0
  t3 := Tryd.underlying3
  a3 := Tryd.isAgg3
  z3 := Tryd.sizeOf3
  v3 := Tryd.zeroValue3
  t4 := Tryd.underlying4
  a4 := Tryd.isAgg4
  z4 := Tryd.sizeOf4
  v4 := Tryd.zeroValue4
  t9 := Tryd.underlying9
  a9 := Tryd.isAgg9
  z9 := Tryd.sizeOf9
  v9 := Tryd.zeroValue9
  t31 := Tryd.underlying22
  a31 := Tryd.isAgg22
  z31 := Tryd.sizeOf22
  v31 := Tryd.zeroValue22 }
open Go.RowKit Go.Lib in
/-- slices.Equal at []string: "Equal reports whether two slices are equal: the same length and all elements equal. If the lengths are different, Equal returns false. Otherwise, the elements are compared in increasing index order, and the comparison stops at the first unequal pair. Empty and nil slices are considered equal.": IT RETURNS WHETHER THE TWO LISTS OF ELEMENTS ARE ONE; the world is as it was but for the count of draws (the test 's1[i] != s2[i]' has two reads, whose order the model draws, once a round). 'xs', 'ys': what the cells behind the two addresses hold (the spare capacity too, if you have it); 'xs.take n', 'ys.take m': the elements. THE TWO SLICES MAY OVERLAP. (LAID: no walk: one application.) -/
theorem Tryd.slices_Equal_string (b1 o1 n c b2 o2 m d : Nat) (xs ys : List ByteArray) (w : World) (hx : n ≤ xs.length) (hy : m ≤ ys.length) (hbig : n ≤ 9223372036854775807) (hbig2 : m ≤ 9223372036854775807) (hc1 : ∀ j, j < xs.length → w.cell? ⟨b1, o1 + j, none⟩ = some (.string (xs.getD j ByteArray.empty))) (hc2 : ∀ j, j < ys.length → w.cell? ⟨b2, o2 + j, none⟩ = some (.string (ys.getD j ByteArray.empty))) :
    Calls Tryd.prog 20 #[.slice (some ⟨b1, o1, none⟩) n c, .slice (some ⟨b2, o2, none⟩) m d] w fun e w' => e = .returned (.bool (decide (xs.take n = ys.take m))) ∧ ∃ q, w' = w.drewN q := Any.slices_Equal_string Tryd.lays193 b1 o1 n c b2 o2 m d xs ys w hx hy hbig hbig2 hc1 hc2
open Go.RowKit Go.Lib in
/-- The same where the first is of length 0 (a nil one too): no cell is asked for. (LAID: no walk: one application.) -/
theorem Tryd.slices_Equal_string_empty (a1 a2 : Option Addr) (c m d : Nat) (w : World) (hbig2 : m ≤ 9223372036854775807) :
    Calls Tryd.prog 20 #[.slice a1 0 c, .slice a2 m d] w fun e w' => e = .returned (.bool (decide (m = 0))) ∧ w' = w := Any.slices_Equal_string_empty Tryd.lays193 a1 a2 c m d w hbig2
open Go.RowKit Go.Lib in
theorem Tryd.slices_Equal_string_lens (a1 a2 : Option Addr) (n c m d : Nat) (w : World) (hnm : n ≠ m) :
    Calls Tryd.prog 20 #[.slice a1 n c, .slice a2 m d] w fun e w' => e = .returned (.bool false) ∧ w' = w := Any.slices_Equal_string_lens Tryd.lays193 a1 a2 n c m d w hnm
end Go.Proofs

namespace Go.Proofs.YtdocdppimpapiaaDoor
open Go.RowKit

def eT (s : ByteArray) : List Value := [.string s]
theorem eT_len (s : ByteArray) : (eT s).length = 1 := rfl
theorem eT_one (s : ByteArray) : ∀ u ∈ eT s, u.oneCell' = true := fun u hu => by
  simp only [eT, List.mem_cons, List.mem_nil_iff, or_false] at hu
  rcases hu with rfl; rfl
theorem Sl.txt {Q : Nat → Prop} {w : World} {A : Option Addr} {n cap : Nat} {xs : List ByteArray} (h : Sl eT 1 Q w A n cap xs) (k : Nat) (hk : k < n) :
    ∃ b off s, A = some ⟨b, off, none⟩ ∧ xs[k]? = some s ∧ Q b ∧ b < w.heap.size ∧ w.cell? ⟨b, off + k, none⟩ = some (.string s) := by
  have hl : k < xs.length := by rw [← h.len]; exact hk
  have hx : xs[k]? = some xs[k] := List.getElem?_eq_getElem hl
  obtain ⟨b, off, ha, hb, hc⟩ := h.at_ k _ hx
  have c0 := hc 0 _ rfl
  rw [Nat.add_zero, Nat.mul_one] at c0
  exact ⟨b, off, _, ha, hx, hb, World.block_lt_of_cell? w _ c0, c0⟩

set_option maxHeartbeats 400000 in
theorem split1_any (s : ByteArray) (w : World) : Calls Tryd.prog 17 #[.string s] w fun e w' => e = .returned (.bool (!(nameB s))) ∧ Ext w w' := by
  go_enter Tryd.func17, Tryd.ntmps17
  go_wp2_with (go_at_call 18; refine (name_any _ _).mono ?_; rintro e w1 ⟨rfl, he1⟩)
  go_ret
  exact ⟨rfl, he1⟩

/-- Are all of them names? -/
def namesB (l : List ByteArray) : Bool := l.all nameB
/-- Where the first stands that is no name. -/
def badI : List ByteArray → Nat → Int
  | [], _ => -1
  | s :: l, k => if nameB s = true then badI l (k + 1) else (k : Int)
theorem badI_none : ∀ (l : List ByteArray) (k : Nat), namesB l = true → badI l k = -1
  | [], _, _ => rfl
  | s :: l, k, h => by
    simp only [namesB, List.all_cons, Bool.and_eq_true] at h
    unfold badI
    rw [if_pos h.1]
    exact badI_none l (k + 1) h.2
theorem badI_some : ∀ (l : List ByteArray) (k : Nat), namesB l = false → 0 ≤ badI l k
  | [], _, h => by cases h
  | s :: l, k, h => by
    unfold badI
    by_cases h1 : nameB s = true
    · rw [if_pos h1]
      refine badI_some l (k + 1) ?_
      simp only [namesB, List.all_cons, h1, Bool.true_and] at h
      exact h
    · rw [if_neg h1]; omega
theorem badI_step {l : List ByteArray} {k : Nat} {s : ByteArray} (h : l[k]? = some s) : badI (l.drop k) k = if nameB s = true then badI (l.drop (k + 1)) (k + 1) else (k : Int) := by
  have hk : k < l.length := by
    rcases Nat.lt_or_ge k l.length with h1 | h1
    · exact h1
    · rw [List.getElem?_eq_none h1] at h; cases h
  have h2 : l[k] = s := by rw [List.getElem?_eq_getElem hk] at h; injection h
  rw [List.drop_eq_getElem_cons hk, h2]
  rfl

set_option maxHeartbeats 1600000 in
theorem idxT_any (A : Option Addr) (n c : Nat) (l : List ByteArray) (Q : Nat → Prop) (w : World) (h : Sl eT 1 Q w A n c l) (hn : n ≤ 1048576) :
    Calls Tryd.prog 25 #[.slice A n c, .func (.func 17) #[] #[]] w fun e w' => e = .returned (.int .i64 (badI l 0)) ∧ Ext w w' := by
  have HN := Lib.hid h.len
  have H := Lib.hid h
  clear h
  go_enter Tryd.func25, Tryd.ntmps25
  go_wp2
  go_loopw [8] (fun i wr => ∃ k : Nat, k ≤ n ∧ i = .int .i64 k ∧ badI (l.drop k) k = badI l 0 ∧ Ext w wr) (fun i _ => n - (intOf i).toNat)
  case atStart => exact ⟨0, Nat.zero_le _, rfl, rfl, Ext.refl _⟩
  case round =>
    obtain ⟨k, hk, rfl, hch, hx⟩ := hrel
    have HCH := Lib.hid hch
    have HX := Lib.hid hx
    clear hch hx
    by_cases hlt : k < n
    · obtain ⟨b, o, s, rfl, hp, _, hbl, hc0⟩ := H.out.txt k hlt
      replace hc0 := HX.out.at hc0
      have hst := badI_step hp
      have k0 : (0 : Int) ≤ (k : Int) := by omega
      have k9 : (k : Int) < (n : Int) := by omega
      obtain ⟨nb, hnb⟩ : ∃ nb, nameB s = nb := ⟨_, rfl⟩
      rw [hnb] at hst
      have HST := Lib.hid hst
      have HNB := Lib.hid hnb
      clear hst hp hnb
      cases nb
      · have H1 := Lib.hid (HCH.out.symm.trans HST.out)
        go_wp2_with (go_at_call 17; refine (split1_any _ _).mono ?_; rw [HNB.out]; rintro e w3 ⟨rfl, he3⟩)
        go_ret
        exact ⟨ret_int H1.out.symm, HX.out.trans he3⟩
      · have H1 := Lib.hid (HCH.out.symm.trans HST.out)
        go_wp2_with (go_at_call 17; refine (split1_any _ _).mono ?_; rw [HNB.out]; rintro e w3 ⟨rfl, he3⟩)
        exact ⟨⟨k + 1, by omega, by go_num, H1.out.symm, HX.out.trans he3⟩, by simp [intOf]; omega⟩
    · have hE : badI l 0 = -1 := by
        have h1 := HCH.out
        rw [List.drop_eq_nil_of_le (by rw [← HN.out]; omega)] at h1
        exact h1.symm
      have H1 := Lib.hid hE
      clear hE
      go_wp2
      go_ret
      exact ⟨ret_int H1.out.symm, HX.out⟩

set_option maxHeartbeats 400000 in
theorem contT_any (A : Option Addr) (n c : Nat) (l : List ByteArray) (Q : Nat → Prop) (w : World) (h : Sl eT 1 Q w A n c l) (hn : n ≤ 1048576) :
    Calls Tryd.prog 16 #[.slice A n c, .func (.func 17) #[] #[]] w fun e w' => e = .returned (.bool (!(namesB l))) ∧ Ext w w' := by
  have H := Lib.hid h
  clear h
  obtain ⟨bi, hbi⟩ : ∃ bi, badI l 0 = bi := ⟨_, rfl⟩
  have HB := Lib.hid hbi
  cases hnb : namesB l
  · have hp : 0 ≤ bi := by rw [← hbi]; exact badI_some l 0 hnb
    clear hbi hnb
    go_enter Tryd.func16, Tryd.ntmps16
    go_wp2_with (go_at_call 25; refine (idxT_any _ _ _ _ _ _ H.out hn).mono ?_; rw [HB.out]; rintro e w3 ⟨rfl, he3⟩)
    go_ret
    exact ⟨ret_bool (by simp <;> omega), he3⟩
  · have hp : bi = -1 := by rw [← hbi]; exact badI_none l 0 hnb
    clear hbi hnb
    subst hp
    go_enter Tryd.func16, Tryd.ntmps16
    go_wp2_with (go_at_call 25; refine (idxT_any _ _ _ _ _ _ H.out hn).mono ?_; rw [HB.out]; rintro e w3 ⟨rfl, he3⟩)
    go_ret
    exact ⟨ret_bool (by first | rfl | simp), he3⟩
end Go.Proofs.YtdocdppimpapiaaDoor

namespace Go.Proofs.YtdocdppimpapiaaDoor
open Go.RowKit

def slashB : ByteArray := ⟨#[47]⟩
/-- A text's pieces between slashes. -/
def pcsB (s : ByteArray) : List ByteArray := Lib.splitB ⟨#[47]⟩ 0 (Lib.countB s ⟨#[47]⟩) s
theorem pcsB_len (s : ByteArray) : (pcsB s).length = Lib.countB s ⟨#[47]⟩ + 1 := Lib.splitB_all _ (by decide) 0 _ _ rfl
def restB (p : ByteArray) : ByteArray := ⟨(Lib.trimPrefix p.data.toList [47]).toArray⟩
/-- A path's names, and the error. -/
def splitP (p : ByteArray) : List ByteArray × Int :=
  if Lib.hasPrefix p.data.toList [47] = true then
    (if ((restB p).toList == []) = true then ([], 0) else if (pcsB (restB p)).length ≤ 8 ∧ namesB (pcsB (restB p)) = true then (pcsB (restB p), 0) else ([], 18))
  else ([], 18)
theorem restB_size (p : ByteArray) : (restB p).size ≤ p.size := by
  have : (Lib.trimPrefix p.data.toList [47]).length ≤ p.data.toList.length := by
    unfold Lib.trimPrefix
    split
    · rw [List.length_drop]; omega
    · exact Nat.le_refl _
  have h2 : p.data.toList.length = p.size := by rw [Array.length_toList]; rfl
  show ((Lib.trimPrefix p.data.toList [47]).toArray).size ≤ p.size
  rw [List.size_toArray, ← h2]
  exact this
theorem flat_eT (l : List ByteArray) : (l.map Value.string).toArray.toList = l.flatMap eT := by
  induction l with
  | nil => rfl
  | cons s l ih => rw [List.flatMap_cons, ← ih]; rfl
/-- Texts and an error come back. -/
def RetTx (r : List ByteArray × Int) (w : World) (e : Ending) (w' : World) : Prop :=
  ∃ A n cap, e = .returned (.tuple #[.slice A n cap, .int .i64 r.2]) ∧ Sl eT 1 (fun k => w.heap.size ≤ k) w' A n cap r.1 ∧ Ext w w'

set_option maxHeartbeats 1600000 in
theorem dsplit_any (p : ByteArray) (m : Int) (w : World) (hp : p.size ≤ 1048576) (hm : w.cell? ⟨0, 0, none⟩ = some (.int .i64 m)) :
    Calls Tryd.prog 5 #[.string p] w (RetTx (splitP p) w) := by
  have cC := Tryd.strings_CutPrefix p ⟨#[47]⟩
  obtain ⟨rest, hrest⟩ : ∃ rest, restB p = rest := ⟨_, rfl⟩
  obtain ⟨ok, hok⟩ : ∃ ok, Lib.hasPrefix p.data.toList [47] = ok := ⟨_, rfl⟩
  have hsz : rest.size ≤ 1048576 := by rw [← hrest]; exact Nat.le_trans (restB_size p) hp
  have HC : Hid (∀ w, Calls Tryd.prog 14 #[.string p, .string ⟨#[47]⟩] w fun e w' => e = .returned (.tuple #[.string rest, .bool ok]) ∧ w' = w) := Lib.hid fun w => by
    rw [← hrest, ← hok]
    exact cC w
  obtain ⟨l, hl⟩ : ∃ l, pcsB rest = l := ⟨_, rfl⟩
  have hll : l.length = Lib.countB rest ⟨#[47]⟩ + 1 := by rw [← hl]; exact pcsB_len rest
  obtain ⟨n, hn⟩ : ∃ n, Lib.countB rest ⟨#[47]⟩ + 1 = n := ⟨_, rfl⟩
  have HS : Hid (∀ w : World, w.cell? ⟨0, 0, none⟩ = some (.int .i64 m) → Calls Tryd.prog 15 #[.string rest, .string ⟨#[47]⟩] w fun e w' => e = .returned (.slice (some ⟨w.heap.size, 0, none⟩) n n) ∧ w' = w.alloc (.cells (l.map Value.string).toArray 9)) := Lib.hid fun w h => by
    rw [← hl, ← hn]
    exact Tryd.strings_Split rest ⟨#[47]⟩ m w (by omega) h (by decide)
  have E : splitP p = if ok = true then (if (rest.toList == []) = true then ([], 0) else if l.length ≤ 8 ∧ namesB l = true then (l, 0) else ([], 18)) else ([], 18) := by
    unfold splitP; rw [hok, hrest, hl]
  have EE := Lib.hid E
  have HLL := Lib.hid (hll.trans hn)
  clear cC hrest hok hl hll hn E
  cases ok
  · go_enter Tryd.func5, Tryd.ntmps5
    go_wp2_with (go_at_call 14; refine (HC.out _).mono ?_; rintro e w1 ⟨rfl, rfl⟩)
    go_ret2
    rw [EE.out]
    exact ⟨none, 0, 0, rfl, Sl.nil _ _ none 0 (Nat.zero_le _), Ext.refl _⟩
  · by_cases hr : (rest.toList == []) = true
    · have E2 := Lib.hid (show splitP p = ([], 0) by rw [EE.out, if_pos rfl, if_pos hr])
      go_enter Tryd.func5, Tryd.ntmps5
      go_wp2_with (go_at_call 14; refine (HC.out _).mono ?_; rintro e w1 ⟨rfl, rfl⟩)
      go_ret2
      rw [E2.out]
      exact ⟨none, 0, 0, rfl, Sl.nil _ _ none 0 (Nat.zero_le _), Ext.refl _⟩
    · replace hr : (rest.toList == []) = false := by simpa using hr
      by_cases h8 : 8 < n
      · have E2 := Lib.hid (show splitP p = ([], 18) by rw [EE.out, if_pos rfl, if_neg (by rw [hr]; decide), if_neg (by rintro ⟨h, _⟩; rw [HLL.out] at h; omega)])
        have d8 : decide ((8 : Int) < (n : Int)) = true := decide_eq_true (by omega)
        go_enter Tryd.func5, Tryd.ntmps5
        go_wp2_with (first
          | (go_at_call 14; refine (HC.out _).mono ?_; rintro e w1 ⟨rfl, rfl⟩)
          | (go_at_call 15; refine (HS.out _ hm).mono ?_; rintro e w1 ⟨rfl, rfl⟩))
        go_ret2
        rw [E2.out]
        exact ⟨none, 0, 0, rfl, Sl.nil _ _ none 0 (Nat.zero_le _), (Ext.refl _).alloc _⟩
      · have d8 : decide ((8 : Int) < (n : Int)) = false := decide_eq_false (by omega)
        have HSL := Lib.hid (Sl.laid eT_len w l (l.map Value.string).toArray 9 n (flat_eT l) HLL.out.symm (by omega))
        cases hnb : namesB l
        · have E2 := Lib.hid (show splitP p = ([], 18) by rw [EE.out, if_pos rfl, if_neg (by rw [hr]; decide), if_neg (by rintro ⟨_, h⟩; rw [hnb] at h; cases h)])
          have HNB := Lib.hid hnb
          clear hnb
          go_enter Tryd.func5, Tryd.ntmps5
          go_wp2_with (first
            | (go_at_call 14; refine (HC.out _).mono ?_; rintro e w1 ⟨rfl, rfl⟩)
            | (go_at_call 15; refine (HS.out _ hm).mono ?_; rintro e w1 ⟨rfl, rfl⟩)
            | (go_at_call 16; refine (contT_any _ _ _ _ _ _ HSL.out (by omega)).mono ?_; rw [HNB.out]; rintro e w2 ⟨rfl, he2⟩))
          go_ret2
          rw [E2.out]
          exact ⟨none, 0, 0, rfl, Sl.nil _ _ none 0 (Nat.zero_le _), ((Ext.refl _).alloc _).trans he2⟩
        · have E2 := Lib.hid (show splitP p = (l, 0) by rw [EE.out, if_pos rfl, if_neg (by rw [hr]; decide), if_pos ⟨by rw [HLL.out]; omega, hnb⟩])
          have HNB := Lib.hid hnb
          clear hnb
          go_enter Tryd.func5, Tryd.ntmps5
          go_wp2_with (first
            | (go_at_call 14; refine (HC.out _).mono ?_; rintro e w1 ⟨rfl, rfl⟩)
            | (go_at_call 15; refine (HS.out _ hm).mono ?_; rintro e w1 ⟨rfl, rfl⟩)
            | (go_at_call 16; refine (contT_any _ _ _ _ _ _ HSL.out (by omega)).mono ?_; rw [HNB.out]; rintro e w2 ⟨rfl, he2⟩))
          go_ret2
          rw [E2.out]
          exact ⟨_, n, n, rfl, (HSL.out.ext he2).mono fun k hk => by omega, ((Ext.refl _).alloc _).trans he2⟩
end Go.Proofs.YtdocdppimpapiaaDoor

namespace Go.Proofs.YtdocdppimpapiaaDoor
open Go.RowKit

theorem bld_size : (Tryd.prog.info? 41).map (·.size) = some 2 := by kernel_rfl
theorem bld_lies : liesAt Tryd.prog Tryd.prog.depth 41 (2 / Tryd.prog.cellsOf 41) 0 41 1 = true := by kernel_rfl

set_option maxHeartbeats 800000 in
set_option maxRecDepth 100000 in
theorem cc_new (b n cap : Nat) (A : Option Addr) (w : World) (h : w.heap[b]? = some (.cells #[.pointer none, .slice A n cap] 41 (0, 0))) :
    Calls Tryd.prog 27 #[.pointer (some ⟨b, 0, none⟩)] w fun e w' => e = .returned (.tuple #[]) ∧ w' = w.setCell ⟨b, 0, none⟩ (.pointer (some ⟨b, 0, none⟩)) := by
  obtain ⟨j, hj, hjs⟩ := Option.map_eq_some_iff.1 bld_size
  have c0 := cell_of_heap h 0; have c1 := cell_of_heap h 1; simp only [List.getElem?_toArray, List.getElem?_cons_zero, List.getElem?_cons_succ] at c0 c1
  have f0 := free_of_heap h 0; have f1 := free_of_heap h 1
  have hsh : w.shape? b = some (41, 2) := by simp [World.shape?, h]
  clear h
  go_enter Tryd.func27, Tryd.ntmps27
  go_wp2
  rw [Lib.run_to_unsafe w ⟨b, 0, none⟩ Tryd.underlying38 Tryd.underlying53 hj (by rw [hjs]; decide) hsh (Nat.zero_lt_succ 1)]
  simp only [Result.andThen]
  rw [Oper.upon_value]
  go_wp2
  rw [run_callFunc_extern Tryd.func32 (by kernel_rfl) (by kernel_rfl) (by kernel_rfl) (e := Extern.AbiNoEscape.same) (by kernel_rfl)]
  rw [Lib.run_noEscape]
  simp only [Result.andThen]
  rw [Oper.upon_value]
  go_wp2
  rw [Lib.run_from_unsafe w ⟨b, 0, none⟩ Tryd.underlying53 Tryd.underlying38 hj hsh bld_lies]
  simp only [Result.andThen]
  rw [Oper.upon_value]
  go_wp2
  go_end0
  exact ⟨rfl, rfl⟩

set_option maxHeartbeats 800000 in
set_option maxRecDepth 100000 in
theorem cc_old (b n cap : Nat) (A : Option Addr) (w : World) (h : w.heap[b]? = some (.cells #[.pointer (some ⟨b, 0, none⟩), .slice A n cap] 41 (0, 0))) :
    Calls Tryd.prog 27 #[.pointer (some ⟨b, 0, none⟩)] w fun e w' => e = .returned (.tuple #[]) ∧ w' = w := by
  obtain ⟨j, hj, hjs⟩ := Option.map_eq_some_iff.1 bld_size
  have c0 := cell_of_heap h 0; have c1 := cell_of_heap h 1; simp only [List.getElem?_toArray, List.getElem?_cons_zero, List.getElem?_cons_succ] at c0 c1
  clear h
  go_enter Tryd.func27, Tryd.ntmps27
  go_wp2
  rw [Lib.run_neq_ptr_same w _ Tryd.underlying38 hj]
  go_wp2
  go_end0
  exact ⟨rfl, rfl⟩
end Go.Proofs.YtdocdppimpapiaaDoor

namespace Go.Proofs.YtdocdppimpapiaaDoor
open Go.RowKit

theorem strCells_flat (s : ByteArray) : Lib.strCells s = (bytesL s).flatMap (eI .u8) := by
  unfold Lib.strCells bytesL
  generalize s.data.toList = l
  induction l with
  | nil => rfl
  | cons b l ih => simp only [List.map_cons, List.flatMap_cons, ih]; rfl
theorem owns_slice {w : World} {base e n : Nat} {v : Value} {xs : List Value} (h : w.ownsRow base e 1 v n xs) : ∃ A cap, v = .slice A n cap := by
  rcases h.2 with ⟨rfl, rfl⟩ | ⟨g, cap, cur, rfl, _⟩
  · exact ⟨none, 0, rfl⟩
  · exact ⟨_, cap, rfl⟩
/-- A builder at b that holds the bytes l. -/
structure BldAt (base : Nat) (w : World) (b : Nat) (l : List Int) : Prop where
  ex : ∃ pa A n cap, w.heap[b]? = some (.cells #[.pointer pa, .slice A n cap] 41 (0, 0)) ∧ (pa = none ∨ pa = some ⟨b, 0, none⟩) ∧ Ow (eI .u8) 1 5 base w A n cap l
  le : base ≤ b

theorem cc_any (base b n cap : Nat) (A : Option Addr) (pa : Option Addr) (l : List Int) (w : World) (h : w.heap[b]? = some (.cells #[.pointer pa, .slice A n cap] 41 (0, 0))) (hpa : pa = none ∨ pa = some ⟨b, 0, none⟩) (ho : Ow (eI .u8) 1 5 base w A n cap l) (hb : base ≤ b) :
    Calls Tryd.prog 27 #[.pointer (some ⟨b, 0, none⟩)] w fun e w' => e = .returned (.tuple #[]) ∧ w'.heap[b]? = some (.cells #[.pointer (some ⟨b, 0, none⟩), .slice A n cap] 41 (0, 0)) ∧ Ow (eI .u8) 1 5 base w' A n cap l ∧ Below base w w' := by
  rcases hpa with rfl | rfl
  · refine (cc_new b n cap A w h).mono ?_
    rintro e w' ⟨rfl, rfl⟩
    exact ⟨rfl, (heap_set _ _ _ _ _ _ _ h).trans rfl, ho.step fun k hk => Below.heap_setCell _ _ _ _ (ho.ne h (by decide) k hk), (Below.refl _ _).setCell (p := ⟨b, 0, none⟩) hb _⟩
  · refine (cc_old b n cap A w h).mono ?_
    rintro e w' ⟨rfl, rfl⟩
    exact ⟨rfl, h, ho, Below.refl _ _⟩

set_option maxHeartbeats 1600000 in
set_option maxRecDepth 100000 in
theorem ws_any (base b : Nat) (l : List Int) (s : ByteArray) (w : World) (h : BldAt base w b l) (hl : l.length ≤ 1048576) (hs : s.size ≤ 1048576) :
    Calls Tryd.prog 21 #[.pointer (some ⟨b, 0, none⟩), .string s] w fun e w' => e = .returned (.tuple #[.int .i64 s.size, .nilIface]) ∧ BldAt base w' b (l ++ bytesL s) ∧ Below base w w' := by
  obtain ⟨pa, A, n, cap, hh, hpa, ho⟩ := h.ex
  have hle := h.le
  have HC := Lib.hid (cc_any base b n cap A pa l w hh hpa ho hle)
  have hbs : base ≤ w.heap.size := Nat.le_of_lt (Nat.lt_of_le_of_lt hle (lt_of_heap hh))
  have hn : n ≤ 1048576 := by rw [ho.len]; exact hl
  have HN := Lib.hid ho.len
  obtain ⟨i, hi, hz, hsi, hby⟩ := info_parts info_u8
  have HI := Lib.hid hi
  have HZ := Lib.hid hz
  have HSI := Lib.hid hsi
  have HBY := Lib.hid hby
  clear h hh hpa ho hi hz hsi hby
  go_enter Tryd.func21, Tryd.ntmps21
  go_wp2_with (first
    | (go_at_call 27; refine HC.out.mono ?_; rintro e w1 ⟨rfl, h1, ho1, hb1⟩; have c0 := cell_of_heap h1 0; have c1 := cell_of_heap h1 1; simp only [List.getElem?_toArray, List.getElem?_cons_zero, List.getElem?_cons_succ] at c0 c1; have f0 := free_of_heap h1 0; have f1 := free_of_heap h1 1; replace h1 := Lib.hid h1; replace ho1 := Lib.hid ho1; replace hb1 := Lib.hid hb1)
    | (at_builtin; refine Lib.wpList_append_own_string w1 rfl _ _ 39 9 rfl base 5 i Tryd.underlying39 Tryd.underlying9 HI.out HZ.out HSI.out HBY.out _ n _ rfl ho1.out.own s rfl (by unfold maxLen; omega) (by omega) (Nat.le_trans hbs hb1.out.size) ?_; intro v' w2 ho2 hg2 _; obtain ⟨A2, cap2, rfl⟩ := owns_slice ho2; have h2 := heap_grown h1.out hg2 (ho1.out.row_ne h1.out (by decide)); have z0 := cell_of_heap h2 0; have z1 := cell_of_heap h2 1; simp only [List.getElem?_toArray, List.getElem?_cons_zero, List.getElem?_cons_succ] at z0 z1; have g0 := free_of_heap h2 0; have g1 := free_of_heap h2 1; replace ho2 := Lib.hid ho2; replace hg2 := Lib.hid hg2; replace h2 := Lib.hid h2))
  go_ret2
  have hO : Ow (eI .u8) 1 5 base w2 A2 (n + s.size) cap2 (l ++ bytesL s) := ⟨by rw [List.length_append, bytesL_len, ← HN.out], by rw [List.flatMap_append, ← strCells_flat]; exact ho2.out⟩
  refine ⟨rfl, ⟨⟨_, A2, _, cap2, (heap_set _ _ _ _ _ _ _ h2.out).trans rfl, .inr rfl, hO.step fun k hk => Below.heap_setCell _ _ _ _ (hO.ne h2.out (by decide) k hk)⟩, hle⟩, ?_⟩
  exact (hb1.out.grown hg2.out (Nat.le_trans hbs hb1.out.size) fun k hk => (ho1.out.lt k hk).1).setCell (p := ⟨b, 1, none⟩) hle _
end Go.Proofs.YtdocdppimpapiaaDoor

namespace Go.Proofs.YtdocdppimpapiaaDoor
open Go.RowKit

def numsU (u : List UInt8) : List Int := u.map fun x => (x.toNat : Int)
def joinU (l : List ByteArray) : List UInt8 := l.flatMap fun s => 47 :: s.data.toList
/-- The path of names. -/
def joinP (l : List ByteArray) : ByteArray := if l = [] then ⟨#[47]⟩ else ⟨(joinU l).toArray⟩
theorem joinU_next {l : List ByteArray} {k : Nat} {s : ByteArray} (h : l[k]? = some s) : numsU (joinU (l.take k)) ++ bytesL ⟨#[47]⟩ ++ bytesL s = numsU (joinU (l.take (k + 1))) := by
  rw [List.take_add_one, h, joinU, joinU, List.flatMap_append]
  simp [numsU, bytesL]
theorem joinU_take (l : List ByteArray) (k : Nat) : (joinU (l.take k)).length ≤ (joinU l).length := by
  conv => rhs; rw [← List.take_append_drop k l, joinU, List.flatMap_append, List.length_append]
  exact Nat.le_add_right _ _
theorem joinU_one {l : List ByteArray} {k : Nat} {s : ByteArray} (h : l[k]? = some s) : (joinU (l.take k)).length + 1 + s.size ≤ (joinU l).length := by
  have h1 := joinU_take l (k + 1)
  have h2 : s.data.toList.length = s.size := by rw [Array.length_toList]; rfl
  have h3 : (joinU (l.take (k + 1))).length = (joinU (l.take k)).length + (s.data.toList.length + 1) := by
    rw [List.take_add_one, h]
    unfold joinU
    rw [List.flatMap_append, List.length_append]
    simp only [Option.toList_some, List.flatMap_cons, List.flatMap_nil, List.append_nil, List.length_cons]
  omega
theorem bld_is {base b : Nat} {w : World} {u : List UInt8} (h : BldAt base w b (numsU u)) : Lib.IsBuilder 41 5 base b (Lib.byteCells u) w := by
  obtain ⟨pa, A, n, cap, hh, hpa, ho⟩ := h.ex
  have e : (numsU u).flatMap (eI .u8) = Lib.byteCells u := by
    rw [eI_flat, numsU, List.map_map]; rfl
  have hl : n = (Lib.byteCells u).length := by rw [ho.len, ← e, flatMap_len (eI_len .u8), Nat.mul_one]
  have hat : Lib.BuilderAt 41 5 base b (.pointer pa) (Lib.byteCells u) w :=
    ⟨h.le, .slice A n cap, hh, by rw [← e, flatMap_len (eI_len .u8), Nat.mul_one, ← ho.len]; exact ho.own, ho.row_ne hh (by decide)⟩
  rcases hpa with rfl | rfl
  · exact .inl hat
  · exact .inr hat

set_option maxHeartbeats 1600000 in
theorem djoin_any (A : Option Addr) (n c : Nat) (l : List ByteArray) (Q : Nat → Prop) (w : World) (h : Sl eT 1 Q w A n c l) (hl : (joinU l).length ≤ 1048576) :
    Calls Tryd.prog 12 #[.slice A n c] w fun e w' => e = .returned (.string (joinP l)) ∧ Ext w w' := by
  have HN := Lib.hid h.len
  have H := Lib.hid h
  clear h
  by_cases h0 : n = 0
  · subst h0
    have E : joinP l = ⟨#[47]⟩ := by unfold joinP; rw [if_pos (List.eq_nil_of_length_eq_zero HN.out.symm)]
    rw [E]
    go_enter Tryd.func12, Tryd.ntmps12
    go_wp2
    go_ret
    exact ⟨rfl, Ext.refl _⟩
  · have hne : ((n : Int) == 0) = false := by simp; omega
    have hs1 : (⟨#[47]⟩ : ByteArray).size ≤ 1048576 := by show 1 ≤ 1048576; omega
    have HS1 := Lib.hid hs1
    clear hs1
    have hB : BldAt w.heap.size (w.alloc (.cells #[.pointer none, .slice none 0 0] 41)) w.heap.size (numsU (joinU (l.take 0))) := ⟨⟨none, none, 0, 0, heap_alloc_new _ _, .inl rfl, Ow.nil _⟩, Nat.le_refl _⟩
    have HBB := Lib.hid hB
    have EE := Lib.hid (show joinP l = ⟨(joinU l).toArray⟩ by unfold joinP; rw [if_neg (by rintro rfl; exact h0 HN.out)])
    have HLL := Lib.hid hl
    have hn9 : n ≤ 1048576 := by
      have h1 : ∀ l : List ByteArray, l.length ≤ (joinU l).length := fun l => by
        induction l with
        | nil => exact Nat.zero_le _
        | cons s l ih => rw [joinU, List.flatMap_cons, List.length_append, List.length_cons, List.length_cons]; unfold joinU at ih; omega
      rw [HN.out]; exact Nat.le_trans (h1 l) hl
    clear hB h0 hl
    go_enter Tryd.func12, Tryd.ntmps12
    go_wp2
    go_loopw [11] (fun i wr => ∃ k : Nat, k ≤ n ∧ i = .int .i64 k ∧ BldAt w.heap.size wr w.heap.size (numsU (joinU (l.take k))) ∧ Ext w wr) (fun i _ => n - (intOf i).toNat)
    case atStart => exact ⟨0, Nat.zero_le _, rfl, HBB.out, (Ext.refl _).alloc _⟩
    case round =>
      obtain ⟨k, hk, rfl, hb, hx⟩ := hrel
      replace hb := Lib.hid hb
      replace hx := Lib.hid hx
      by_cases hlt : k < n
      · obtain ⟨b, o, s, rfl, hp, _, hbl, hc0⟩ := H.out.txt k hlt
        replace hc0 := hx.out.at hc0
        have hsz := joinU_one hp
        have hsz2 := HLL.out
        have k0 : (0 : Int) ≤ (k : Int) := by omega
        have k9 : (k : Int) < (n : Int) := by omega
        have h1 : (numsU (joinU (l.take k))).length ≤ 1048576 := by rw [numsU, List.length_map]; omega
        have h2 : s.size ≤ 1048576 := by omega
        have h3 : (numsU (joinU (l.take k)) ++ bytesL ⟨#[47]⟩).length ≤ 1048576 := by rw [List.length_append, numsU, List.length_map]; show _ + 1 ≤ _; omega
        have H1 := Lib.hid h1
        have H3 := Lib.hid h3
        have HP := Lib.hid hp
        clear h1 h3 hp hsz hsz2
        go_wp2_with fail
        refine (ws_any _ _ _ ⟨#[47]⟩ _ hb.out H1.out HS1.out).mono ?_
        rintro e w1 ⟨rfl, hb1, he1⟩
        replace hb1 := Lib.hid hb1
        replace he1 := Lib.hid he1
        go_wp2_with fail
        refine (ws_any _ _ _ s _ hb1.out H3.out h2).mono ?_
        rintro e w2 ⟨rfl, hb2, he2⟩
        have hb3 : BldAt w.heap.size w2 w.heap.size (numsU (joinU (l.take (k + 1)))) := by rw [← joinU_next HP.out]; exact hb2
        have hx2 : Ext w w2 := ⟨hx.out.out.trans (he1.out.trans he2)⟩
        replace hb3 := Lib.hid hb3
        replace hx2 := Lib.hid hx2
        clear hb2 he2
        go_wp2
        exact ⟨⟨k + 1, by omega, by go_num, hb3.out, hx2.out⟩, by simp [intOf]; omega⟩
      · obtain rfl : k = n := by omega
        have hb4 : BldAt w.heap.size wr w.heap.size (numsU (joinU l)) := by
          have := hb.out
          rw [List.take_of_length_le (by rw [HN.out]; exact Nat.le_refl _)] at this
          exact this
        have HSTR := Lib.hid (Tryd.Builder_String_any w.heap.size w.heap.size (joinU l) wr (bld_is hb4) hx.out.size)
        clear hb4
        go_wp2_with (go_at_call 22; refine HSTR.out.mono ?_; rintro e w1 ⟨rfl, he1⟩; replace he1 := Lib.hid he1)
        go_ret
        rw [EE.out]
        exact ⟨rfl, ⟨hx.out.out.trans he1.out⟩⟩
end Go.Proofs.YtdocdppimpapiaaDoor

namespace Go.Proofs.YtdocdppimpapiaaDoor
open Go.RowKit

theorem nameB_le {s : ByteArray} (h : nameB s = true) : s.size ≤ 11 := (nameB_size h).2
theorem joinU_bd : ∀ {l : List ByteArray}, namesB l = true → (joinU l).length ≤ 12 * l.length
  | [], _ => Nat.zero_le _
  | s :: l, h => by
    simp only [namesB, List.all_cons, Bool.and_eq_true] at h
    have ih := joinU_bd (l := l) h.2
    have h2 : s.data.toList.length = s.size := by rw [Array.length_toList]; rfl
    have h3 := nameB_le h.1
    unfold joinU at ih ⊢
    rw [List.flatMap_cons, List.length_append, List.length_cons, List.length_cons, h2]
    omega
theorem splitP_ok {p : ByteArray} (h : (splitP p).2 = 0) : (splitP p).1.length ≤ 8 ∧ namesB (splitP p).1 = true := by
  unfold splitP at h ⊢
  split
  · split
    · exact ⟨Nat.zero_le _, rfl⟩
    · split
      · rename_i h1; exact ⟨h1.1, h1.2⟩
      · rename_i h1 h2 h3; rw [if_pos h1, if_neg h2, if_neg h3] at h; cases h
  · rename_i h1; rw [if_neg h1] at h; cases h
theorem splitP_err {p : ByteArray} (h : (splitP p).2 ≠ 0) : splitP p = ([], 18) := by
  unfold splitP at h ⊢
  split
  · split
    · rename_i h1 h2; rw [if_pos h1, if_pos h2] at h; exact absurd rfl h
    · split
      · rename_i h1 h2 h3; rw [if_pos h1, if_neg h2, if_pos h3] at h; exact absurd rfl h
      · rfl
  · rfl
theorem namesB_take {l : List ByteArray} (h : namesB l = true) (k : Nat) : namesB (l.take k) = true := by
  unfold namesB at h ⊢
  rw [List.all_eq_true] at h ⊢
  exact fun x hx => h x (List.mem_of_mem_take hx)
def nilB : ByteArray := ⟨#[]⟩
/-- A path without its last name, that, and the error. -/
def aboveP (p : ByteArray) : ByteArray × ByteArray × Int :=
  if (splitP p).2 ≠ 0 ∨ (splitP p).1.length = 0 then (nilB, nilB, 18) else (joinP ((splitP p).1.take ((splitP p).1.length - 1)), (splitP p).1.getD ((splitP p).1.length - 1) nilB, 0)

set_option maxHeartbeats 1600000 in
theorem dabove_any (p : ByteArray) (m : Int) (w : World) (hp : p.size ≤ 1048576) (hm : w.cell? ⟨0, 0, none⟩ = some (.int .i64 m)) :
    Calls Tryd.prog 7 #[.string p] w fun e w' => e = .returned (.tuple #[.string (aboveP p).1, .string (aboveP p).2.1, .int .i64 (aboveP p).2.2]) ∧ Ext w w' := by
  have HS := Lib.hid (dsplit_any p m w hp hm)
  have hok := splitP_ok (p := p)
  have herr := splitP_err (p := p)
  obtain ⟨r, hr⟩ : ∃ r, aboveP p = r := ⟨_, rfl⟩
  have hE : r = if (splitP p).2 ≠ 0 ∨ (splitP p).1.length = 0 then (nilB, nilB, 18) else (joinP ((splitP p).1.take ((splitP p).1.length - 1)), (splitP p).1.getD ((splitP p).1.length - 1) nilB, 0) := hr.symm
  rw [hr]
  clear hr
  obtain ⟨⟨l, er⟩, hl⟩ : ∃ x, splitP p = x := ⟨_, rfl⟩
  rw [hl] at HS hok herr hE
  simp only at hok herr hE
  have HE := Lib.hid hE
  have HOK := Lib.hid hok
  clear hE hok hl
  by_cases he : er = 0
  · subst he
    clear herr
    by_cases hn : l.length = 0
    · obtain rfl : l = [] := List.eq_nil_of_length_eq_zero hn
      have HR := Lib.hid (show r = (nilB, nilB, 18) by rw [HE.out, if_pos (.inr rfl)])
      go_enter Tryd.func7, Tryd.ntmps7
      go_wp2_with (go_at_call 5; refine HS.out.mono ?_; rintro e w1 ⟨A, n, cap, rfl, hs, hx⟩; obtain rfl : n = 0 := hs.len; replace hx := Lib.hid hx; clear hs)
      go_ret3
      rw [HR.out]
      exact ⟨rfl, hx.out⟩
    · obtain ⟨j, hj⟩ : ∃ j, l.length = j + 1 := ⟨l.length - 1, by omega⟩
      have HR := Lib.hid (show r = (joinP (l.take j), l.getD j nilB, 0) by rw [HE.out, if_neg (by rintro (h | h); exact h rfl; exact hn h), hj]; rfl)
      have hb8 := (HOK.out rfl).1
      have HT := Lib.hid (show (joinU (l.take j)).length ≤ 1048576 by
        have := joinU_bd (namesB_take (HOK.out rfl).2 j)
        rw [List.length_take] at this
        omega)
      have HJ := Lib.hid hj
      clear hn hj
      go_enter Tryd.func7, Tryd.ntmps7
      have j0 : (0 : Int) ≤ (j : Int) := by omega
      have j9 : (j : Int) < 100 := by have := HJ.out; omega
      go_wp2_with (go_at_call 5; refine HS.out.mono ?_; rintro e w1 ⟨A, n, cap, rfl, hs, hx⟩; obtain rfl : n = j + 1 := hs.len.trans HJ.out; obtain ⟨b, o, s, rfl, hp, _, hbl, hc0⟩ := hs.txt j (by omega); have hle := hs.le; have hmx := hs.mx; replace hx := Lib.hid hx; replace hs := Lib.hid hs; replace hp := Lib.hid hp)
      have jc : (j : Int) ≤ (cap : Int) := by omega
      have j1 : (j : Int) < (j : Int) + 1 := by omega
      have jx : j ≤ cap := by omega
      go_region_held3 (fun W => W.cell? ⟨b, o + j, none⟩ = some (.string s))
        (first | exact hc0 | exact Ext.at (a := w1) (by (repeat (first | exact Ext.refl _ | assumption | refine Ext.alloc ?_ _ | refine Ext.drew ?_ | refine Ext.drewN ?_ _ | refine Ext.setCell ?_ (by simp) _ | (refine Ext.trans ?_ (by assumption))))) hc0 | exact Ext.at (a := w1) (((Ext.refl w1).drew).trans he5.out) hc0 | go_keep)
        (first | (go_at_call 12; go_must (refine (djoin_any _ _ _ _ _ _ ((hs.out.take j (by omega) cap (by omega) hmx).ext (by (repeat (first | exact Ext.refl _ | assumption | refine Ext.alloc ?_ _ | refine Ext.drew ?_ | refine Ext.drewN ?_ _ | refine Ext.setCell ?_ (by simp) _ | (refine Ext.trans ?_ (by assumption)))))) HT.out).mono ?_); rintro e w5 ⟨rfl, he5⟩; replace he5 := Lib.hid he5))
      go_wp2
      go_ret3
      rw [HR.out]
      have HX := hx.out.trans (((Ext.refl w1).drew).trans he5.out)
      exact ⟨by rw [List.getD_eq_getElem?_getD, hp.out]; rfl, HX⟩
  · obtain ⟨rfl, rfl⟩ : l = [] ∧ er = 18 := by have := herr he; simpa using this
    have HR := Lib.hid (show r = (nilB, nilB, 18) by rw [HE.out, if_pos (.inl (by decide))])
    clear herr he
    go_enter Tryd.func7, Tryd.ntmps7
    go_wp2_with (go_at_call 5; refine HS.out.mono ?_; rintro e w1 ⟨A, n, cap, rfl, hs, hx⟩; obtain rfl : n = 0 := hs.len; replace hx := Lib.hid hx; clear hs)
    go_ret3
    rw [HR.out]
    exact ⟨rfl, hx.out⟩
end Go.Proofs.YtdocdppimpapiaaDoor

namespace Go.Proofs.YtdocdppimpapiaaDoor
open Go.RowKit

set_option maxHeartbeats 400000 in
theorem equalT_any (A B : Option Addr) (n k c d : Nat) (xs ys : List ByteArray) (Q R : Nat → Prop) (w : World) (h : Sl eT 1 Q w A n c xs) (h' : Sl eT 1 R w B k d ys) (hn : n ≤ 1048576) (hk : k ≤ 1048576) :
    Calls Tryd.prog 20 #[.slice A n c, .slice B k d] w fun e w' => e = .returned (.bool (decide (xs = ys))) ∧ Drawn w w' := by
  have hl := h.len
  have hl' := h'.len
  by_cases hnk : n = k
  · subst hnk
    by_cases h0 : n = 0
    · subst h0
      obtain rfl := List.eq_nil_of_length_eq_zero hl.symm
      obtain rfl := List.eq_nil_of_length_eq_zero hl'.symm
      refine (Tryd.slices_Equal_string_empty A B c 0 d w (by omega)).mono ?_
      rintro e w' ⟨rfl, rfl⟩
      exact ⟨rfl, Drawn.refl _⟩
    · obtain ⟨b, o, _, rfl, _, _, _, _⟩ := h.txt 0 (by omega)
      obtain ⟨b', o', _, rfl, _, _, _, _⟩ := h'.txt 0 (by omega)
      have cl : ∀ {Q : Nat → Prop} {b o c : Nat} {xs : List ByteArray}, Sl eT 1 Q w (some ⟨b, o, none⟩) n c xs → ∀ j, j < xs.length → w.cell? ⟨b, o + j, none⟩ = some (.string (xs.getD j ByteArray.empty)) := fun {Q b o c xs} hs j hj => by
        obtain ⟨b1, o1, s, e1, hp, _, _, hc⟩ := hs.txt j (by rw [hs.len]; exact hj)
        simp only [Option.some.injEq, Addr.mk.injEq, and_true] at e1
        obtain ⟨rfl, rfl⟩ := e1
        rw [hc, List.getD_eq_getElem?_getD, hp]; rfl
      have h1 := Tryd.slices_Equal_string b o n c b' o' n d xs ys w (by omega) (by omega) (by omega) (by omega) (cl h) (cl h')
      rw [List.take_of_length_le (by omega), List.take_of_length_le (by omega)] at h1
      refine h1.mono ?_
      rintro e w' ⟨rfl, hq⟩
      exact ⟨rfl, ⟨hq⟩⟩
  · have hne : xs ≠ ys := fun e => hnk (by rw [hl, hl', e])
    refine (Tryd.slices_Equal_string_lens A B n c k d w hnk).mono ?_
    rintro e w' ⟨rfl, rfl⟩
    exact ⟨by rw [decide_eq_false hne], Drawn.refl _⟩

/-- Is a path another one, or below it? -/
def underP (p t : ByteArray) : Bool :=
  decide ((splitP p).2 = 0) && (decide ((splitP t).2 = 0) && (decide ((splitP t).1.length ≤ (splitP p).1.length) && decide ((splitP p).1.take (splitP t).1.length = (splitP t).1)))

set_option maxHeartbeats 1600000 in
theorem dunder_any (p t : ByteArray) (m : Int) (w : World) (hp : p.size ≤ 1048576) (ht : t.size ≤ 1048576) (hm : w.cell? ⟨0, 0, none⟩ = some (.int .i64 m)) :
    Calls Tryd.prog 10 #[.string p, .string t] w fun e w' => e = .returned (.bool (underP p t)) ∧ Ext w w' := by
  have HS := Lib.hid (dsplit_any p m w hp hm)
  have HS2 := Lib.hid (fun w hm => dsplit_any t m w ht hm)
  have hok := splitP_ok (p := p)
  have hok2 := splitP_ok (p := t)
  obtain ⟨r, hr⟩ : ∃ r, underP p t = r := ⟨_, rfl⟩
  have hE : r = (decide ((splitP p).2 = 0) && (decide ((splitP t).2 = 0) && (decide ((splitP t).1.length ≤ (splitP p).1.length) && decide ((splitP p).1.take (splitP t).1.length = (splitP t).1)))) := hr.symm
  rw [hr]
  clear hr
  obtain ⟨⟨l, er⟩, hl⟩ : ∃ x, splitP p = x := ⟨_, rfl⟩
  obtain ⟨⟨l2, er2⟩, hl2⟩ : ∃ x, splitP t = x := ⟨_, rfl⟩
  rw [hl] at HS hok hE
  rw [hl2] at HS2 hok2 hE
  simp only at hok hok2 hE
  have HE := Lib.hid hE
  have HOK := Lib.hid hok
  have HOK2 := Lib.hid hok2
  clear hE hok hok2 hl hl2
  by_cases he : er = 0
  · subst he
    by_cases he2 : er2 = 0
    · subst he2
      have hb8 := (HOK.out rfl).1
      have hb82 := (HOK2.out rfl).1
      by_cases hle : l2.length ≤ l.length
      · have HR := Lib.hid (show r = decide (l.take l2.length = l2) by rw [HE.out]; simp [hle])
        obtain ⟨n1, hn1⟩ : ∃ n, l.length = n := ⟨_, rfl⟩
        obtain ⟨n2, hn2⟩ : ∃ n, l2.length = n := ⟨_, rfl⟩
        rw [hn1, hn2] at hle
        rw [hn1] at hb8
        rw [hn2] at hb82
        have HN1 := Lib.hid hn1
        have HN2 := Lib.hid hn2
        have i0 : (0 : Int) ≤ (n2 : Int) := by omega
        have i1 : (n2 : Int) ≤ (n1 : Int) := by omega
        clear hn1 hn2
        go_enter Tryd.func10, Tryd.ntmps10
        go_wp2_with fail
        refine HS.out.mono ?_
        rintro e w1 ⟨A, n, cap, rfl, hs, hx⟩
        obtain rfl : n = n1 := hs.len.trans HN1.out
        have hle1 := hs.le
        have hmx := hs.mx
        have hm1 := hx.at hm
        replace hs := Lib.hid hs
        replace hx := Lib.hid hx
        go_wp2_with fail
        refine (HS2.out _ hm1).mono ?_
        rintro e w2 ⟨A2, k, cap2, rfl, hs2, hx2⟩
        obtain rfl : k = n2 := hs2.len.trans HN2.out
        have i2 : (k : Int) ≤ (cap : Int) := by omega
        replace hs2 := Lib.hid hs2
        have hs1 := (hs.out.ext hx2).take k (by omega) cap (by omega) hmx
        replace hs1 := Lib.hid hs1
        have hX2 := Lib.hid (hx.out.trans hx2)
        clear hx2
        go_wp2_with (go_at_call 20; refine (equalT_any _ _ _ _ _ _ _ _ _ _ _ hs1.out hs2.out (by omega) (by omega)).mono ?_; rintro e w3 ⟨rfl, hd⟩; replace hd := Lib.hid hd)
        go_ret
        rw [HR.out, HN2.out]
        exact ⟨rfl, hX2.out.trans hd.out.ext⟩
      · have HR := Lib.hid (show r = false by rw [HE.out]; simp; intro h; exact absurd h hle)
        obtain ⟨n1, hn1⟩ : ∃ n, l.length = n := ⟨_, rfl⟩
        obtain ⟨n2, hn2⟩ : ∃ n, l2.length = n := ⟨_, rfl⟩
        rw [hn1, hn2] at hle
        rw [hn1] at hb8
        rw [hn2] at hb82
        have HN1 := Lib.hid hn1
        have HN2 := Lib.hid hn2
        have i1 : ¬ (n2 : Int) ≤ (n1 : Int) := by omega
        clear hn1 hn2
        go_enter Tryd.func10, Tryd.ntmps10
        go_wp2_with fail
        refine HS.out.mono ?_
        rintro e w1 ⟨A, n, cap, rfl, hs, hx⟩
        obtain rfl : n = n1 := hs.len.trans HN1.out
        have hm1 := hx.at hm
        replace hx := Lib.hid hx
        clear hs
        go_wp2_with fail
        refine (HS2.out _ hm1).mono ?_
        rintro e w2 ⟨A2, k, cap2, rfl, hs2, hx2⟩
        obtain rfl : k = n2 := hs2.len.trans HN2.out
        have hX2 := Lib.hid (hx.out.trans hx2)
        clear hx2 hs2
        go_wp2
        go_ret
        rw [HR.out]
        exact ⟨rfl, hX2.out⟩
    · have HR := Lib.hid (show r = false by rw [HE.out]; simp [he2])
      have e2 : (er2 == 0) = false := by simpa using he2
      clear he2
      go_enter Tryd.func10, Tryd.ntmps10
      go_wp2_with fail
      refine HS.out.mono ?_
      rintro e w1 ⟨A, n, cap, rfl, hs, hx⟩
      have hm1 := hx.at hm
      replace hx := Lib.hid hx
      clear hs
      go_wp2_with fail
      refine (HS2.out _ hm1).mono ?_
      rintro e w2 ⟨A2, k, cap2, rfl, hs2, hx2⟩
      have hX2 := Lib.hid (hx.out.trans hx2)
      clear hx2 hs2
      go_wp2
      go_ret
      rw [HR.out]
      exact ⟨rfl, hX2.out⟩
  · have HR := Lib.hid (show r = false by rw [HE.out]; simp [he])
    have e1 : (er == 0) = false := by simpa using he
    clear he
    go_enter Tryd.func10, Tryd.ntmps10
    go_wp2_with fail
    refine HS.out.mono ?_
    rintro e w1 ⟨A, n, cap, rfl, hs, hx⟩
    have hm1 := hx.at hm
    replace hx := Lib.hid hx
    clear hs
    go_wp2_with fail
    refine (HS2.out _ hm1).mono ?_
    rintro e w2 ⟨A2, k, cap2, rfl, hs2, hx2⟩
    have hX2 := Lib.hid (hx.out.trans hx2)
    clear hx2 hs2
    go_wp2
    go_ret
    rw [HR.out]
    exact ⟨rfl, hX2.out⟩

theorem above_ab : aboveP ⟨#[47, 97, 47, 98]⟩ = (⟨#[47, 97]⟩, ⟨#[98]⟩, 0) := by decide +kernel
theorem under_aba : underP ⟨#[47, 97, 47, 98]⟩ ⟨#[47, 97]⟩ = true := by decide +kernel
theorem under_ab : underP ⟨#[47, 97, 98]⟩ ⟨#[47, 97]⟩ = false := by decide +kernel
theorem small4 (a b c d : UInt8) : (⟨#[a, b, c, d]⟩ : ByteArray).size ≤ 1048576 := by show 4 ≤ 1048576; omega
theorem small3 (a b c : UInt8) : (⟨#[a, b, c]⟩ : ByteArray).size ≤ 1048576 := by show 3 ≤ 1048576; omega
theorem small2 (a b : UInt8) : (⟨#[a, b]⟩ : ByteArray).size ≤ 1048576 := by show 2 ≤ 1048576; omega
set_option maxHeartbeats 800000 in
theorem awake29_any (m : Int) (w : World) (hm : w.cell? ⟨0, 0, none⟩ = some (.int .i64 m)) : Calls Tryd.prog 4 #[] w fun e w' => e = .returned (.bool true) ∧ Ext w w' := by
  have C1 := Lib.hid (fun w hm => dabove_any ⟨#[47, 97, 47, 98]⟩ m w (small4 _ _ _ _) hm)
  have C2 := Lib.hid (fun w hm => dunder_any ⟨#[47, 97, 47, 98]⟩ ⟨#[47, 97]⟩ m w (small4 _ _ _ _) (small2 _ _) hm)
  have C3 := Lib.hid (fun w hm => dunder_any ⟨#[47, 97, 98]⟩ ⟨#[47, 97]⟩ m w (small3 _ _ _) (small2 _ _) hm)
  rw [above_ab] at C1
  rw [under_aba] at C2
  rw [under_ab] at C3
  go_enter Tryd.func4, Tryd.ntmps4
  go_wp2_with fail
  refine (C1.out _ hm).mono ?_
  rintro e w1 ⟨rfl, h1⟩
  have hm1 := h1.at hm
  replace h1 := Lib.hid h1
  go_wp2_with fail
  refine (C2.out _ hm1).mono ?_
  rintro e w2 ⟨rfl, h2⟩
  have hm2 := h2.at hm1
  replace h2 := Lib.hid h2
  go_wp2_with fail
  refine (C3.out _ hm2).mono ?_
  rintro e w3 ⟨rfl, h3⟩
  replace h3 := Lib.hid h3
  go_wp2
  go_ret
  exact ⟨rfl, (h1.out.trans h2.out).trans h3.out⟩
end Go.Proofs.YtdocdppimpapiaaDoor
