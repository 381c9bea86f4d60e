/-
  What a slice in memory reads as ('Sl': elements encoded as cells), what a call owns ('Ow'), and what a step keeps. No function of the program.
-/
import Derived.Test.YtdocdppimpapiaaFw
import Derived.Laws.OwnMore
import Derived.Deep.AppendLies
import Derived.Laws.AppendOwnNone
import Derived.Lib.AppendZeros
namespace Go.Proofs.Ytdocdppimpapiaa
open Go.RowKit

/-- Slice A n cap reads as l: element i's cells are 'enc l[i]', in a block of which Q holds. -/
structure Sl {α : Type} (enc : α → List Value) (sz : Nat) (Q : Nat → Prop) (w : World) (A : Option Addr) (n cap : Nat) (l : List α) : Prop where
  len : n = l.length
  le : n ≤ cap
  mx : cap ≤ 9223372036854775807
  at_ : ∀ i x, l[i]? = some x → ∃ b off, A = some ⟨b, off, none⟩ ∧ Q b ∧ ∀ j u, (enc x)[j]? = some u → w.cell? ⟨b, off + i * sz + j, none⟩ = some u

section
variable {α : Type} {enc : α → List Value} {sz : Nat} {Q Q' : Nat → Prop} {w w' : World} {A : Option Addr} {n cap : Nat} {l : List α}

theorem Sl.mono (h : Sl enc sz Q w A n cap l) (hq : ∀ k, Q k → Q' k) : Sl enc sz Q' w A n cap l :=
  ⟨h.len, h.le, h.mx, fun i x hx => let ⟨b, off, ha, hb, hc⟩ := h.at_ i x hx; ⟨b, off, ha, hq b hb, hc⟩⟩

/-- Any step that keeps the blocks of which Q holds. -/
theorem Sl.step (h : Sl enc sz Q w A n cap l) (hm : ∀ k, Q k → k < w.heap.size → w'.heap[k]? = w.heap[k]?) : Sl enc sz Q w' A n cap l :=
  ⟨h.len, h.le, h.mx, fun i x hx => by
    obtain ⟨b, off, ha, hb, hc⟩ := h.at_ i x hx
    refine ⟨b, off, ha, hb, fun j u hu => ?_⟩
    have h1 := hc j u hu
    have h2 := World.block_lt_of_cell? w _ h1
    rw [World.cell?_of_block (w := w) (a := ⟨b, off + i * sz + j, none⟩) (hm b hb h2)]
    exact h1⟩

theorem Sl.ext (h : Sl enc sz Q w A n cap l) (he : Ext w w') : Sl enc sz Q w' A n cap l := h.step fun k _ hk => he.block k hk

/-- The blocks lie in w. -/
theorem Sl.inside (h : Sl enc sz Q w A n cap l) (hne : ∀ x, 0 < (enc x).length) : Sl enc sz (fun k => Q k ∧ k < w.heap.size) w A n cap l :=
  ⟨h.len, h.le, h.mx, fun i x hx => by
    obtain ⟨b, off, ha, hb, hc⟩ := h.at_ i x hx
    refine ⟨b, off, ha, ⟨hb, ?_⟩, hc⟩
    have hu : (enc x)[0]? = some ((enc x)[0]'(hne x)) := List.getElem?_eq_getElem _
    exact World.block_lt_of_cell? w _ (hc 0 _ hu)⟩

theorem Sl.grown (h : Sl enc sz Q w A n cap l) {row : Option Nat} (hg : w.grownBy w' row) (hq : ∀ k, Q k → some k ≠ row) : Sl enc sz Q w' A n cap l :=
  h.step fun k hk hlt => hg.block k hlt (hq k hk)

theorem Sl.nil (Q : Nat → Prop) (w : World) (A : Option Addr) (cap : Nat) (hc : cap ≤ 9223372036854775807) : Sl enc sz Q w A 0 cap ([] : List α) :=
  ⟨rfl, Nat.zero_le _, hc, fun i x hx => by simp at hx⟩

/-- s[k:] -/
theorem Sl.drop (h : Sl enc sz Q w A n cap l) (k : Nat) (hk : k ≤ n) :
    Sl enc sz Q w (if cap = k then A else A.map (·.add (k * sz))) (n - k) (cap - k) (l.drop k) := by
  refine ⟨by rw [List.length_drop, h.len], by have := h.le; omega, by have := h.mx; omega, fun i x hx => ?_⟩
  rw [List.getElem?_drop] at hx
  obtain ⟨b, off, ha, hb, hc⟩ := h.at_ (k + i) x hx
  have hlt : k + i < l.length := by
    rcases Nat.lt_or_ge (k + i) l.length with h1 | h1
    · exact h1
    · rw [List.getElem?_eq_none h1] at hx; cases hx
  have hne : cap ≠ k := by have := h.le; have := h.len; omega
  refine ⟨b, off + k * sz, by rw [if_neg hne, ha]; simp only [Option.map_some, Addr.add]; split <;> simp_all, hb, fun j u hu => ?_⟩
  have := hc j u hu
  rw [Nat.add_mul] at this
  rw [show off + k * sz + i * sz + j = off + (k * sz + i * sz) + j by omega]
  exact this
/-- s[:k] -/
theorem Sl.take (h : Sl enc sz Q w A n cap l) (k : Nat) (hk : k ≤ n) (c : Nat) (hc : k ≤ c) (hm : c ≤ 9223372036854775807) : Sl enc sz Q w A k c (l.take k) := by
  refine ⟨by rw [List.length_take, ← h.len]; omega, hc, hm, fun i x hx => ?_⟩
  rw [List.getElem?_take] at hx
  split at hx
  · exact h.at_ i x hx
  · cases hx
end

/-- What a call owns from block 'base' on: a row of elements of type e. -/
structure Ow {α : Type} (enc : α → List Value) (sz e base : Nat) (w : World) (A : Option Addr) (n cap : Nat) (l : List α) : Prop where
  len : n = l.length
  own : w.ownsRow base e sz (.slice A n cap) n (l.flatMap enc)

section
variable {α : Type} {enc : α → List Value} {sz e base : Nat} {w w' : World} {A : Option Addr} {n cap : Nat} {l : List α}

theorem Ow.nil (w : World) : Ow enc sz e base w none 0 0 ([] : List α) := ⟨rfl, World.ownsRow_nil _ _ _ _⟩

theorem Ow.kept (h : Ow enc sz e base w A n cap l) {row : Option Nat} (hg : w.grownBy w' row) (hne : (Value.slice A n cap).ownBlock = none ∨ (Value.slice A n cap).ownBlock ≠ row) : Ow enc sz e base w' A n cap l :=
  ⟨h.len, h.own.kept hg hne⟩
theorem Ow.alloc (h : Ow enc sz e base w A n cap l) (o : Obj) : Ow enc sz e base (w.alloc o) A n cap l := ⟨h.len, h.own.alloc o⟩
theorem Ow.lt (h : Ow enc sz e base w A n cap l) : ∀ k, (Value.slice A n cap).ownBlock = some k → base ≤ k ∧ k < w.heap.size := h.own.lt
theorem Ow.step (h : Ow enc sz e base w A n cap l) (hm : ∀ k, (Value.slice A n cap).ownBlock = some k → w'.heap[k]? = w.heap[k]?) : Ow enc sz e base w' A n cap l := by
  obtain ⟨h0, h1, h2⟩ := h
  refine ⟨h0, h1, ?_⟩
  rcases h2 with h2 | ⟨g, cap, cur, hv, hg, hh, r⟩
  · exact .inl h2
  · exact .inr ⟨g, cap, cur, hv, hg, (hm g (by rw [hv]; rfl)).trans hh, r⟩
theorem Ow.ext (h : Ow enc sz e base w A n cap l) (he : Ext w w') : Ow enc sz e base w' A n cap l := h.step fun k hk => he.block k (h.lt k hk).2

theorem flatMap_get {α β : Type} {enc : α → List β} {sz : Nat} (hsz : ∀ x, (enc x).length = sz) : ∀ (l : List α) (i : Nat) (x : α), l[i]? = some x → ∀ j u, (enc x)[j]? = some u → (l.flatMap enc)[i * sz + j]? = some u
  | [], i, x, h => by simp at h
  | y :: l, 0, x, h => fun j u hu => by
    simp only [List.getElem?_cons_zero, Option.some.injEq] at h
    subst h
    rw [List.flatMap_cons, Nat.zero_mul, Nat.zero_add, List.getElem?_append_left]
    · exact hu
    · rcases Nat.lt_or_ge j (enc y).length with h1 | h1
      · exact h1
      · rw [List.getElem?_eq_none h1] at hu; cases hu
  | y :: l, i + 1, x, h => fun j u hu => by
    rw [List.getElem?_cons_succ] at h
    have ih := flatMap_get hsz l i x h j u hu
    rw [List.flatMap_cons, List.getElem?_append_right (by rw [hsz, Nat.add_mul]; omega), hsz, show (i + 1) * sz + j - sz = i * sz + j by rw [Nat.add_mul]; omega]
    exact ih
theorem flatMap_len {α β : Type} {enc : α → List β} {sz : Nat} (hsz : ∀ x, (enc x).length = sz) (l : List α) : (l.flatMap enc).length = l.length * sz := by
  induction l with
  | nil => simp
  | cons x l ih => rw [List.flatMap_cons, List.length_append, ih, hsz, List.length_cons, Nat.add_mul]; omega

/-- What is owned, read. -/
theorem Ow.sl (h : Ow enc sz e base w A n cap l) (hsz : ∀ x, (enc x).length = sz) : Sl enc sz (fun k => base ≤ k ∧ (Value.slice A n cap).ownBlock = some k) w A n cap l := by
  obtain ⟨h0, h1, h2⟩ := h
  rcases h2 with ⟨hv, hn⟩ | ⟨g, cap', cur, hv, hg, hh, hc, hm, hs, ht⟩
  · injection hv with hA hn' hcap
    subst hA hcap
    have : l = [] := List.eq_nil_of_length_eq_zero (by omega)
    subst this hn'
    exact Sl.nil _ _ _ _ (by decide)
  · injection hv with hA hn' hcap
    subst hA hcap
    refine ⟨h0, hc, hm, fun i x hx => ⟨g, 0, rfl, ⟨hg, rfl⟩, fun j u hu => ?_⟩⟩
    have h3 := flatMap_get hsz l i x hx j u hu
    rw [Nat.zero_add]
    rw [← ht, List.getElem?_take] at h3
    split at h3
    · unfold World.cell?
      simp only [hh]
      simpa using h3
    · cases h3
end

/-- append(v, x...), v the call's own; x whatever slice reads. -/
theorem wp_app {α : Type} {enc : α → List Value} {P : Program} (w : World) {o : Oper} {a : Act} {K : Act → World → Prop} {Q : Exit → Act → World → Prop} (s x : Operand) (t : TypeId)
    (ho : o.op = .call { callee := .builtin .append, args := #[s, x], argTypes := #[t, t] })
    {e : TypeId} {z : Value} {size bytes : Nat} (hinf : (P.info? e).map (fun i => (i.zero, i.size, i.bytes)) = some (some z, size, bytes)) (ht : P.underlying t = some (.slice e))
    (hzs : z.cells.size = size) (hsz : 0 < size) (henc : ∀ x, (enc x).length = size) (hone : ∀ x, ∀ u ∈ enc x, u.oneCell' = true)
    {base : Nat} {A : Option Addr} {n cap : Nat} {l : List α} (hown : Ow enc size e base w A n cap l) (hs : a.eval s = .slice A n cap)
    {B : Option Addr} {m c : Nat} {l2 : List α} {R : Nat → Prop} (hsl : Sl enc size R w B m c l2) (hx : a.eval x = .slice B m c)
    (h63 : l.length + l2.length ≤ 1099511627776) (hbytes : (l.length + l2.length) * bytes ≤ 140737488355328) (hbase : base ≤ w.heap.size)
    (h : ∀ A' n' cap' w', Ow enc size e base w' A' n' cap' (l ++ l2) → w.grownBy w' (Value.slice A n cap).ownBlock →
      (∀ k, (Value.slice A' n' cap').ownBlock = some k → (Value.slice A n cap).ownBlock = some k ∨ k = w.heap.size) → (l ++ l2 ≠ [] → ∃ g, A' = some ⟨g, 0, none⟩) →
      K (a.put o.dst (.slice A' n' cap')) w') : o.wp P a w K Q := by
  obtain ⟨i, hi, hz, hsi, hby⟩ := info_parts hinf
  have hl := hown.len
  have hl2 := hsl.len
  cases hl2' : l2 with
  | nil =>
    subst hl2'
    have hm : m = 0 := by simpa using hl2
    subst hm
    have hrun : (Builtin.append_ #[t, t] o.type #[.slice A n cap, .slice B 0 c]).run P w = .ok (.slice A n cap) w := by
      have hfc : (Builtin.firstCells i.size 0 (.slice B 0 c)).run P w = .ok #[] w := by
        cases B <;> simp [Builtin.firstCells, loadCells, loadCellsFrom]
      have hcn : n ≤ cap := by
        rcases hown.own.2 with ⟨hv, _⟩ | ⟨g, cap', cur, hv, _, _, hc, _⟩ <;> injection hv with _ h2 h3 <;> omega
      rcases hown.own.2 with ⟨hv, hn0⟩ | ⟨g, cap', cur, hv, _, hh, hc, _⟩
      · injection hv with h1 h2 h3
        subst h1 h2 h3
        cases B <;> simp [Builtin.append_, run_underlying ht, sizeOf, typeInfo, hi, Builtin.lenOf, Builtin.firstCells, loadCells, loadCellsFrom]
      · injection hv with h1 h2 h3
        subst h1 h3
        simp [Builtin.append_, run_underlying ht, sizeOf, typeInfo, hi, Builtin.lenOf, hfc, hcn, storeCells]
    unfold Oper.wp
    simp [execOp, ho, resolve, invoke, builtin, hs, hx, hrun, Result.andThen]
    refine (h A n cap w (by simpa using hown) ⟨rfl, rfl, rfl, Nat.le_refl _, fun _ _ _ => rfl⟩ (fun k hk => .inl hk) (fun hne => ?_))
    rcases hown.own.2 with ⟨hv, hn0⟩ | ⟨g, cap', cur, hv, _, hh, hc, _⟩
    · exact absurd (List.eq_nil_of_length_eq_zero (l := l) (by omega)) (by simpa using hne)
    · injection hv with h1 h2 h3
      exact ⟨g, h1⟩
  | cons y l3 =>
    obtain ⟨b, off, hB, _, _⟩ := hsl.at_ 0 y (by rw [hl2']; rfl)
    subst hB
    have hpos : 0 < m := by rw [hl2, hl2']; simp
    refine wp_append_lies w s x t ho base e i z size bytes ht hi hz hsi hby hzs hsz (.slice A n cap) n (l.flatMap enc) hs hown.own ⟨b, off, none⟩ m c (l2.flatMap enc) hx (by rw [flatMap_len henc, hl2]) ?_ ?_ hpos
      (by rw [hl, hl2]; unfold maxLen; omega) (by rw [hl, hl2]; exact hbytes) hbase w.heap.size rfl fun g cap' w' h1 h2 h3 h4 => ?_
    · intro j u hu
      have hj : j < l2.length * size := by
        rcases Nat.lt_or_ge j (l2.flatMap enc).length with h5 | h5
        · rwa [flatMap_len henc] at h5
        · rw [List.getElem?_eq_none h5] at hu; cases hu
      have hi2 : j / size < l2.length := by rw [Nat.div_lt_iff_lt_mul hsz]; exact hj
      have hx2 : l2[j / size]? = some (l2[j / size]) := List.getElem?_eq_getElem hi2
      obtain ⟨b', off', hB', _, hc'⟩ := hsl.at_ _ _ hx2
      injection hB' with hB'
      injection hB' with hb1 hb2
      subst hb1 hb2
      have hmod : j % size < (enc l2[j / size]).length := by rw [henc]; exact Nat.mod_lt _ hsz
      have h6 := flatMap_get henc l2 (j / size) _ hx2 (j % size) _ (List.getElem?_eq_getElem hmod)
      have hdm : j / size * size + j % size = j := by rw [Nat.mul_comm]; exact Nat.div_add_mod j size
      rw [hdm] at h6
      have h7 := hc' (j % size) _ (List.getElem?_eq_getElem hmod)
      rw [Nat.add_assoc, hdm] at h7
      rw [hu] at h6
      injection h6 with h6
      rw [h6]
      simpa [Addr.add_lit] using h7
    · intro u hu
      obtain ⟨y', _, hy'⟩ := List.mem_flatMap.1 hu
      exact hone y' u hy'
    · refine h (some ⟨g, 0, none⟩) (n + m) cap' w' ⟨by rw [List.length_append, hl, hl2], by rw [List.flatMap_append]; exact h1⟩ h2 (fun k hk => ?_) (fun _ => ⟨g, rfl⟩)
      have : g = k := by simpa [Value.ownBlock] using hk
      subst this
      exact h3


theorem wpList_app {α : Type} {enc : α → List Value} {P : Program} (w : World) {ops : Array Oper} {rest : List Oper} {o : Oper} {a : Act} {Q : Exit → Act → World → Prop} (hgd : o.guard = none) (s x : Operand) (t : TypeId)
    (ho : o.op = .call { callee := .builtin .append, args := #[s, x], argTypes := #[t, t] })
    {e : TypeId} {z : Value} {size bytes : Nat} (hinf : (P.info? e).map (fun i => (i.zero, i.size, i.bytes)) = some (some z, size, bytes)) (ht : P.underlying t = some (.slice e))
    (hzs : z.cells.size = size) (hsz : 0 < size) (henc : ∀ x, (enc x).length = size) (hone : ∀ x, ∀ u ∈ enc x, u.oneCell' = true)
    {base : Nat} {A : Option Addr} {n cap : Nat} {l : List α} (hown : Ow enc size e base w A n cap l) (hs : a.eval s = .slice A n cap)
    {B : Option Addr} {m c : Nat} {l2 : List α} {R : Nat → Prop} (hsl : Sl enc size R w B m c l2) (hx : a.eval x = .slice B m c)
    (h63 : l.length + l2.length ≤ 1099511627776) (hbytes : (l.length + l2.length) * bytes ≤ 140737488355328) (hbase : base ≤ w.heap.size)
    (h : ∀ A' n' cap' w', Ow enc size e base w' A' n' cap' (l ++ l2) → w.grownBy w' (Value.slice A n cap).ownBlock →
      (∀ k, (Value.slice A' n' cap').ownBlock = some k → (Value.slice A n cap).ownBlock = some k ∨ k = w.heap.size) → (l ++ l2 ≠ [] → ∃ g, A' = some ⟨g, 0, none⟩) →
      wpList P ops Q rest (a.put o.dst (.slice A' n' cap')) w') : wpList P ops Q (o :: rest) a w :=
  wpList_plain hgd fun _ hK => wp_app w s x t ho hinf ht hzs hsz henc hone hown hs hsl hx h63 hbytes hbase fun A' n' cap' w' h1 h2 h3 h4 => hK _ _ (h A' n' cap' w' h1 h2 h3 h4)

/-- At a step of a region that draws its order. -/
theorem step_app {α : Type} {enc : α → List Value} {P : Program} (w : World) {ops : Array Oper} {o : Oper} {a : Act} {K : Act → World → Prop} {Q : Exit → Act → World → Prop} {E : Prop} (hgd : o.guard = none) (s x : Operand) (t : TypeId)
    (ho : o.op = .call { callee := .builtin .append, args := #[s, x], argTypes := #[t, t] })
    {e : TypeId} {z : Value} {size bytes : Nat} (hinf : (P.info? e).map (fun i => (i.zero, i.size, i.bytes)) = some (some z, size, bytes)) (ht : P.underlying t = some (.slice e))
    (hzs : z.cells.size = size) (hsz : 0 < size) (henc : ∀ x, (enc x).length = size) (hone : ∀ x, ∀ u ∈ enc x, u.oneCell' = true)
    {base : Nat} {A : Option Addr} {n cap : Nat} {l : List α} (hown : Ow enc size e base w A n cap l) (hs : a.eval s = .slice A n cap)
    {B : Option Addr} {m c : Nat} {l2 : List α} {R : Nat → Prop} (hsl : Sl enc size R w B m c l2) (hx : a.eval x = .slice B m c)
    (h63 : l.length + l2.length ≤ 1099511627776) (hbytes : (l.length + l2.length) * bytes ≤ 140737488355328) (hbase : base ≤ w.heap.size)
    (h : ∀ A' n' cap' w', Ow enc size e base w' A' n' cap' (l ++ l2) → w.grownBy w' (Value.slice A n cap).ownBlock →
      (∀ k, (Value.slice A' n' cap').ownBlock = some k → (Value.slice A n cap).ownBlock = some k ∨ k = w.heap.size) → (l ++ l2 ≠ [] → ∃ g, A' = some ⟨g, 0, none⟩) →
      K (a.put o.dst (.slice A' n' cap')) w') : if Region.wanted o (yielded ops a.tmps) = true then Oper.wp P o a w K Q else E := by
  rw [if_pos (by simp [Region.wanted, hgd])]
  exact wp_app w s x t ho hinf ht hzs hsz henc hone hown hs hsl hx h63 hbytes hbase h

/-- A whole number as a cell. -/
def eI (k : IntKind) (x : Int) : List Value := [.int k x]
theorem eI_len (k : IntKind) (x : Int) : (eI k x).length = 1 := rfl
theorem eI_one (k : IntKind) (x : Int) : ∀ u ∈ eI k x, u.oneCell' = true := fun u hu => by rw [List.mem_singleton.1 hu]; rfl
theorem eI_flat (k : IntKind) (l : List Int) : l.flatMap (eI k) = l.map (Value.int k) := by
  induction l with
  | nil => rfl
  | cons x l ih => rw [List.flatMap_cons, ih]; rfl
/-- Element i, its cell. -/
theorem Sl.num {k : IntKind} {Q : Nat → Prop} {w : World} {A : Option Addr} {n cap : Nat} {l : List Int} (h : Sl (eI k) 1 Q w A n cap l) (i : Nat) (hi : i < n) :
    ∃ b off x, A = some ⟨b, off, none⟩ ∧ l[i]? = some x ∧ Q b ∧ b < w.heap.size ∧ w.cell? ⟨b, off + i, none⟩ = some (.int k x) := by
  have hl : i < l.length := by rw [← h.len]; exact hi
  obtain ⟨b, off, ha, hb, hc⟩ := h.at_ i l[i] (List.getElem?_eq_getElem hl)
  have h1 := hc 0 _ rfl
  rw [Nat.mul_one, Nat.add_zero] at h1
  exact ⟨b, off, l[i], ha, List.getElem?_eq_getElem hl, hb, World.block_lt_of_cell? w _ h1, h1⟩
theorem Sl.noAddr {α : Type} {enc : α → List Value} {sz : Nat} {Q : Nat → Prop} {w : World} {n cap : Nat} {l : List α} (h : Sl enc sz Q w none n cap l) : l = [] ∧ n = 0 := by
  cases l with
  | nil => exact ⟨rfl, h.len⟩
  | cons x l => obtain ⟨b, off, ha, _⟩ := h.at_ 0 x rfl; cases ha
/-- A block that has just been laid, read as a row of its elements. -/
theorem Sl.laid {α : Type} {enc : α → List Value} {sz : Nat} (hsz : ∀ x, (enc x).length = sz) (w : World) (l : List α) (cs : Array Value) (t n : Nat) (hcs : cs.toList = l.flatMap enc) (hn : n = l.length) (hm : n ≤ 9223372036854775807) :
    Sl enc sz (fun k => k = w.heap.size) (w.alloc (.cells cs t)) (some ⟨w.heap.size, 0, none⟩) n n l :=
  ⟨hn, Nat.le_refl _, hm, fun i x hx => ⟨w.heap.size, 0, rfl, rfl, fun j u hu => by
    have h := flatMap_get hsz l i x hx j u hu
    rw [← hcs, Array.getElem?_toList] at h
    rw [Nat.zero_add]
    exact cell_new w cs t _ _ h⟩⟩
theorem Ow.laid {α : Type} {enc : α → List Value} {sz e base : Nat} (hsz : ∀ x, (enc x).length = sz) (w : World) (l : List α) (cs : Array Value) (n : Nat) (hcs : cs.toList = l.flatMap enc) (hn : n = l.length) (hm : n ≤ 1099511627776) (hb : base ≤ w.heap.size) :
    Ow enc sz e base (w.alloc (.cells cs e)) (some ⟨w.heap.size, 0, none⟩) n n l := by
  refine ⟨hn, by rw [flatMap_len hsz, hn], .inr ⟨w.heap.size, n, cs, rfl, hb, heap_alloc_new w _, Nat.le_refl _, by unfold maxLen; omega, ?_, ?_⟩⟩
  · rw [← Array.length_toList, hcs, flatMap_len hsz, hn]
  · rw [hcs, List.take_of_length_le (by rw [flatMap_len hsz, hn]; exact Nat.le_refl _)]

/-- One block of what was there may have turned. -/
def Mut (g : Nat) (w w' : World) : Prop := w.grownBy w' (some g)
theorem Mut.refl (g : Nat) (w : World) : Mut g w w := ⟨rfl, rfl, rfl, Nat.le_refl _, fun _ _ _ => rfl⟩
theorem Mut.trans {g : Nat} {a b c : World} (h : Mut g a b) (k : Mut g b c) : Mut g a c :=
  ⟨k.os.trans h.os, k.tape.trans h.tape, k.output.trans h.output, Nat.le_trans h.size k.size, fun i hi hn => (k.block i (Nat.lt_of_lt_of_le hi h.size) hn).trans (h.block i hi hn)⟩
theorem Mut.setCell {g : Nat} {a b : World} (h : Mut g a b) (j : Nat) (u : Value) : Mut g a (b.setCell ⟨g, j, none⟩ u) :=
  h.trans ⟨rfl, rfl, rfl, by simp [World.setCell], fun k _ hn => Below.heap_setCell _ _ _ _ (fun e => hn (by rw [e]))⟩
theorem Ext.mut (g : Nat) {a b : World} (h : Ext a b) : Mut g a b := ⟨h.out.os, h.out.tape, h.out.output, h.size, fun k hk _ => h.block k hk⟩
theorem Mut.ext {g : Nat} {a b c : World} (h : Ext a b) (k : Mut g b c) (hg : a.heap.size ≤ g) : Ext a c := h.grown k fun i hi => by injection hi with hi; omega
theorem Sl.mut {α : Type} {enc : α → List Value} {sz : Nat} {Q : Nat → Prop} {w w' : World} {A : Option Addr} {n cap : Nat} {l : List α} {g : Nat} (h : Sl enc sz Q w A n cap l) (hm : Mut g w w') (hq : ∀ k, Q k → k ≠ g) : Sl enc sz Q w' A n cap l :=
  h.grown hm fun k hk e => hq k hk (by injection e)

theorem heap_set (w : World) (g j : Nat) (u : Value) (cs : Array Value) (t : Nat) (fr : Nat × Nat) (h : w.heap[g]? = some (.cells cs t fr)) : (w.setCell ⟨g, j, none⟩ u).heap[g]? = some (.cells (cs.setIfInBounds j u) t fr) := by
  simp [World.setCell, Array.getElem?_modify, h]
theorem cell_of_heap {w : World} {g : Nat} {cs : Array Value} {t : Nat} {fr : Nat × Nat} (h : w.heap[g]? = some (.cells cs t fr)) (j : Nat) : w.cell? ⟨g, j, none⟩ = cs[j]? := by
  simp [World.cell?, h]
theorem free_of_heap {w : World} {g : Nat} {cs : Array Value} {t : Nat} (h : w.heap[g]? = some (.cells cs t (0, 0))) (j : Nat) : w.frozen? ⟨g, j, none⟩ = false := by
  simp [World.frozen?, h]
theorem lt_of_heap {w : World} {g : Nat} {o : Obj} (h : w.heap[g]? = some o) : g < w.heap.size := by
  rcases Nat.lt_or_ge g w.heap.size with h1 | h1
  · exact h1
  · rw [Array.getElem?_eq_none h1] at h; cases h

/-- What is owned, one element turned (whole numbers). -/
theorem Ow.set {k : IntKind} {e base g n cap : Nat} {w : World} {l : List Int} (h : Ow (eI k) 1 e base w (some ⟨g, 0, none⟩) n cap l) (j : Nat) (x : Int) :
    Ow (eI k) 1 e base (w.setCell ⟨g, j, none⟩ (.int k x)) (some ⟨g, 0, none⟩) n cap (l.set j x) ∧ w.grownBy (w.setCell ⟨g, j, none⟩ (.int k x)) (some g) := by
  obtain ⟨h1, h2⟩ := h.own.stored j (.int k x)
  refine ⟨⟨by rw [List.length_set]; exact h.len, ?_⟩, h2⟩
  rw [eI_flat, List.map_set, ← eI_flat]
  exact h1
theorem Ow.free {α : Type} {enc : α → List Value} {sz e base g n cap : Nat} {w : World} {l : List α} (h : Ow enc sz e base w (some ⟨g, 0, none⟩) n cap l) (j : Nat) : w.frozen? ⟨g, j, none⟩ = false := h.own.frozenAt j
theorem Ow.num {k : IntKind} {e base g n cap : Nat} {w : World} {l : List Int} (h : Ow (eI k) 1 e base w (some ⟨g, 0, none⟩) n cap l) (j : Nat) (hj : j < n) : ∃ x, l[j]? = some x ∧ w.cell? ⟨g, j, none⟩ = some (.int k x) := by
  obtain ⟨b, off, x, ha, hx, _, _, hc⟩ := (h.sl (eI_len k)).num j hj
  simp only [Option.some.injEq, Addr.mk.injEq] at ha
  obtain ⟨rfl, rfl, _⟩ := ha
  exact ⟨x, hx, by rw [Nat.zero_add] at hc; exact hc⟩
/-- make([]T, n), whole numbers. -/
theorem wpList_mk {P : Program} (w : World) {ops : Array Oper} {rest : List Oper} {o : Oper} {a : Act} {Q : Exit → Act → World → Prop}
    (hg : o.guard = none) (l c : Operand) (t : TypeId) (hop : o.op = Op.makeSlice t l c)
    (base : Nat) {e : TypeId} {k : IntKind} {bytes : Nat} (hinf : (P.info? e).map (fun i => (i.zero, i.size, i.bytes)) = some (some (.int k 0), 1, bytes)) (h1 : P.underlying t = some (.slice e))
    (kl kc : IntKind) (L C : Int) (n : Nat) (hl : a.eval l = .int kl L) (hc : a.eval c = .int kc C) (hL : L = (n : Int)) (hC : C = (n : Int)) (b2 : bytes * n ≤ 281474976710656) (b3 : n ≤ 9223372036854775807) (b4 : base ≤ w.heap.size)
    (hK : ∀ w', Ow (eI k) 1 e base w' (some ⟨w.heap.size, 0, none⟩) n n (List.replicate n 0) → w.grownBy w' none → w.heap.size < w'.heap.size → wpList P ops Q rest (a.put o.dst (.slice (some ⟨w.heap.size, 0, none⟩) n n)) w') :
    wpList P ops Q (o :: rest) a w := by
  obtain ⟨i, hi, hz, hsi, hby⟩ := info_parts hinf
  refine wpList_make_full w hg l c t hop base e i (.int k 0) 1 h1 hi hz hsi kl kc L C n hl hc hL hC (by rw [hby]; exact b2) (by unfold maxLen; exact b3) b4 fun w' h2 h3 => ?_
  refine hK w' ⟨by rw [List.length_replicate], ?_⟩ h3 (h2.lt _ rfl).2
  have : (List.replicate n (0 : Int)).flatMap (eI k) = (madeCells (Value.int k 0).cells (n * 1)).toList := by
    rw [eI_flat, List.map_replicate, Nat.mul_one]
    exact (toList_madeCells_one (.int k 0) n).symm
  rw [this]
  exact h2

/-- What is owned lies in no block of another type. -/
theorem Ow.ne {α : Type} {enc : α → List Value} {sz e base g t n cap : Nat} {w : World} {A : Option Addr} {l : List α} {cs : Array Value} {fr : Nat × Nat} (h : Ow enc sz e base w A n cap l) (hg : w.heap[g]? = some (.cells cs t fr)) (hte : t ≠ e) :
    ∀ k, (Value.slice A n cap).ownBlock = some k → k ≠ g := by
  intro k hk e1
  subst e1
  rcases h.own.2 with ⟨hv, _⟩ | ⟨g', cap', cur, hv, _, hh, _⟩
  · rw [hv] at hk; cases hk
  · rw [hv] at hk
    have : g' = k := by simpa [Value.ownBlock] using hk
    subst this
    rw [hh] at hg
    injection hg with hg
    injection hg with _ hg
    exact hte hg.symm

theorem heap_grown {w w' : World} {row : Option Nat} {g : Nat} {o : Obj} (h : w.heap[g]? = some o) (hg : w.grownBy w' row) (hne : row ≠ some g) : w'.heap[g]? = some o :=
  (hg.block g (lt_of_heap h) fun e => hne e.symm).trans h
theorem Ow.row_ne {α : Type} {enc : α → List Value} {sz e base g t n cap : Nat} {w : World} {A : Option Addr} {l : List α} {cs : Array Value} {fr : Nat × Nat} (h : Ow enc sz e base w A n cap l) (hg : w.heap[g]? = some (.cells cs t fr)) (hte : t ≠ e) :
    (Value.slice A n cap).ownBlock ≠ some g := fun e1 => h.ne hg hte g e1 rfl

/-- A slice's header as a cell. -/
def eH (h : Option Addr × Nat × Nat) : List Value := [.slice h.1 h.2.1 h.2.2]
theorem eH_len (h : Option Addr × Nat × Nat) : (eH h).length = 1 := rfl
theorem eH_one (h : Option Addr × Nat × Nat) : ∀ u ∈ eH h, u.oneCell' = true := fun u hu => by rw [List.mem_singleton.1 hu]; rfl
theorem Sl.head {Q : Nat → Prop} {w : World} {A : Option Addr} {n cap : Nat} {l : List (Option Addr × Nat × Nat)} (h : Sl eH 1 Q w A n cap l) (i : Nat) (hi : i < n) :
    ∃ b off x, A = some ⟨b, off, none⟩ ∧ l[i]? = some x ∧ Q b ∧ b < w.heap.size ∧ w.cell? ⟨b, off + i, none⟩ = some (.slice x.1 x.2.1 x.2.2) := by
  have hl : i < l.length := by rw [← h.len]; exact hi
  obtain ⟨b, off, ha, hb, hc⟩ := h.at_ i l[i] (List.getElem?_eq_getElem hl)
  have h1 := hc 0 _ rfl
  rw [Nat.mul_one, Nat.add_zero] at h1
  exact ⟨b, off, l[i], ha, List.getElem?_eq_getElem hl, hb, World.block_lt_of_cell? w _ h1, h1⟩
/-- Two lists, element by element. -/
structure Each {α β : Type} (R : α → β → Prop) (l : List α) (m : List β) : Prop where
  length : l.length = m.length
  all : ∀ (i : Nat) (x : α) (y : β), l[i]? = some x → m[i]? = some y → R x y
theorem Each.get {α β : Type} {R : α → β → Prop} {l : List α} {m : List β} (h : Each R l m) {i : Nat} {x : α} (hx : l[i]? = some x) : ∃ y, m[i]? = some y ∧ R x y := by
  have hi : i < m.length := by
    rcases Nat.lt_or_ge i l.length with h1 | h1
    · rw [← h.length]; exact h1
    · rw [List.getElem?_eq_none h1] at hx; cases hx
  exact ⟨m[i], List.getElem?_eq_getElem hi, h.all i x _ hx (List.getElem?_eq_getElem hi)⟩
theorem Each.nil {α β : Type} (R : α → β → Prop) : Each R ([] : List α) ([] : List β) := ⟨rfl, fun i x y hx => by simp at hx⟩
theorem Each.cons {α β : Type} {R : α → β → Prop} {l : List α} {m : List β} {x : α} {y : β} (hr : R x y) (h : Each R l m) : Each R (x :: l) (y :: m) :=
  ⟨by rw [List.length_cons, List.length_cons, h.length], fun i => by
    cases i with
    | zero => intro a b ha hb; simp only [List.getElem?_cons_zero, Option.some.injEq] at ha hb; subst ha hb; exact hr
    | succ i => intro a b ha hb; rw [List.getElem?_cons_succ] at ha hb; exact h.all i a b ha hb⟩
theorem Each.mono {α β : Type} {R R' : α → β → Prop} {l : List α} {m : List β} (h : Each R l m) (hr : ∀ x y, R x y → R' x y) : Each R' l m := ⟨h.length, fun i x y hx hy => hr x y (h.all i x y hx hy)⟩
/-- How many elements the first k lists have. -/
def totL (ls : List (List Int)) (k : Nat) : Nat := (ls.take k).flatten.length
theorem totL_zero (ls : List (List Int)) : totL ls 0 = 0 := by simp [totL]
theorem totL_next (ls : List (List Int)) {k : Nat} {l : List Int} (h : ls[k]? = some l) : totL ls (k + 1) = totL ls k + l.length := by
  unfold totL
  rw [List.take_add_one, h, Option.toList_some, List.flatten_append, List.length_append, List.flatten_singleton]
theorem totL_le (ls : List (List Int)) (k : Nat) : totL ls k ≤ ls.flatten.length := by
  unfold totL
  conv => rhs; rw [← List.take_append_drop k ls, List.flatten_append, List.length_append]
  omega
theorem totL_all (ls : List (List Int)) {k : Nat} (h : ls.length ≤ k) : totL ls k = ls.flatten.length := by
  unfold totL; rw [List.take_of_length_le h]

/-- Only draws lie between. -/
structure Drawn (w w' : World) : Prop where
  ex : ∃ q, w' = w.drewN q
theorem Drawn.refl (w : World) : Drawn w w := ⟨0, rfl⟩
theorem Drawn.drewN {a b : World} (h : Drawn a b) (n : Nat) : Drawn a (b.drewN n) := by
  obtain ⟨q, rfl⟩ := h.ex
  exact ⟨_, World.drewN_drewN _ _ _⟩
theorem Drawn.trans {a b c : World} (h : Drawn a b) (k : Drawn b c) : Drawn a c := by
  obtain ⟨q, rfl⟩ := k.ex
  exact h.drewN q
theorem Drawn.ext {a b : World} (h : Drawn a b) : Ext a b := by
  obtain ⟨q, rfl⟩ := h.ex
  exact (Ext.refl _).drewN q
/-- A callee that only draws, in a region that draws. -/
theorem quietD {P : Program} {f : FuncId} {args : Array Value} {w : World} {n : Nat} {v : Value} (h : Calls P f args (w.drewN n) fun e w' => e = .returned v ∧ Drawn (w.drewN n) w') :
    Calls P f args (w.drewN n) fun e w'' => e = .returned v ∧ ∃ m, w'' = w.drewN m :=
  Calls.quiet_of (h.mono fun _ _ ⟨he, hd⟩ => ⟨he, hd.ex⟩)

/-- A reading over elder blocks, said of another world over the same elder one. -/
theorem Sl.via {α : Type} {enc : α → List Value} {sz : Nat} {Q : Nat → Prop} {a b c : World} {A : Option Addr} {n cap : Nat} {l : List α} (h : Sl enc sz (fun k => Q k ∧ k < a.heap.size) b A n cap l) (e1 : Ext a b) (e2 : Ext a c) : Sl enc sz Q c A n cap l :=
  (h.step (w' := c) fun k hk _ => (e2.block k hk.2).trans (e1.block k hk.2).symm).mono fun _ hk => hk.1
theorem Sl.in' {k : IntKind} {Q : Nat → Prop} {w : World} {A : Option Addr} {n cap : Nat} {l : List Int} (h : Sl (eI k) 1 Q w A n cap l) : Sl (eI k) 1 (fun j => Q j ∧ j < w.heap.size) w A n cap l :=
  h.inside fun _ => Nat.zero_lt_one

theorem Ext.heap {a b : World} (h : Ext a b) {g : Nat} {o : Obj} (hh : a.heap[g]? = some o) : b.heap[g]? = some o := (h.block g (lt_of_heap hh)).trans hh
/-- The second of two new blocks. -/
theorem heap_new2 (w : World) (x y : Obj) : ((w.alloc x).alloc y).heap[w.heap.size + 1]? = some y := by
  have h := heap_alloc_new (w.alloc x) y
  rwa [World.size_alloc] at h

theorem cell_drew (w : World) (a : Addr) : w.drew.cell? a = w.cell? a := rfl
theorem cell_new' (w : World) (g : Nat) (hg : w.heap.size = g) (cs : Array Value) (t j : Nat) (fr : Nat × Nat) {v : Value} (h : cs[j]? = some v) : (w.alloc (.cells cs t fr)).cell? ⟨g, j, none⟩ = some v := by
  subst hg
  exact cell_new w cs t j fr h

theorem Ow.mut {α : Type} {enc : α → List Value} {sz e base g n cap : Nat} {w w' : World} {A : Option Addr} {l : List α} (h : Ow enc sz e base w A n cap l) (hm : Mut g w w') (hg : g < base) : Ow enc sz e base w' A n cap l :=
  h.step fun k hk => hm.block k (h.lt k hk).2 fun e1 => by have := (h.lt k hk).1; injection e1 with e1; omega

theorem Sl.old {α : Type} {enc : α → List Value} {sz : Nat} {a b c : World} {A : Option Addr} {n cap : Nat} {l : List α} (h : Sl enc sz (fun k => k < a.heap.size) b A n cap l) (e1 : Ext a b) (e2 : Ext a c) : Sl enc sz (fun k => k < a.heap.size) c A n cap l :=
  h.step (w' := c) fun k hk _ => (e2.block k hk).trans (e1.block k hk).symm

theorem Mut.setNew {g : Nat} {a b : World} (h : Mut g a b) {p : Addr} (hp : a.heap.size ≤ p.block) (u : Value) : Mut g a (b.setCell p u) :=
  ⟨h.os, h.tape, h.output, by rw [World.size_setCell]; exact h.size, fun k hk hn => (Below.heap_setCell _ _ _ _ (by omega)).trans (h.block k hk hn)⟩
end Go.Proofs.Ytdocdppimpapiaa
