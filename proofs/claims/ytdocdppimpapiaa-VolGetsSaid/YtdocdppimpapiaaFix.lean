/-
  The package fix, and what it calls: contracts.
-/
import Derived.Test.YtdocdppimpapiaaMem
import Derived.Laws.BitsAllLaws
namespace Go.Proofs.Ytdocdppimpapiaa
open Go.RowKit

theorem info_u8 : (Try.prog.info? 5).map (fun i => (i.zero, i.size, i.bytes)) = some (some (.int .u8 0), 1, 1) := by kernel_rfl

/-- A slice that comes back, in memory that the call may have laid. -/
def RetSl {α : Type} (enc : α → List Value) (sz : Nat) (l : List α) (w : World) (e : Ending) (w' : World) : Prop :=
  ∃ A n cap, e = .returned (.slice A n cap) ∧ Sl enc sz (fun k => w.heap.size ≤ k) w' A n cap l ∧ Ext w w'

set_option maxHeartbeats 400000 in
theorem cloneB_any (A : Option Addr) (n cap : Nat) (l : List Int) (Q : Nat → Prop) (w : World) (h : Sl (eI .u8) 1 Q w A n cap l) (hl : l.length ≤ 1048576) :
    Calls Try.prog 88 #[.slice A n cap] w (RetSl (eI .u8) 1 l w) := by
  have qn := fun (w : World) (a : Option Addr) (n c : Nat) => Lib.run_eql_slice_nil (P := Try.prog) w 35 5 a n c 0 0 Try.underlying35
  cases A with
  | none =>
    obtain ⟨rfl, rfl⟩ := h.noAddr
    go_enter Try.func88, Try.ntmps88
    go_wp2
    go_ret
    exact ⟨none, 0, 0, rfl, Sl.nil _ _ _ _ (by decide), Ext.refl _⟩
  | some a =>
    have H := Lib.hid h
    clear h
    go_enter Try.func88, Try.ntmps88
    go_wp2_with (at_builtin; refine wpList_app _ rfl _ _ 35 rfl info_u8 Try.underlying35 rfl (by decide) (eI_len _) (eI_one _) (Ow.laid (base := w.heap.size) (eI_len _) w [] #[] 0 rfl rfl (by decide) (Nat.le_refl _)) rfl (H.out.ext ((Ext.refl _).alloc _)) rfl (by simp; omega) (by simp; omega) (by simp) ?_; intro A' n' cap' w' hO hg _ _)
    go_ret
    refine ⟨A', n', cap', rfl, (hO.sl (eI_len _)).mono fun k hk => hk.1, Ext.grown ((Ext.refl _).alloc _) hg fun k hk => ?_⟩
    have : w.heap.size = k := by simpa [Value.ownBlock] using hk
    omega

def numB (l : List Int) : Int := l.foldl (fun n c => n * 256 + c) 0
theorem numB_snoc (l : List Int) (c : Int) : numB (l ++ [c]) = numB l * 256 + c := by simp [numB]
def Bt (l : List Int) : Prop := ∀ x ∈ l, 0 ≤ x ∧ x < 256
theorem snoc_ind {α : Type} {P : List α → Prop} (h0 : P []) (h1 : ∀ l x, P l → P (l ++ [x])) : ∀ l, P l := by
  intro l
  rw [← List.reverse_reverse l]
  induction l.reverse with
  | nil => exact h0
  | cons x l ih => rw [List.reverse_cons]; exact h1 _ _ ih
theorem numB_bd : ∀ (l : List Int), Bt l → 0 ≤ numB l ∧ numB l < 256 ^ l.length := by
  refine snoc_ind (fun _ => by simp [numB]) fun l c ih => ?_
  · intro h
    have h1 := ih (fun x hx => h x (by simp [hx]))
    have h2 := h c (by simp)
    rw [numB_snoc, List.length_append, List.length_singleton, Int.pow_succ]
    omega

theorem wrap_u64 {x : Int} (h0 : 0 ≤ x) (h1 : x < 18446744073709551616) : IntKind.u64.wrap x = x := by
  simp [IntKind.wrap, IntKind.signed, IntKind.bits]; omega
theorem or_byte {a x : Int} (h0 : 0 ≤ a) (h1 : a < 72057594037927936) (h2 : 0 ≤ x) (h3 : x < 256) : bits .or .u64 (IntKind.u64.wrap (a * 256)) (IntKind.u64.wrap x) = a * 256 + x := by
  rw [wrap_u64 (by omega) (by omega), wrap_u64 (by omega) (by omega), u64_or _ _ (by omega) (by omega) (by omega) (by omega)]
  have h := Nat.shiftLeft_add_eq_or_of_lt (i := 8) (b := x.toNat) (by omega) a.toNat
  rw [Nat.shiftLeft_eq] at h
  rw [show (a * 256).toNat = a.toNat * 2 ^ 8 by omega, ← h]
  omega
theorem numB_lt {l : List Int} (h : Bt l) (hl : l.length ≤ 7) : numB l < 72057594037927936 := by
  have h1 := (numB_bd l h).2
  have h2 : l.length = 0 ∨ l.length = 1 ∨ l.length = 2 ∨ l.length = 3 ∨ l.length = 4 ∨ l.length = 5 ∨ l.length = 6 ∨ l.length = 7 := by omega
  rcases h2 with h2 | h2 | h2 | h2 | h2 | h2 | h2 | h2 <;> rw [h2] at h1 <;> omega
theorem numB_next {l : List Int} (hb : Bt l) {k : Nat} {x : Int} (hx : l[k]? = some x) (hk : k ≤ 7) :
    bits .or .u64 (IntKind.u64.wrap (numB (l.take k) * 256)) (IntKind.u64.wrap x) = numB (l.take (k + 1)) := by
  have hkl : k < l.length := by
    rcases Nat.lt_or_ge k l.length with h1 | h1
    · exact h1
    · rw [List.getElem?_eq_none h1] at hx; cases hx
  have ht : Bt (l.take k) := fun y hy => hb y (List.mem_of_mem_take hy)
  have hxx := hb x (List.mem_of_getElem? hx)
  rw [or_byte (numB_bd _ ht).1 (numB_lt ht (by rw [List.length_take]; omega)) hxx.1 hxx.2, List.take_add_one, hx, Option.toList_some, numB_snoc]

set_option maxHeartbeats 400000 in
theorem number_any (A : Option Addr) (n cap : Nat) (l : List Int) (Q : Nat → Prop) (w : World) (h : Sl (eI .u8) 1 Q w A n cap l) (hl : l.length ≤ 8) (hb : Bt l) :
    Calls Try.prog 92 #[.slice A n cap] w fun e w' => e = .returned (.int .u64 (numB l)) ∧ w = w' := by
  have hn : n ≤ 8 := by rw [h.len]; exact hl
  have H := Lib.hid h
  have HB := Lib.hid hb
  clear h hb
  go_enter Try.func92, Try.ntmps92
  go_wp2
  go_loop [3, 8] (fun s i => ∃ k : Nat, k ≤ n ∧ i = .int .i64 k ∧ s = .int .u64 (numB (l.take k))) (fun _ i => n - (intOf i).toNat)
  case atStart => exact ⟨0, Nat.zero_le _, rfl, rfl⟩
  case round =>
    obtain ⟨k, hk, rfl, rfl⟩ := hrel
    by_cases hlt : k < n
    · obtain ⟨b, off, x, rfl, hx, _, hbl, hc⟩ := H.out.num k hlt
      have hX := Lib.hid hx
      clear hx
      go_wp2
      refine ⟨⟨k + 1, by omega, by go_num, ?_⟩, by simp [intOf]; omega⟩
      rw [numB_next HB.out hX.out (by omega)]
    · go_wp2
      go_ret
      have h := H.out
      exact ⟨ret_int (by rw [List.take_of_length_le (by rw [← h.len]; omega)]), rfl⟩

/-- A reader at block g: what is left, and what went wrong. -/
structure InAt (R : Nat → Prop) (w : World) (g : Nat) (l : List Int) (er : Int) : Prop where
  ex : ∃ A n cap, w.heap[g]? = some (.cells #[.slice A n cap, .int .i64 er] 137 (0, 0)) ∧ Sl (eI .u8) 1 (fun k => k ≠ g ∧ R k) w A n cap l
  bt : Bt l
theorem Bt.nil : Bt [] := fun x h => by cases h
theorem Bt.take {l : List Int} (h : Bt l) (k : Nat) : Bt (l.take k) := fun x hx => h x (List.mem_of_mem_take hx)
theorem Bt.drop {l : List Int} (h : Bt l) (k : Nat) : Bt (l.drop k) := fun x hx => h x (List.mem_of_mem_drop hx)
theorem InAt.mut {R : Nat → Prop} {w w' : World} {g : Nat} {l : List Int} {er : Int} (i : InAt R w g l er) (hm : w'.heap[g]? = w.heap[g]?) (hk : ∀ k, k ≠ g → R k → k < w.heap.size → w'.heap[k]? = w.heap[k]?) : InAt R w' g l er := by
  obtain ⟨A, n, cap, h1, h2⟩ := i.ex
  exact ⟨⟨A, n, cap, hm.trans h1, h2.step fun k h => hk k h.1 h.2⟩, i.bt⟩
theorem InAt.lt {R : Nat → Prop} {w : World} {g : Nat} {l : List Int} {er : Int} (i : InAt R w g l er) : g < w.heap.size := by
  obtain ⟨A, n, cap, h1, h2⟩ := i.ex
  exact lt_of_heap h1
theorem InAt.ext {R : Nat → Prop} {w w' : World} {g : Nat} {l : List Int} {er : Int} (i : InAt R w g l er) (he : Ext w w') : InAt R w' g l er := i.mut (he.block g i.lt) fun k _ _ hk => he.block k hk

/-- No result; the reader at g is so. -/
def InDone (R : Nat → Prop) (g : Nat) (w : World) (l : List Int) (er : Int) (v : Value) (e : Ending) (w' : World) : Prop := e = .returned v ∧ InAt R w' g l er ∧ Mut g w w'

set_option maxHeartbeats 400000 in
theorem ifail_any {R : Nat → Prop} (g : Nat) (l : List Int) (c : Int) (w : World) (h : InAt R w g l 0) :
    Calls Try.prog 90 #[.pointer (some ⟨g, 0, none⟩), .int .i64 c] w (InDone R g w [] c (.tuple #[])) := by
  obtain ⟨A, n, cap, h1, h2⟩ := h.ex
  have c0 := cell_of_heap h1 0
  have c1 := cell_of_heap h1 1
  have f0 := free_of_heap h1 0
  have f1 := free_of_heap h1 1
  simp only [List.getElem?_toArray, List.getElem?_cons_zero, List.getElem?_cons_succ] at c0 c1
  have H1 := Lib.hid h1
  clear h h1 h2
  go_enter Try.func90, Try.ntmps90
  go_wp2
  go_end0
  refine ⟨rfl, ⟨⟨_, _, _, ?_, Sl.nil _ _ none 0 (by decide)⟩, Bt.nil⟩, ((Mut.refl _ _).setCell _ _).setCell _ _⟩
  rw [heap_set _ _ _ _ _ _ _ (heap_set _ _ _ _ _ _ _ H1.out)]
  rfl

set_option maxHeartbeats 400000 in
theorem next_bad {R : Nat → Prop} (g : Nat) (l : List Int) (er : Int) (k : Nat) (w : World) (h : InAt R w g l er) (he : er ≠ 0) :
    Calls Try.prog 91 #[.pointer (some ⟨g, 0, none⟩), .int .i64 k] w (InDone R g w l er (.tuple #[.slice none 0 0, .bool false])) := by
  obtain ⟨A, n, cap, h1, h2⟩ := h.ex
  have c0 := cell_of_heap h1 0
  have c1 := cell_of_heap h1 1
  simp only [List.getElem?_toArray, List.getElem?_cons_zero, List.getElem?_cons_succ] at c0 c1
  have e0 : (er != 0) = true := by simp [he]
  have H := Lib.hid h
  clear h h1 h2 he
  go_enter Try.func91, Try.ntmps91
  go_wp2
  go_ret2
  exact ⟨rfl, H.out, Mut.refl _ _⟩

set_option maxHeartbeats 400000 in
theorem next_short {R : Nat → Prop} (g : Nat) (l : List Int) (k : Nat) (w : World) (h : InAt R w g l 0) (hk : l.length < k) :
    Calls Try.prog 91 #[.pointer (some ⟨g, 0, none⟩), .int .i64 k] w (InDone R g w [] 3 (.tuple #[.slice none 0 0, .bool false])) := by
  obtain ⟨A, n, cap, h1, h2⟩ := h.ex
  have c0 := cell_of_heap h1 0
  have c1 := cell_of_heap h1 1
  simp only [List.getElem?_toArray, List.getElem?_cons_zero, List.getElem?_cons_succ] at c0 c1
  have hn : n < k := by rw [h2.len]; exact hk
  have H := Lib.hid h
  clear h h1 h2
  go_enter Try.func91, Try.ntmps91
  go_wp2_with (go_at_call 90; refine (ifail_any _ _ _ _ H.out).mono ?_; rintro e w' ⟨rfl, hi, hm⟩)
  go_ret2
  exact ⟨rfl, hi, hm⟩

/-- The bytes that were asked for. -/
def NextOk (R : Nat → Prop) (g : Nat) (w : World) (l r : List Int) (e : Ending) (w' : World) : Prop :=
  ∃ A n cap, e = .returned (.tuple #[.slice A n cap, .bool true]) ∧ Sl (eI .u8) 1 (fun k => k ≠ g ∧ R k) w' A n cap l ∧ InAt R w' g r 0 ∧ Mut g w w'

set_option maxHeartbeats 400000 in
theorem next_ok {R : Nat → Prop} (g : Nat) (l : List Int) (k : Nat) (w : World) (h : InAt R w g l 0) (hk : k ≤ l.length) :
    Calls Try.prog 91 #[.pointer (some ⟨g, 0, none⟩), .int .i64 k] w (NextOk R g w (l.take k) (l.drop k)) := by
  obtain ⟨A, n, cap, h1, h2⟩ := h.ex
  have c0 := cell_of_heap h1 0
  have c1 := cell_of_heap h1 1
  have f0 := free_of_heap h1 0
  simp only [List.getElem?_toArray, List.getElem?_cons_zero, List.getElem?_cons_succ] at c0 c1
  have hn : k ≤ n := by rw [h2.len]; exact hk
  have hc : n ≤ cap := h2.le
  have hm := h2.mx
  have hbt := h.bt.drop k
  have H1 := Lib.hid h1
  have H2 := Lib.hid h2
  have HB := Lib.hid hbt
  clear h h1 h2 hbt
  go_enter Try.func91, Try.ntmps91
  go_wp2
  all_goals
    go_ret2
    have hd := H2.out.drop k hn
    have ht := H2.out.take k hn k (Nat.le_refl _) (by omega)
    have hh := H1.out
    rw [Nat.mul_one] at hd
    first
      | (obtain rfl : cap = k := by assumption
         rw [if_pos rfl, Nat.sub_self] at hd
         exact ⟨A, _, _, rfl, ht.mut ((Mut.refl _ _).setCell _ _) fun _ h => h.1, ⟨⟨_, _, _, (heap_set _ _ _ _ _ _ _ hh).trans rfl, hd.mut ((Mut.refl _ _).setCell _ _) fun _ h => h.1⟩, HB.out⟩, (Mut.refl _ _).setCell _ _⟩)
      | (rw [if_neg (by assumption)] at hd
         exact ⟨A, _, _, rfl, ht.mut ((Mut.refl _ _).setCell _ _) fun _ h => h.1, ⟨⟨_, _, _, (heap_set _ _ _ _ _ _ _ hh).trans rfl, hd.mut ((Mut.refl _ _).setCell _ _) fun _ h => h.1⟩, HB.out⟩, (Mut.refl _ _).setCell _ _⟩)

theorem ioff_any {R : Nat → Prop} (g : Nat) (l : List Int) (er : Int) (w : World) (h : InAt R w g l er) :
    Calls Try.prog 94 #[.pointer (some ⟨g, 0, none⟩)] w fun e w' => e = .returned (.int .i64 er) ∧ w = w' := by
  obtain ⟨A, n, cap, h1, h2⟩ := h.ex
  have c1 := cell_of_heap h1 1
  simp only [List.getElem?_toArray, List.getElem?_cons_zero, List.getElem?_cons_succ] at c1
  clear h h1 h2
  go_enter Try.func94, Try.ntmps94
  go_wp2
  go_ret
  exact ⟨rfl, rfl⟩

/-- The first error, or whether bytes are left. -/
def doneI (l : List Int) (er : Int) : Int := if er = 0 then (if l = [] then 0 else 4) else er
set_option maxHeartbeats 400000 in
theorem idone_any {R : Nat → Prop} (g : Nat) (l : List Int) (er : Int) (w : World) (h : InAt R w g l er) :
    Calls Try.prog 64 #[.pointer (some ⟨g, 0, none⟩)] w fun e w' => e = .returned (.int .i64 (doneI l er)) ∧ w = w' := by
  obtain ⟨A, n, cap, h1, h2⟩ := h.ex
  have c0 := cell_of_heap h1 0
  simp only [List.getElem?_toArray, List.getElem?_cons_zero] at c0
  have H := Lib.hid h
  have HL := Lib.hid h2.len
  clear h h1 h2
  by_cases he : er = 0
  · subst he
    by_cases hl : l = []
    · subst hl
      obtain rfl : n = 0 := HL.out
      go_enter Try.func64, Try.ntmps64
      go_wp2_with (go_at_call 94; refine (ioff_any _ _ _ _ H.out).mono ?_; rintro e w' ⟨rfl, rfl⟩)
      go_ret
      exact ⟨rfl, rfl⟩
    · have hn : 0 < n := by rw [HL.out]; exact List.length_pos_iff.2 hl
      have E : doneI l 0 = 4 := by simp [doneI, hl]
      clear hl
      go_enter Try.func64, Try.ntmps64
      go_wp2_with (go_at_call 94; refine (ioff_any _ _ _ _ H.out).mono ?_; rintro e w' ⟨rfl, rfl⟩)
      go_ret
      exact ⟨ret_int E.symm, rfl⟩
  · have e0 : (er != 0) = true := by simp [he]
    have E : doneI l er = er := by simp [doneI, he]
    clear he
    go_enter Try.func64, Try.ntmps64
    go_wp2_with (go_at_call 94; refine (ioff_any _ _ _ _ H.out).mono ?_; rintro e w' ⟨rfl, rfl⟩)
    go_ret
    exact ⟨ret_int E.symm, rfl⟩

set_option maxHeartbeats 400000 in
theorem of_any (A : Option Addr) (n cap : Nat) (l : List Int) (Q : Nat → Prop) (w : World) (h : Sl (eI .u8) 1 Q w A n cap l) (hb : Bt l) (hl : l.length ≤ 1048576) :
    Calls Try.prog 60 #[.slice A n cap] w fun e w' => ∃ g, e = .returned (.pointer (some ⟨g, 0, none⟩)) ∧ w.heap.size ≤ g ∧ InAt (fun k => w.heap.size ≤ k ∧ k < g) w' g l 0 ∧ Ext w w' := by
  have H := Lib.hid h
  have HB := Lib.hid hb
  clear h hb
  go_enter Try.func60, Try.ntmps60
  go_wp2_with (go_at_call 88; refine (cloneB_any _ _ _ _ _ _ H.out hl).mono ?_; rintro e w' ⟨A', n', cap', rfl, h', he⟩)
  go_ret
  refine ⟨_, rfl, he.size, ⟨⟨A', n', cap', heap_alloc_new _ _, ?_⟩, HB.out⟩, he.alloc _⟩
  exact ((h'.inside fun x => by rw [eI_len]; decide).ext ((Ext.refl _).alloc _)).mono fun k hk => by have := hk.1; have := hk.2; exact ⟨by omega, by omega, by omega⟩

/-- A number that is read: the number, what is left, the error. -/
def uptoI (l : List Int) (er : Int) (k : Nat) (most : Int) : Int × List Int × Int :=
  if er = 0 then (if l.length < k then (0, [], 3) else if most < numB (l.take k) then (0, [], 4) else (numB (l.take k), l.drop k, 0)) else (0, l, er)
def getI (l : List Int) (er : Int) (k : Nat) : Int × List Int × Int :=
  if er = 0 then (if l.length < k then (0, [], 3) else (numB (l.take k), l.drop k, 0)) else (0, l, er)

/-- A number comes back; the reader at g is so. -/
def InNum (R : Nat → Prop) (g : Nat) (w : World) (r : Int × List Int × Int) (e : Ending) (w' : World) : Prop := e = .returned (.int .u64 r.1) ∧ InAt R w' g r.2.1 r.2.2 ∧ Mut g w w'

theorem known_any (k : Nat) (w : World) (h1 : 1 ≤ k) (h8 : k ≤ 8) : Calls Try.prog 89 #[.int .i64 k] w fun e w' => e = .returned (.bool true) ∧ w = w' := by
  have h1' : (1 : Int) ≤ (k : Int) := by omega
  have h8' : (k : Int) ≤ 8 := by omega
  go_enter Try.func89, Try.ntmps89
  go_wp2
  go_ret
  exact ⟨rfl, rfl⟩

set_option maxHeartbeats 400000 in
theorem upto_any {R : Nat → Prop} (g : Nat) (l : List Int) (er : Int) (k : Nat) (most : Int) (w : World) (h : InAt R w g l er) (h1 : 1 ≤ k) (h8 : k ≤ 8) :
    Calls Try.prog 61 #[.pointer (some ⟨g, 0, none⟩), .int .i64 k, .int .u64 most] w (InNum R g w (uptoI l er k most)) := by
  obtain ⟨A, n, cap, hx1, hx2⟩ := h.ex
  have c1 := cell_of_heap hx1 1
  simp only [List.getElem?_toArray, List.getElem?_cons_zero, List.getElem?_cons_succ] at c1
  have H := Lib.hid h
  have HB := Lib.hid h.bt
  clear h hx1 hx2
  by_cases he : er = 0
  · subst he
    by_cases hl : l.length < k
    · have E : uptoI l 0 k most = (0, [], 3) := by simp [uptoI, hl]
      rw [E]
      go_enter Try.func61, Try.ntmps61
      go_wp2_with (first
        | (go_at_call 89; refine (known_any _ _ h1 h8).mono ?_; rintro e w' ⟨rfl, rfl⟩)
        | (go_at_call 91; refine (next_short _ _ _ _ H.out hl).mono ?_; rintro e w' ⟨rfl, hi, hm⟩))
      go_ret
      exact ⟨rfl, hi, hm⟩
    · by_cases hm : most < numB (l.take k)
      · have E : uptoI l 0 k most = (0, [], 4) := by simp [uptoI, hl, hm]
        rw [E]
        go_enter Try.func61, Try.ntmps61
        go_wp2_with (first
          | (go_at_call 89; refine (known_any _ _ h1 h8).mono ?_; rintro e w' ⟨rfl, rfl⟩)
          | (go_at_call 91; refine (next_ok _ _ _ _ H.out (by omega)).mono ?_; rintro e w1 ⟨A1, n1, cap1, rfl, hs1, hi1, hm1⟩)
          | (go_at_call 92; refine (number_any _ _ _ _ _ _ hs1 (by rw [List.length_take]; omega) (HB.out.take _)).mono ?_; rintro e w' ⟨rfl, rfl⟩)
          | (go_at_call 90; refine (ifail_any _ _ _ _ hi1).mono ?_; rintro e w2 ⟨rfl, hi2, hm2⟩))
        go_ret
        exact ⟨rfl, hi2, hm1.trans hm2⟩
      · have E : uptoI l 0 k most = (numB (l.take k), l.drop k, 0) := by simp [uptoI, hl, hm]
        rw [E]
        go_enter Try.func61, Try.ntmps61
        go_wp2_with (first
          | (go_at_call 89; refine (known_any _ _ h1 h8).mono ?_; rintro e w' ⟨rfl, rfl⟩)
          | (go_at_call 91; refine (next_ok _ _ _ _ H.out (by omega)).mono ?_; rintro e w1 ⟨A1, n1, cap1, rfl, hs1, hi1, hm1⟩)
          | (go_at_call 92; refine (number_any _ _ _ _ _ _ hs1 (by rw [List.length_take]; omega) (HB.out.take _)).mono ?_; rintro e w' ⟨rfl, rfl⟩))
        go_ret
        exact ⟨rfl, hi1, hm1⟩
  · have e0 : (er != 0) = true := by simp [he]
    have E : uptoI l er k most = (0, l, er) := by simp [uptoI, he]
    rw [E]
    clear he
    go_enter Try.func61, Try.ntmps61
    go_wp2
    go_ret
    exact ⟨rfl, H.out, Mut.refl _ _⟩

theorem upto_get {l : List Int} (hb : Bt l) (er : Int) (k : Nat) (h8 : k ≤ 8) (most : Int) (hm : most = 18446744073709551615) : uptoI l er k most = getI l er k := by
  unfold uptoI getI
  split
  · split
    · rfl
    · have h1 := numB_bd _ (hb.take k)
      rename_i hk
      have h2 : (l.take k).length = k := by rw [List.length_take]; omega
      rw [h2] at h1
      have h3 : k = 0 ∨ k = 1 ∨ k = 2 ∨ k = 3 ∨ k = 4 ∨ k = 5 ∨ k = 6 ∨ k = 7 ∨ k = 8 := by omega
      have h4 : numB (l.take k) < 18446744073709551616 := by
        rcases h3 with h3 | h3 | h3 | h3 | h3 | h3 | h3 | h3 | h3 <;> rw [h3] at h1 ⊢ <;> omega
      rw [if_neg (by omega)]
  · rfl

set_option maxHeartbeats 400000 in
theorem iget_any {R : Nat → Prop} (g : Nat) (l : List Int) (er : Int) (k : Nat) (w : World) (h : InAt R w g l er) (h1 : 1 ≤ k) (h8 : k ≤ 8) :
    Calls Try.prog 62 #[.pointer (some ⟨g, 0, none⟩), .int .i64 k] w (InNum R g w (getI l er k)) := by
  have H := Lib.hid h
  clear h
  go_enter Try.func62, Try.ntmps62
  go_wp2_with (go_at_call 61; refine (upto_any _ _ _ _ _ _ H.out h1 h8).mono ?_; rintro e w' ⟨rfl, hi, hm⟩)
  go_ret
  rw [upto_get H.out.bt er k h8 _ rfl] at hi ⊢
  exact ⟨rfl, hi, hm⟩

/-- Bytes that are read: the bytes, what is left, the error. -/
def rawI (l : List Int) (er : Int) (k : Nat) : List Int × List Int × Int :=
  if er = 0 then (if l.length < k then ([], [], 3) else (l.take k, l.drop k, 0)) else ([], l, er)
/-- Bytes come back, in new memory; the reader at g is so. -/
def InBytes (R : Nat → Prop) (g : Nat) (w : World) (r : List Int × List Int × Int) (e : Ending) (w' : World) : Prop :=
  ∃ A n cap, e = .returned (.slice A n cap) ∧ Sl (eI .u8) 1 (fun k => w.heap.size ≤ k) w' A n cap r.1 ∧ InAt R w' g r.2.1 r.2.2 ∧ Mut g w w'

set_option maxHeartbeats 400000 in
theorem iraw_any {R : Nat → Prop} (g : Nat) (l : List Int) (er : Int) (k : Nat) (w : World) (h : InAt R w g l er) (h8 : k ≤ 1048576) :
    Calls Try.prog 93 #[.pointer (some ⟨g, 0, none⟩), .int .i64 k] w (InBytes R g w (rawI l er k)) := by
  have H := Lib.hid h
  clear h
  have k0 : (0 : Int) ≤ (k : Int) := by omega
  by_cases he : er = 0
  · subst he
    by_cases hl : l.length < k
    · have E : rawI l 0 k = ([], [], 3) := by simp [rawI, hl]
      rw [E]
      go_enter Try.func93, Try.ntmps93
      go_wp2_with (go_at_call 91; refine (next_short _ _ _ _ H.out hl).mono ?_; rintro e w' ⟨rfl, hi, hm⟩)
      go_ret
      exact ⟨none, 0, 0, rfl, Sl.nil _ _ _ _ (by decide), hi, hm⟩
    · have E : rawI l 0 k = (l.take k, l.drop k, 0) := by simp [rawI, hl]
      rw [E]
      go_enter Try.func93, Try.ntmps93
      go_wp2_with (first
          | (go_at_call 91; refine (next_ok _ _ _ _ H.out (by omega)).mono ?_; rintro e w1 ⟨A1, n1, cap1, rfl, hs1, hi1, hm1⟩)
          | (go_at_call 88; refine (cloneB_any _ _ _ _ _ _ hs1 (by rw [List.length_take]; omega)).mono ?_; rintro e w2 ⟨A2, n2, cap2, rfl, hs2, he2⟩))
      go_ret
      exact ⟨A2, n2, cap2, rfl, hs2.mono fun j hj => Nat.le_trans hm1.size hj, hi1.ext he2, hm1.trans (he2.mut g)⟩
  · have E : rawI l er k = ([], l, er) := by simp [rawI, he]
    rw [E]
    go_enter Try.func93, Try.ntmps93
    go_wp2_with (go_at_call 91; refine (next_bad _ _ _ _ _ H.out he).mono ?_; rintro e w' ⟨rfl, hi, hm⟩)
    go_ret
    exact ⟨none, 0, 0, rfl, Sl.nil _ _ _ _ (by decide), hi, hm⟩

/-- A text: its number ahead. -/
def textI (l : List Int) (er : Int) (most : Int) : List Int × List Int × Int :=
  if er = 0 then (if l.length < 2 then ([], [], 3) else if most < numB (l.take 2) then ([], [], 6) else rawI (l.drop 2) 0 (numB (l.take 2)).toNat) else ([], l, er)
theorem num2 {l : List Int} (hb : Bt l) : 0 ≤ numB (l.take 2) ∧ numB (l.take 2) < 65536 := by
  have h := numB_bd _ (hb.take 2)
  have h1 : (l.take 2).length = 0 ∨ (l.take 2).length = 1 ∨ (l.take 2).length = 2 := by rw [List.length_take]; omega
  rcases h1 with h1 | h1 | h1 <;> rw [h1] at h <;> omega

set_option maxHeartbeats 800000 in
theorem itext_any {R : Nat → Prop} (g : Nat) (l : List Int) (er : Int) (most : Int) (w : World) (h : InAt R w g l er) :
    Calls Try.prog 63 #[.pointer (some ⟨g, 0, none⟩), .int .i64 most] w (InBytes R g w (textI l er most)) := by
  have hb := h.bt
  obtain ⟨b0, b1⟩ := num2 hb
  have H := Lib.hid h
  have HB := Lib.hid hb
  clear h hb
  by_cases he : er = 0
  · subst he
    by_cases hl : l.length < 2
    · have E : textI l 0 most = ([], [], 3) := by simp [textI, hl]
      rw [E]
      go_enter Try.func63, Try.ntmps63
      go_wp2_with (go_at_call 91; refine (next_short _ _ 2 _ H.out hl).mono ?_; rintro e w' ⟨rfl, hi, hm⟩)
      go_ret
      exact ⟨none, 0, 0, rfl, Sl.nil _ _ _ _ (by decide), hi, hm⟩
    · by_cases hm : most < numB (l.take 2)
      · have E : textI l 0 most = ([], [], 6) := by simp [textI, hl, hm]
        rw [E]
        go_enter Try.func63, Try.ntmps63
        go_wp2_with (first
          | (go_at_call 91; refine (next_ok _ _ 2 _ H.out (by omega)).mono ?_; rintro e w1 ⟨A1, n1, cap1, rfl, hs1, hi1, hm1⟩)
          | (go_at_call 92; refine (number_any _ _ _ _ _ _ hs1 (by rw [List.length_take]; omega) (HB.out.take _)).mono ?_; rintro e w' ⟨rfl, rfl⟩)
          | (go_at_call 90; refine (ifail_any _ _ _ _ hi1).mono ?_; rintro e w2 ⟨rfl, hi2, hm2⟩))
        go_ret
        exact ⟨none, 0, 0, rfl, Sl.nil _ _ _ _ (by decide), hi2, hm1.trans hm2⟩
      · obtain ⟨j, hj⟩ : ∃ j : Nat, numB (l.take 2) = (j : Int) := ⟨(numB (l.take 2)).toNat, by omega⟩
        have E : textI l 0 most = rawI (l.drop 2) 0 j := by unfold textI; rw [if_pos rfl, if_neg hl, if_neg hm, hj, Int.toNat_natCast]
        rw [E]
        have HJ := Lib.hid hj
        have hj1 : j ≤ 1048576 := by omega
        have hm' : ¬ most < (j : Int) := by omega
        clear hj hm b0 b1 E
        go_enter Try.func63, Try.ntmps63
        go_wp2_with (first
          | (go_at_call 91; refine (next_ok _ _ 2 _ H.out (by omega)).mono ?_; rintro e w1 ⟨A1, n1, cap1, rfl, hs1, hi1, hm1⟩)
          | (go_at_call 92; refine (number_any _ _ _ _ _ _ hs1 (by rw [List.length_take]; omega) (HB.out.take _)).mono ?_; rintro e w' ⟨rfl, rfl⟩; rw [HJ.out])
          | (go_at_call 93; refine (iraw_any _ _ _ _ _ hi1 hj1).mono ?_; rintro e w2 ⟨A2, n2, cap2, rfl, hs2, hi2, hm2⟩))
        go_ret
        exact ⟨A2, n2, cap2, rfl, hs2.mono fun j hj => Nat.le_trans hm1.size hj, hi2, hm1.trans hm2⟩
  · have E : textI l er most = ([], l, er) := by simp [textI, he]
    rw [E]
    go_enter Try.func63, Try.ntmps63
    go_wp2_with (go_at_call 91; refine (next_bad _ _ _ 2 _ H.out he).mono ?_; rintro e w' ⟨rfl, hi, hm⟩)
    go_ret
    exact ⟨none, 0, 0, rfl, Sl.nil _ _ _ _ (by decide), hi, hm⟩
end Go.Proofs.Ytdocdppimpapiaa
