/-
  catenaryref01, reading: contracts, in the words of the package fix.
-/
import Derived.Test.YtdocdppimpapiaaFixPut
namespace Go.Proofs.Ytdocdppimpapiaa
open Go.RowKit

set_option maxHeartbeats 400000 in
theorem rfail_any (A : Option Addr) (n cap : Nat) (c : Int) (w : World) :
    Calls Try.prog 95 #[.agg #[.slice A n cap, .int .i64 0], .int .i64 c] w fun e w' => e = .returned (.agg #[.slice none 0 0, .int .i64 c]) ∧ Ext w w' := by
  go_enter Try.func95, Try.ntmps95
  go_wp2
  refine bodyPost_ret (v := .agg #[.slice none 0 0, .int .i64 c]) (by simp [results, Try.results95, go_sem]) rfl ⟨rfl, ?_⟩
  (repeat (first | exact Ext.refl _ | assumption | refine Ext.alloc ?_ _ | refine Ext.drew ?_ | refine Ext.drewN ?_ _ | refine Ext.setCell ?_ (by simp) _ | (refine Ext.trans ?_ (by assumption))))

theorem mul_byte {a x : Int} (h0 : 0 ≤ a) (h1 : a < 72057594037927936) (h2 : 0 ≤ x) (h3 : x < 256) : IntKind.u64.wrap (IntKind.u64.wrap (a * 256) + IntKind.u64.wrap x) = a * 256 + x := by
  rw [wrap_u64 (x := a * 256) (by omega) (by omega), wrap_u64 (x := x) (by omega) (by omega), wrap_u64 (by omega) (by omega)]

theorem numB_next2 {l : List Int} (hb : Bt l) {k : Nat} {x : Int} (hx : l[k]? = some x) (hk : k ≤ 7) :
    IntKind.u64.wrap (IntKind.u64.wrap (numB (l.take k) * 256) + IntKind.u64.wrap x) = numB (l.take (k + 1)) := by
  have hkl : k < l.length := by
    rcases Nat.lt_or_ge k l.length with h1 | h1
    · exact h1
    · rw [List.getElem?_eq_none h1] at hx; cases hx
  have ht : Bt (l.take k) := fun y hy => hb y (List.mem_of_mem_take hy)
  have hxx := hb x (List.mem_of_getElem? hx)
  rw [mul_byte (numB_bd _ ht).1 (numB_lt ht (by rw [List.length_take]; omega)) hxx.1 hxx.2, List.take_add_one, hx, Option.toList_some, numB_snoc]

set_option maxHeartbeats 400000 in
theorem num01_any (A : Option Addr) (n cap : Nat) (l : List Int) (Q : Nat → Prop) (w : World) (h : Sl (eI .u8) 1 Q w A n cap l) (hl : l.length ≤ 8) (hb : Bt l) :
    Calls Try.prog 97 #[.slice A n cap] w fun e w' => e = .returned (.int .u64 (numB l)) ∧ w = w' := by
  have hn : n ≤ 8 := by rw [h.len]; exact hl
  have H := Lib.hid h
  have HB := Lib.hid hb
  clear h hb
  go_enter Try.func97, Try.ntmps97
  go_wp2
  go_loop [3, 4] (fun s i => ∃ k : Nat, k ≤ n ∧ i = .int .i64 k ∧ s = .int .u64 (numB (l.take k))) (fun _ i => n - (intOf i).toNat)
  case atStart => exact ⟨0, Nat.zero_le _, rfl, rfl⟩
  case round =>
    obtain ⟨k, hk, rfl, rfl⟩ := hrel
    by_cases hlt : k < n
    · obtain ⟨b, off, x, rfl, hx, _, hbl, hc⟩ := H.out.num k hlt
      have hX := Lib.hid hx
      clear hx
      go_wp2
      refine ⟨⟨k + 1, by omega, by go_num, ?_⟩, by simp [intOf]; omega⟩
      rw [numB_next2 HB.out hX.out (by omega)]
    · go_wp2
      go_ret
      have h := H.out
      exact ⟨ret_int (by rw [List.take_of_length_le (by rw [← h.len]; omega)]), rfl⟩

/-- A reader by value, and bytes, come back. -/
def RetIB (Q : Nat → Prop) (r : List Int × List Int × Int) (w : World) (e : Ending) (w' : World) : Prop :=
  ∃ A n cap B m c, e = .returned (.tuple #[.agg #[.slice A n cap, .int .i64 r.2.2], .slice B m c]) ∧ Sl (eI .u8) 1 Q w' A n cap r.2.1 ∧ Sl (eI .u8) 1 Q w' B m c r.1 ∧ Ext w w'
/-- A reader by value, and a number, come back. -/
def RetIN (Q : Nat → Prop) (r : Int × List Int × Int) (w : World) (e : Ending) (w' : World) : Prop :=
  ∃ A n cap, e = .returned (.tuple #[.agg #[.slice A n cap, .int .i64 r.2.2], .int .u64 r.1]) ∧ Sl (eI .u8) 1 Q w' A n cap r.2.1 ∧ Ext w w'

set_option maxHeartbeats 800000 in
theorem raw01_any (A : Option Addr) (n cap : Nat) (l : List Int) (er : Int) (k : Nat) (Q : Nat → Prop) (w : World) (h : Sl (eI .u8) 1 Q w A n cap l) :
    Calls Try.prog 96 #[.agg #[.slice A n cap, .int .i64 er], .int .i64 k] w (RetIB Q (rawI l er k) w) := by
  have hn := h.le
  have hm := h.mx
  have HL := Lib.hid h.len
  have H := Lib.hid h
  have k0 : (0 : Int) ≤ (k : Int) := by omega
  clear h
  by_cases he : er = 0
  · subst he
    by_cases hk : n < k
    · have E : rawI l 0 k = ([], [], 3) := by unfold rawI; rw [if_pos rfl, if_pos (by rw [← HL.out]; exact hk)]
      rw [E]
      go_enter Try.func96, Try.ntmps96
      go_wp2_with (go_at_call 95; refine (rfail_any _ _ _ _ _).mono ?_; rintro e w1 ⟨rfl, he1⟩; obtain ⟨hc, hf, hz⟩ := ecell3 he1)
      refine bodyPost_ret (v := .tuple #[.agg #[.slice none 0 0, .int .i64 3], .slice none 0 0]) (by simp [results, Try.results96, go_sem, hc, hz]) rfl ⟨none, 0, 0, none, 0, 0, rfl, Sl.nil _ _ none 0 (Nat.zero_le _), Sl.nil _ _ none 0 (Nat.zero_le _), ?_⟩
      (repeat (first | exact Ext.refl _ | assumption | refine Ext.alloc ?_ _ | refine Ext.drew ?_ | refine Ext.drewN ?_ _ | refine Ext.setCell ?_ (by simp) _ | (refine Ext.trans ?_ (by assumption))))
    · have E : rawI l 0 k = (l.take k, l.drop k, 0) := by unfold rawI; rw [if_pos rfl, if_neg (by rw [← HL.out]; exact hk)]
      rw [E]
      have hd := H.out.drop k (by omega)
      have ht := H.out.take k (by omega) cap (by omega) hm
      rw [Nat.mul_one] at hd
      by_cases hck : cap = k
      · subst hck
        obtain rfl : n = cap := by omega
        rw [if_pos rfl, Nat.sub_self] at hd
        have HD := Lib.hid hd
        have HT := Lib.hid ht
        clear hd ht
        go_enter Try.func96, Try.ntmps96
        go_wp2
        go_region
        go_wp2
        refine bodyPost_ret (v := .tuple #[.agg #[.slice _ _ _, .int .i64 0], .slice _ _ _]) (by simp [results, Try.results96, go_sem]) rfl ⟨_, _, _, _, _, _, rfl, HD.out.ext ?_, HT.out.ext ?_, ?_⟩
        · (repeat (first | exact Ext.refl _ | assumption | refine Ext.alloc ?_ _ | refine Ext.drew ?_ | refine Ext.drewN ?_ _ | refine Ext.setCell ?_ (by simp) _ | (refine Ext.trans ?_ (by assumption))))
        · (repeat (first | exact Ext.refl _ | assumption | refine Ext.alloc ?_ _ | refine Ext.drew ?_ | refine Ext.drewN ?_ _ | refine Ext.setCell ?_ (by simp) _ | (refine Ext.trans ?_ (by assumption))))
        · (repeat (first | exact Ext.refl _ | assumption | refine Ext.alloc ?_ _ | refine Ext.drew ?_ | refine Ext.drewN ?_ _ | refine Ext.setCell ?_ (by simp) _ | (refine Ext.trans ?_ (by assumption))))
      · rw [if_neg hck] at hd
        have HD := Lib.hid hd
        have HT := Lib.hid ht
        clear hd ht
        go_enter Try.func96, Try.ntmps96
        go_wp2
        go_region
        go_wp2
        refine bodyPost_ret (v := .tuple #[.agg #[.slice _ _ _, .int .i64 0], .slice _ _ _]) (by simp [results, Try.results96, go_sem]) rfl ⟨_, _, _, _, _, _, rfl, HD.out.ext ?_, HT.out.ext ?_, ?_⟩
        · (repeat (first | exact Ext.refl _ | assumption | refine Ext.alloc ?_ _ | refine Ext.drew ?_ | refine Ext.drewN ?_ _ | refine Ext.setCell ?_ (by simp) _ | (refine Ext.trans ?_ (by assumption))))
        · (repeat (first | exact Ext.refl _ | assumption | refine Ext.alloc ?_ _ | refine Ext.drew ?_ | refine Ext.drewN ?_ _ | refine Ext.setCell ?_ (by simp) _ | (refine Ext.trans ?_ (by assumption))))
        · (repeat (first | exact Ext.refl _ | assumption | refine Ext.alloc ?_ _ | refine Ext.drew ?_ | refine Ext.drewN ?_ _ | refine Ext.setCell ?_ (by simp) _ | (refine Ext.trans ?_ (by assumption))))
  · have E : rawI l er k = ([], l, er) := by simp [rawI, he]
    have e0 : (er != 0) = true := by simp [he]
    rw [E]
    clear he
    go_enter Try.func96, Try.ntmps96
    go_wp2
    refine bodyPost_ret (v := .tuple #[.agg #[.slice A n cap, .int .i64 er], .slice none 0 0]) (by simp [results, Try.results96, go_sem]) rfl ⟨A, n, cap, none, 0, 0, rfl, H.out.ext ?_, Sl.nil _ _ none 0 (Nat.zero_le _), ?_⟩
    · (repeat (first | exact Ext.refl _ | assumption | refine Ext.alloc ?_ _ | refine Ext.drew ?_ | refine Ext.drewN ?_ _ | refine Ext.setCell ?_ (by simp) _ | (refine Ext.trans ?_ (by assumption))))
    · (repeat (first | exact Ext.refl _ | assumption | refine Ext.alloc ?_ _ | refine Ext.drew ?_ | refine Ext.drewN ?_ _ | refine Ext.setCell ?_ (by simp) _ | (refine Ext.trans ?_ (by assumption))))

set_option maxHeartbeats 800000 in
theorem upto01_any (A : Option Addr) (n cap : Nat) (l : List Int) (er : Int) (k : Nat) (most : Int) (Q : Nat → Prop) (w : World) (h : Sl (eI .u8) 1 Q w A n cap l) (hb : Bt l) (h1 : 1 ≤ k) (h8 : k ≤ 8) :
    Calls Try.prog 65 #[.agg #[.slice A n cap, .int .i64 er], .int .i64 k, .int .u64 most] w (RetIN Q (uptoI l er k most) w) := by
  have H := Lib.hid h.in'
  have HB := Lib.hid hb
  have k1 : (1 : Int) ≤ (k : Int) := by omega
  have k8 : (k : Int) ≤ 8 := by omega
  clear h hb
  by_cases he : er = 0
  · subst he
    by_cases hl : l.length < k
    · have E : uptoI l 0 k most = (0, [], 3) := by simp [uptoI, hl]
      have E2 : rawI l 0 k = ([], [], 3) := by simp [rawI, hl]
      rw [E]
      have HE := Lib.hid E2
      clear E E2
      go_enter Try.func65, Try.ntmps65
      go_wp2_with (go_at_call 96; refine (raw01_any _ _ _ _ _ _ _ _ (H.out.ext (((Ext.refl _).alloc _).alloc _))).mono ?_; rintro e w1 ⟨A1, n1, c1, B1, m1, d1, rfl, hs1, hb1, he1⟩; rw [HE.out] at hs1 ⊢; obtain ⟨hc, hf, hz⟩ := ecell3 he1; have hzn : (w1.heap.size ≤ w.heap.size + 1) = False := eq_false (by have := he1.size; simp at this; omega); have HZ := Lib.hid hzn; clear hzn)
      refine bodyPost_ret (v := .tuple #[.agg #[.slice A1 n1 c1, .int .i64 3], .int .u64 0]) (by simp [results, Try.results65, go_sem, hc, hz, HZ.out]) rfl ⟨A1, n1, c1, rfl, hs1.via (a := w) ?_ ?_, ?_⟩
      · (repeat (first | exact Ext.refl _ | assumption | refine Ext.alloc ?_ _ | refine Ext.drew ?_ | refine Ext.drewN ?_ _ | refine Ext.setCell ?_ (by simp) _ | (refine Ext.trans ?_ (by assumption))))
      · (repeat (first | exact Ext.refl _ | assumption | refine Ext.alloc ?_ _ | refine Ext.drew ?_ | refine Ext.drewN ?_ _ | refine Ext.setCell ?_ (by simp) _ | (refine Ext.trans ?_ (by assumption))))
      · (repeat (first | exact Ext.refl _ | assumption | refine Ext.alloc ?_ _ | refine Ext.drew ?_ | refine Ext.drewN ?_ _ | refine Ext.setCell ?_ (by simp) _ | (refine Ext.trans ?_ (by assumption))))
    · have E2 : rawI l 0 k = (l.take k, l.drop k, 0) := by simp [rawI, hl]
      have hlk : (l.take k).length ≤ 8 := by rw [List.length_take]; omega
      by_cases hm : most < numB (l.take k)
      · have E : uptoI l 0 k most = (0, [], 4) := by simp [uptoI, hl, hm]
        rw [E]
        have HE := Lib.hid E2
        clear E E2
        go_enter Try.func65, Try.ntmps65
        go_wp2_with (first
          | (go_at_call 96; refine (raw01_any _ _ _ _ _ _ _ _ (H.out.ext (((Ext.refl _).alloc _).alloc _))).mono ?_; rintro e w1 ⟨A1, n1, c1, B1, m1, d1, rfl, hs1, hb1, he1⟩; rw [HE.out] at hs1 ⊢; obtain ⟨hc, hf, hz⟩ := ecell3 he1; have HS := Lib.hid hs1; clear hs1; have hzn : (w1.heap.size ≤ w.heap.size + 1) = False := eq_false (by have := he1.size; simp at this; omega); have HZ := Lib.hid hzn; clear hzn; rw [HE.out] at hb1; have HB1 := Lib.hid hb1; clear hb1)
          | (go_at_call 97; refine (num01_any _ _ _ _ _ _ (HB1.out.ext ((Ext.refl _).alloc _)) hlk (HB.out.take _)).mono ?_; rintro e w2 ⟨rfl, rfl⟩)
          | (go_at_call 95; refine (rfail_any _ _ _ _ _).mono ?_; rintro e w2 ⟨rfl, he2⟩; have hb6 := ((he1.alloc _).trans he2).heap (heap_new2 w _ _); have a0 := cell_of_heap hb6 0; have a1 := cell_of_heap hb6 1; have b0 := free_of_heap hb6 0; have b1 := free_of_heap hb6 1; simp only [List.getElem?_toArray, List.getElem?_cons_zero, List.getElem?_cons_succ] at a0 a1; clear hb6))
        refine bodyPost_ret (v := .tuple #[.agg #[.slice none 0 0, .int .i64 4], .int .u64 0]) (by simp [results, Try.results65, go_sem, a0, a1]) rfl ⟨none, 0, 0, rfl, Sl.nil _ _ none 0 (Nat.zero_le _), ?_⟩
        (repeat (first | exact Ext.refl _ | assumption | refine Ext.alloc ?_ _ | refine Ext.drew ?_ | refine Ext.drewN ?_ _ | refine Ext.setCell ?_ (by simp) _ | (refine Ext.trans ?_ (by assumption))))
      · have E : uptoI l 0 k most = (numB (l.take k), l.drop k, 0) := by simp [uptoI, hl, hm]
        rw [E]
        have HE := Lib.hid E2
        clear E E2
        go_enter Try.func65, Try.ntmps65
        go_wp2_with (first
          | (go_at_call 96; refine (raw01_any _ _ _ _ _ _ _ _ (H.out.ext (((Ext.refl _).alloc _).alloc _))).mono ?_; rintro e w1 ⟨A1, n1, c1, B1, m1, d1, rfl, hs1, hb1, he1⟩; rw [HE.out] at hs1 ⊢; obtain ⟨hc, hf, hz⟩ := ecell3 he1; have HS := Lib.hid hs1; clear hs1; have hzn : (w1.heap.size ≤ w.heap.size + 1) = False := eq_false (by have := he1.size; simp at this; omega); have HZ := Lib.hid hzn; clear hzn; rw [HE.out] at hb1; have HB1 := Lib.hid hb1; clear hb1)
          | (go_at_call 97; refine (num01_any _ _ _ _ _ _ (HB1.out.ext ((Ext.refl _).alloc _)) hlk (HB.out.take _)).mono ?_; rintro e w2 ⟨rfl, rfl⟩))
        have q0 : (w1.alloc (.cells #[.slice A1 n1 c1, .int .i64 0] 108)).cell? ⟨w1.heap.size, 0, none⟩ = some (.slice A1 n1 c1) := cell_new w1 _ _ 0 (0, 0) rfl
        have q1 : (w1.alloc (.cells #[.slice A1 n1 c1, .int .i64 0] 108)).cell? ⟨w1.heap.size, 1, none⟩ = some (.int .i64 0) := cell_new w1 _ _ 1 (0, 0) rfl
        have hzn : w1.heap.size ≠ w.heap.size + 1 := fun e => by have := he1.size; simp at this; omega
        go_region_held3 (fun W => W.cell? ⟨w1.heap.size, 0, none⟩ = some (.slice A1 n1 c1) ∧ W.cell? ⟨w1.heap.size, 1, none⟩ = some (.int .i64 0))
          (first | exact ⟨q0, q1⟩ | (refine ⟨?_, ?_⟩ <;> (rw [cell_drew]; exact cell_new' _ _ (by simp) _ _ _ _ rfl)) | go_keep)
          (first | (go_at_call 97; refine (num01_any _ _ _ _ _ _ (HB1.out.ext (((Ext.refl _).alloc _).drew)) hlk (HB.out.take _)).mono ?_; rintro e w2 ⟨rfl, rfl⟩))
        go_wp2
        have HZ' := HZ.out
        refine bodyPost_ret (v := .tuple #[.agg #[.slice A1 n1 c1, .int .i64 0], .int .u64 (numB (l.take k))]) (by simp [results, Try.results65, go_sem, hc, hz, HZ']) rfl ⟨A1, n1, c1, rfl, HS.out.via (a := w) ?_ ?_, ?_⟩
        · (repeat (first | exact Ext.refl _ | assumption | refine Ext.alloc ?_ _ | refine Ext.drew ?_ | refine Ext.drewN ?_ _ | refine Ext.setCell ?_ (by simp) _ | (refine Ext.trans ?_ (by assumption))))
        · (repeat (first | exact Ext.refl _ | assumption | refine Ext.alloc ?_ _ | refine Ext.drew ?_ | refine Ext.drewN ?_ _ | refine Ext.setCell ?_ (by simp) _ | (refine Ext.trans ?_ (by assumption))))
        · (repeat (first | exact Ext.refl _ | assumption | refine Ext.alloc ?_ _ | refine Ext.drew ?_ | refine Ext.drewN ?_ _ | refine Ext.setCell ?_ (by simp) _ | (refine Ext.trans ?_ (by assumption))))
  · have e0 : (er != 0) = true := by simp [he]
    have E : uptoI l er k most = (0, l, er) := by simp [uptoI, he]
    have E2 : rawI l er k = ([], l, er) := by simp [rawI, he]
    rw [E]
    have HE := Lib.hid E2
    clear E E2 he
    go_enter Try.func65, Try.ntmps65
    go_wp2_with (go_at_call 96; refine (raw01_any _ _ _ _ _ _ _ _ (H.out.ext (((Ext.refl _).alloc _).alloc _))).mono ?_; rintro e w1 ⟨A1, n1, c1, B1, m1, d1, rfl, hs1, hb1, he1⟩; rw [HE.out] at hs1 ⊢; obtain ⟨hc, hf, hz⟩ := ecell3 he1; have HS := Lib.hid hs1; clear hs1; have hzn : (w1.heap.size ≤ w.heap.size + 1) = False := eq_false (by have := he1.size; simp at this; omega); have HZ := Lib.hid hzn; clear hzn)
    refine bodyPost_ret (v := .tuple #[.agg #[.slice A1 n1 c1, .int .i64 er], .int .u64 0]) (by simp [results, Try.results65, go_sem, hc, hz, HZ.out]) rfl ⟨A1, n1, c1, rfl, HS.out.via (a := w) ?_ ?_, ?_⟩
    · (repeat (first | exact Ext.refl _ | assumption | refine Ext.alloc ?_ _ | refine Ext.drew ?_ | refine Ext.drewN ?_ _ | refine Ext.setCell ?_ (by simp) _ | (refine Ext.trans ?_ (by assumption))))
    · (repeat (first | exact Ext.refl _ | assumption | refine Ext.alloc ?_ _ | refine Ext.drew ?_ | refine Ext.drewN ?_ _ | refine Ext.setCell ?_ (by simp) _ | (refine Ext.trans ?_ (by assumption))))
    · (repeat (first | exact Ext.refl _ | assumption | refine Ext.alloc ?_ _ | refine Ext.drew ?_ | refine Ext.drewN ?_ _ | refine Ext.setCell ?_ (by simp) _ | (refine Ext.trans ?_ (by assumption))))

set_option maxHeartbeats 800000 in
theorem get01_any (A : Option Addr) (n cap : Nat) (l : List Int) (er : Int) (k : Nat) (Q : Nat → Prop) (w : World) (h : Sl (eI .u8) 1 Q w A n cap l) (hb : Bt l) (h1 : 1 ≤ k) (h8 : k ≤ 8) :
    Calls Try.prog 66 #[.agg #[.slice A n cap, .int .i64 er], .int .i64 k] w (RetIN Q (getI l er k) w) := by
  have H := Lib.hid h.in'
  have HB := Lib.hid hb
  clear h hb
  go_enter Try.func66, Try.ntmps66
  go_wp2_with (go_at_call 65; refine (upto01_any _ _ _ _ _ _ _ _ _ (H.out.ext (((Ext.refl _).alloc _).alloc _)) HB.out h1 h8).mono ?_; rintro e w1 ⟨A1, n1, c1, rfl, hs1, he1⟩; rw [upto_get HB.out er k h8 _ rfl] at hs1 ⊢; obtain ⟨hc, hf, hz⟩ := ecell3 he1; have HS := Lib.hid hs1; clear hs1)
  refine bodyPost_ret (v := .tuple #[.agg #[.slice A1 n1 c1, .int .i64 (getI l er k).2.2], .int .u64 (getI l er k).1]) (by simp [results, Try.results66, go_sem, hc, hz]) rfl ⟨A1, n1, c1, rfl, HS.out.via (a := w) ?_ ?_, ?_⟩
  · (repeat (first | exact Ext.refl _ | assumption | refine Ext.alloc ?_ _ | refine Ext.drew ?_ | refine Ext.drewN ?_ _ | refine Ext.setCell ?_ (by simp) _ | (refine Ext.trans ?_ (by assumption))))
  · (repeat (first | exact Ext.refl _ | assumption | refine Ext.alloc ?_ _ | refine Ext.drew ?_ | refine Ext.drewN ?_ _ | refine Ext.setCell ?_ (by simp) _ | (refine Ext.trans ?_ (by assumption))))
  · (repeat (first | exact Ext.refl _ | assumption | refine Ext.alloc ?_ _ | refine Ext.drew ?_ | refine Ext.drewN ?_ _ | refine Ext.setCell ?_ (by simp) _ | (refine Ext.trans ?_ (by assumption))))

theorem done01_any (A : Option Addr) (n cap : Nat) (l : List Int) (er : Int) (Q : Nat → Prop) (w : World) (h : Sl (eI .u8) 1 Q w A n cap l) :
    Calls Try.prog 68 #[.agg #[.slice A n cap, .int .i64 er]] w fun e w' => e = .returned (.int .i64 (doneI l er)) ∧ Ext w w' := by
  have HL := Lib.hid h.len
  clear h
  by_cases he : er = 0
  · subst he
    by_cases hl : l = []
    · subst hl
      obtain rfl : n = 0 := HL.out
      have E : doneI [] 0 = 0 := rfl
      rw [E]
      go_enter Try.func68, Try.ntmps68
      go_wp2
      go_ret
      exact ⟨rfl, by (repeat (first | exact Ext.refl _ | assumption | refine Ext.alloc ?_ _ | refine Ext.drew ?_ | refine Ext.drewN ?_ _ | refine Ext.setCell ?_ (by simp) _ | (refine Ext.trans ?_ (by assumption))))⟩
    · have E : doneI l 0 = 4 := by simp [doneI, hl]
      have hn : 0 < n := by rw [HL.out]; exact List.length_pos_iff.2 hl
      rw [E]
      clear hl
      go_enter Try.func68, Try.ntmps68
      go_wp2
      go_ret
      exact ⟨rfl, by (repeat (first | exact Ext.refl _ | assumption | refine Ext.alloc ?_ _ | refine Ext.drew ?_ | refine Ext.drewN ?_ _ | refine Ext.setCell ?_ (by simp) _ | (refine Ext.trans ?_ (by assumption))))⟩
  · have E : doneI l er = er := by simp [doneI, he]
    have e0 : (er == 0) = false := by simp [he]
    rw [E]
    clear he
    go_enter Try.func68, Try.ntmps68
    go_wp2
    go_ret
    exact ⟨rfl, by (repeat (first | exact Ext.refl _ | assumption | refine Ext.alloc ?_ _ | refine Ext.drew ?_ | refine Ext.drewN ?_ _ | refine Ext.setCell ?_ (by simp) _ | (refine Ext.trans ?_ (by assumption))))⟩

set_option maxHeartbeats 1600000 in
theorem read01_any (A : Option Addr) (n cap : Nat) (l : List Int) (er : Int) (most : Int) (Q : Nat → Prop) (w : World) (h : Sl (eI .u8) 1 Q w A n cap l) (hb : Bt l) :
    Calls Try.prog 67 #[.agg #[.slice A n cap, .int .i64 er], .int .i64 most] w (RetIB Q (textI l er most) w) := by
  obtain ⟨b0, b1⟩ := num2 hb
  have H := Lib.hid h.in'
  have HB := Lib.hid hb
  clear h hb
  by_cases he : er = 0
  · subst he
    by_cases hl : l.length < 2
    · have E : textI l 0 most = ([], [], 3) := by simp [textI, hl]
      have E2 : getI l 0 2 = (0, [], 3) := by simp [getI, hl]
      rw [E]
      have HE := Lib.hid E2
      clear E E2
      go_enter Try.func67, Try.ntmps67
      go_wp2_with (go_at_call 66; refine (get01_any _ _ _ _ _ 2 _ _ (H.out.ext (((Ext.refl _).alloc _).alloc _)) HB.out (by decide) (by decide)).mono ?_; rintro e w1 ⟨A1, n1, c1, rfl, hs1, he1⟩; rw [HE.out] at hs1 ⊢; obtain ⟨hc, hf, hz⟩ := ecell3 he1; have HS := Lib.hid hs1; clear hs1; have hzn : (w1.heap.size ≤ w.heap.size + 1) = False := eq_false (by have := he1.size; simp at this; omega); have HZ := Lib.hid hzn; clear hzn)
      refine bodyPost_ret (v := .tuple #[.agg #[.slice A1 n1 c1, .int .i64 3], .slice none 0 0]) (by simp [results, Try.results67, go_sem, hc, hz, HZ.out]) rfl ⟨A1, n1, c1, none, 0, 0, rfl, HS.out.via (a := w) ?_ ?_, Sl.nil _ _ none 0 (Nat.zero_le _), ?_⟩
      · (repeat (first | exact Ext.refl _ | assumption | refine Ext.alloc ?_ _ | refine Ext.drew ?_ | refine Ext.drewN ?_ _ | refine Ext.setCell ?_ (by simp) _ | (refine Ext.trans ?_ (by assumption))))
      · (repeat (first | exact Ext.refl _ | assumption | refine Ext.alloc ?_ _ | refine Ext.drew ?_ | refine Ext.drewN ?_ _ | refine Ext.setCell ?_ (by simp) _ | (refine Ext.trans ?_ (by assumption))))
      · (repeat (first | exact Ext.refl _ | assumption | refine Ext.alloc ?_ _ | refine Ext.drew ?_ | refine Ext.drewN ?_ _ | refine Ext.setCell ?_ (by simp) _ | (refine Ext.trans ?_ (by assumption))))
    · have E2 : getI l 0 2 = (numB (l.take 2), l.drop 2, 0) := by simp [getI, hl]
      obtain ⟨j, hj⟩ : ∃ j : Nat, numB (l.take 2) = (j : Int) := ⟨(numB (l.take 2)).toNat, by omega⟩
      rw [hj] at E2
      have hj1 : j ≤ 1048576 := by omega
      by_cases hm : most < (j : Int)
      · have E : textI l 0 most = ([], [], 6) := by unfold textI; rw [if_pos rfl, if_neg hl, if_pos (by rw [hj]; exact hm)]
        rw [E]
        have HE := Lib.hid E2
        clear E E2 hj b0 b1
        go_enter Try.func67, Try.ntmps67
        go_wp2_with (first
          | (go_at_call 66; refine (get01_any _ _ _ _ _ 2 _ _ (H.out.ext (((Ext.refl _).alloc _).alloc _)) HB.out (by decide) (by decide)).mono ?_; rintro e w1 ⟨A1, n1, c1, rfl, hs1, he1⟩; rw [HE.out] at hs1 ⊢; obtain ⟨hc, hf, hz⟩ := ecell3 he1; have HS := Lib.hid hs1; clear hs1; have hzn : (w1.heap.size ≤ w.heap.size + 1) = False := eq_false (by have := he1.size; simp at this; omega); have HZ := Lib.hid hzn; clear hzn)
          | (go_at_call 95; refine (rfail_any _ _ _ _ _).mono ?_; rintro e w2 ⟨rfl, he2⟩; have hb6 := ((he1.alloc _).trans he2).heap (heap_new2 w _ _); have a0 := cell_of_heap hb6 0; have a1 := cell_of_heap hb6 1; have b0 := free_of_heap hb6 0; have b1 := free_of_heap hb6 1; simp only [List.getElem?_toArray, List.getElem?_cons_zero, List.getElem?_cons_succ] at a0 a1; clear hb6))
        refine bodyPost_ret (v := .tuple #[.agg #[.slice none 0 0, .int .i64 6], .slice none 0 0]) (by simp [results, Try.results67, go_sem, a0, a1]) rfl ⟨none, 0, 0, none, 0, 0, rfl, Sl.nil _ _ none 0 (Nat.zero_le _), Sl.nil _ _ none 0 (Nat.zero_le _), ?_⟩
        (repeat (first | exact Ext.refl _ | assumption | refine Ext.alloc ?_ _ | refine Ext.drew ?_ | refine Ext.drewN ?_ _ | refine Ext.setCell ?_ (by simp) _ | (refine Ext.trans ?_ (by assumption))))
      · have E : textI l 0 most = rawI (l.drop 2) 0 j := by unfold textI; rw [if_pos rfl, if_neg hl, if_neg (by rw [hj]; exact hm), hj, Int.toNat_natCast]
        rw [E]
        have HE := Lib.hid E2
        clear E E2 hj b0 b1
        go_enter Try.func67, Try.ntmps67
        go_wp2_with (first
          | (go_at_call 66; refine (get01_any _ _ _ _ _ 2 _ _ (H.out.ext (((Ext.refl _).alloc _).alloc _)) HB.out (by decide) (by decide)).mono ?_; rintro e w1 ⟨A1, n1, c1, rfl, hs1, he1⟩; rw [HE.out] at hs1 ⊢; obtain ⟨hc, hf, hz⟩ := ecell3 he1; have HS := Lib.hid hs1; clear hs1; have hzn : (w1.heap.size ≤ w.heap.size + 1) = False := eq_false (by have := he1.size; simp at this; omega); have HZ := Lib.hid hzn; clear hzn)
          | (go_at_call 96; refine (raw01_any _ _ _ _ _ _ _ _ (HS.out.ext ((Ext.refl _).alloc _))).mono ?_; rintro e w2 ⟨A2, n2, c2, B2, m2, d2, rfl, hs2, hb2, he2⟩; have hb6 := ((he1.alloc _).trans he2).heap (heap_new2 w _ _); have a0 := cell_of_heap hb6 0; have a1 := cell_of_heap hb6 1; have b0 := free_of_heap hb6 0; have b1 := free_of_heap hb6 1; simp only [List.getElem?_toArray, List.getElem?_cons_zero, List.getElem?_cons_succ] at a0 a1; clear hb6))
        have HS2 := Lib.hid hs2
        have HB2 := Lib.hid hb2
        refine bodyPost_ret (v := .tuple #[.agg #[.slice A2 n2 c2, .int .i64 _], .slice B2 m2 d2]) (by simp [results, Try.results67, go_sem, a0, a1]) rfl ⟨A2, n2, c2, B2, m2, d2, rfl, HS2.out.via (a := w) ?_ ?_, HB2.out.via (a := w) ?_ ?_, ?_⟩
        · (repeat (first | exact Ext.refl _ | assumption | refine Ext.alloc ?_ _ | refine Ext.drew ?_ | refine Ext.drewN ?_ _ | refine Ext.setCell ?_ (by simp) _ | (refine Ext.trans ?_ (by assumption))))
        · (repeat (first | exact Ext.refl _ | assumption | refine Ext.alloc ?_ _ | refine Ext.drew ?_ | refine Ext.drewN ?_ _ | refine Ext.setCell ?_ (by simp) _ | (refine Ext.trans ?_ (by assumption))))
        · (repeat (first | exact Ext.refl _ | assumption | refine Ext.alloc ?_ _ | refine Ext.drew ?_ | refine Ext.drewN ?_ _ | refine Ext.setCell ?_ (by simp) _ | (refine Ext.trans ?_ (by assumption))))
        · (repeat (first | exact Ext.refl _ | assumption | refine Ext.alloc ?_ _ | refine Ext.drew ?_ | refine Ext.drewN ?_ _ | refine Ext.setCell ?_ (by simp) _ | (refine Ext.trans ?_ (by assumption))))
        · (repeat (first | exact Ext.refl _ | assumption | refine Ext.alloc ?_ _ | refine Ext.drew ?_ | refine Ext.drewN ?_ _ | refine Ext.setCell ?_ (by simp) _ | (refine Ext.trans ?_ (by assumption))))
  · have E : textI l er most = ([], l, er) := by simp [textI, he]
    have E2 : getI l er 2 = (0, l, er) := by simp [getI, he]
    have e0 : (er != 0) = true := by simp [he]
    rw [E]
    have HE := Lib.hid E2
    clear E E2 he
    go_enter Try.func67, Try.ntmps67
    go_wp2_with (go_at_call 66; refine (get01_any _ _ _ _ _ 2 _ _ (H.out.ext (((Ext.refl _).alloc _).alloc _)) HB.out (by decide) (by decide)).mono ?_; rintro e w1 ⟨A1, n1, c1, rfl, hs1, he1⟩; rw [HE.out] at hs1 ⊢; obtain ⟨hc, hf, hz⟩ := ecell3 he1; have HS := Lib.hid hs1; clear hs1; have hzn : (w1.heap.size ≤ w.heap.size + 1) = False := eq_false (by have := he1.size; simp at this; omega); have HZ := Lib.hid hzn; clear hzn)
    refine bodyPost_ret (v := .tuple #[.agg #[.slice A1 n1 c1, .int .i64 er], .slice none 0 0]) (by simp [results, Try.results67, go_sem, hc, hz, HZ.out]) rfl ⟨A1, n1, c1, none, 0, 0, rfl, HS.out.via (a := w) ?_ ?_, Sl.nil _ _ none 0 (Nat.zero_le _), ?_⟩
    · (repeat (first | exact Ext.refl _ | assumption | refine Ext.alloc ?_ _ | refine Ext.drew ?_ | refine Ext.drewN ?_ _ | refine Ext.setCell ?_ (by simp) _ | (refine Ext.trans ?_ (by assumption))))
    · (repeat (first | exact Ext.refl _ | assumption | refine Ext.alloc ?_ _ | refine Ext.drew ?_ | refine Ext.drewN ?_ _ | refine Ext.setCell ?_ (by simp) _ | (refine Ext.trans ?_ (by assumption))))
    · (repeat (first | exact Ext.refl _ | assumption | refine Ext.alloc ?_ _ | refine Ext.drew ?_ | refine Ext.drewN ?_ _ | refine Ext.setCell ?_ (by simp) _ | (refine Ext.trans ?_ (by assumption))))
end Go.Proofs.Ytdocdppimpapiaa
