/-
  The package fix: a number, a text, all bytes: contracts.
-/
import Derived.Test.YtdocdppimpapiaaConcatB
namespace Go.Proofs.Ytdocdppimpapiaa
open Go.RowKit

set_option maxHeartbeats 400000 in
theorem onew_any (most : Int) (w : World) (hm : 0 ≤ most) :
    Calls Try.prog 69 #[.int .i64 most] w fun e w' => ∃ g, e = .returned (.pointer (some ⟨g, 0, none⟩)) ∧ OutAt w.heap.size w' g most [] 0 ∧ Ext w w' := by
  go_enter Try.func69, Try.ntmps69
  go_wp2
  go_ret
  exact ⟨_, rfl, ⟨⟨none, 0, 0, heap_alloc_new _ _, Ow.nil _⟩, Nat.le_refl _⟩, (Ext.refl _).alloc _⟩

theorem pow256_le {n : Int} {k : Nat} (h0 : 0 ≤ n) (h : n < 256 ^ k) : n / 2 ^ (8 * k) = 0 := by
  rw [pow256] at h
  exact Int.ediv_eq_zero_of_lt h0 h

set_option maxHeartbeats 400000 in
theorem fits_any (n : Int) (k : Nat) (w : World) (h0 : 0 ≤ n) (h : n < 256 ^ k) (h8 : k ≤ 8) :
    Calls Try.prog 99 #[.int .u64 n, .int .i64 k] w fun e w' => e = .returned (.bool true) ∧ w = w' := by
  by_cases h9 : k = 8
  · subst h9
    clear h
    go_enter Try.func99, Try.ntmps99
    go_wp2
    go_ret
    exact ⟨rfl, rfl⟩
  · have e8 : ((k : Int) == 8) = false := by simp; omega
    have HP := Lib.hid (pow256_le h0 h)
    have k0 : (0 : Int) ≤ (k : Int) := by omega
    clear h h9
    go_enter Try.func99, Try.ntmps99
    go_wp2
    go_ret
    exact ⟨ret_bool (by rw [HP.out]; rfl), rfl⟩

set_option maxHeartbeats 800000 in
theorem oPut_any (base g : Nat) (most : Int) (l : List Int) (er : Int) (n : Int) (k : Nat) (w : World) (h : OutAt base w g most l er)
    (hl : l.length ≤ 1048576) (hm : 0 ≤ most ∧ most ≤ 1048576) (h0 : 0 ≤ n) (hn : n < 256 ^ k) (h1 : 1 ≤ k) (h8 : k ≤ 8) :
    Calls Try.prog 70 #[.pointer (some ⟨g, 0, none⟩), .int .u64 n, .int .i64 k] w (OutDone base g most w (putO most (l, er) (beB n k))) := by
  obtain ⟨A0, n0, cap0, hx, _⟩ := h.ex
  have hbase : base ≤ w.heap.size := Nat.le_of_lt (Nat.lt_of_le_of_lt h.le (lt_of_heap hx))
  have H := Lib.hid h
  have HN := Lib.hid hn
  have HM := Lib.hid hm
  clear h hn hm hx
  go_enter Try.func70, Try.ntmps70
  go_wp2_with (first
    | (go_at_call 89; refine (known_any _ _ h1 h8).mono ?_; rintro e w' ⟨rfl, rfl⟩)
    | (go_at_call 99; refine (fits_any _ _ _ h0 HN.out h8).mono ?_; rintro e w' ⟨rfl, rfl⟩)
    | (go_at_call 101; refine (laid_any _ _ _ h8).mono ?_; rintro e w1 ⟨A1, n1, cap1, rfl, hs1, he1⟩)
    | (go_at_call 100; refine (oput_any base _ most l er _ _ _ _ _ _ (H.out.ext he1) hs1 hl (by rw [beB_len]; omega) HM.out).mono ?_; rintro e w2 ⟨rfl, hi, hk⟩))
  go_end0
  exact ⟨rfl, hi, (he1.kept hbase).trans hk⟩

/-- A text's bytes: how many ahead. -/
def textB (b : List Int) : List Int := beB b.length 2 ++ b

set_option maxHeartbeats 800000 in
theorem oText_any (base g : Nat) (most : Int) (l : List Int) (er : Int) (A : Option Addr) (n cap : Nat) (b : List Int) (Q : Nat → Prop) (w : World) (h : OutAt base w g most l er)
    (hs : Sl (eI .u8) 1 Q w A n cap b) (hl : l.length ≤ 1048576) (hb : b.length ≤ 65535) (hm : 0 ≤ most ∧ most ≤ 1048576) :
    Calls Try.prog 71 #[.pointer (some ⟨g, 0, none⟩), .slice A n cap] w (OutDone base g most w (putO most (l, er) (textB b))) := by
  obtain ⟨A0, n0, cap0, hx, _⟩ := h.ex
  have hbase : base ≤ w.heap.size := Nat.le_of_lt (Nat.lt_of_le_of_lt h.le (lt_of_heap hx))
  have hn : n ≤ 65535 := by rw [hs.len]; exact hb
  have hn' : (n : Int) ≤ 65535 := by omega
  have H := Lib.hid h
  have HN := Lib.hid hs.len
  have HS := Lib.hid hs
  have HM := Lib.hid hm
  clear h hs hm hx
  go_enter Try.func71, Try.ntmps71
  have hlen : ([beB (n : Int) 2, b] : List (List Int)).flatten.length ≤ 1048576 := by simp [beB_len]; omega
  have htx : ([beB (n : Int) 2, b] : List (List Int)).flatten = textB b := by simp [textB, HN.out]
  have HT := Lib.hid htx
  have HL := Lib.hid hlen
  clear htx hlen
  go_wp2_with (first
    | (go_at_call 101; refine (laid_any _ 2 _ (by decide)).mono ?_; rintro e w1 ⟨A1, n1, cap1, rfl, hs1, he1⟩)
    | (go_at_call 102; refine (concatB_any _ _ _ [(A1, n1, cap1), (A, n, cap)] [beB n 2, b] _ (fun _ => True) _ (Sl.laid eH_len w1 [(A1, n1, cap1), (A, n, cap)] _ _ 2 rfl rfl (by decide)) (Each.cons ((hs1.ext ((Ext.refl _).alloc _)).mono fun _ _ => trivial) (Each.cons ((HS.out.ext (he1.alloc _)).mono fun _ _ => trivial) (Each.nil _))) HL.out).mono ?_; rintro e w2 ⟨A2, n2, cap2, rfl, hs2, he2⟩; rw [HT.out] at hs2)
    | (go_at_call 100; refine (oput_any base _ most l er _ _ _ _ _ _ (H.out.ext ((he1.alloc _).trans he2)) hs2 hl (by unfold textB; rw [List.length_append, beB_len]; omega) HM.out).mono ?_; rintro e w3 ⟨rfl, hi, hk⟩))
  go_end0
  exact ⟨rfl, hi, (((he1.alloc _).trans he2).kept hbase).trans hk⟩

def doneB (l : List Int) (er : Int) : List Int := if er = 0 then l else []
set_option maxHeartbeats 800000 in
theorem oDone_any (base g : Nat) (most : Int) (l : List Int) (er : Int) (w : World) (h : OutAt base w g most l er) (hl : l.length ≤ 1048576) :
    Calls Try.prog 72 #[.pointer (some ⟨g, 0, none⟩)] w fun e w' => ∃ A n cap, e = .returned (.tuple #[.slice A n cap, .int .i64 er]) ∧
      Sl (eI .u8) 1 (fun k => w.heap.size ≤ k) w' A n cap (doneB l er) ∧ Ext w w' := by
  obtain ⟨A0, n0, cap0, h1, h2⟩ := h.ex
  have c0 := cell_of_heap h1 0
  have c2 := cell_of_heap h1 2
  simp only [List.getElem?_toArray, List.getElem?_cons_zero, List.getElem?_cons_succ] at c0 c2
  have HS := Lib.hid (h2.sl (eI_len _))
  clear h h1 h2
  by_cases he : er = 0
  · subst he
    go_enter Try.func72, Try.ntmps72
    go_wp2_with (go_at_call 88; refine (cloneB_any _ _ _ _ _ _ HS.out hl).mono ?_; rintro e w1 ⟨A1, n1, cap1, rfl, hs1, he1⟩)
    go_ret2
    exact ⟨A1, n1, cap1, rfl, hs1, he1⟩
  · have e0 : (er != 0) = true := by simp [he]
    have E : doneB l er = [] := by simp [doneB, he]
    rw [E]
    clear he
    go_enter Try.func72, Try.ntmps72
    go_wp2
    go_quiet (fail)
    go_wp2
    go_ret2
    exact ⟨none, 0, 0, rfl, Sl.nil _ _ none 0 (Nat.zero_le _), (Ext.refl _).drewN _⟩
end Go.Proofs.Ytdocdppimpapiaa
