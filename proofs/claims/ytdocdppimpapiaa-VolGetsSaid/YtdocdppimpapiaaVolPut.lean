/-
  vol.Put: the root block's bytes of an intent.
-/
import Derived.Test.YtdocdppimpapiaaVolC
namespace Go.Proofs.Ytdocdppimpapiaa
open Go.RowKit

def encOne (p : Pa) : List Int := beB p.1 4 ++ (beB p.2.1 8 ++ textB p.2.2)
/-- The bytes of an intent that may be. -/
def encP (l : List Pa) : List Int := if l = [] then [] else beB l.length 1 ++ l.flatMap encOne

theorem chk_zero {n b : Int} : ∀ (l : List Pa) (prev : Option Int), chk n b prev l = 0 → ∀ p ∈ l, p.2.2.length ≤ 64
  | [], _, _, p, hp => by cases hp
  | q :: l, prev, h, p, hp => by
    unfold chk at h
    split at h
    · exact absurd h (by decide)
    · split at h
      · exact absurd h (by decide)
      · split at h
        · exact absurd h (by decide)
        · rcases List.mem_cons.1 hp with rfl | hp
          · omega
          · exact chk_zero l _ h p hp
theorem checkP_zero {n b : Int} {l : List Pa} (h : checkP n b l = 0) : rightB n b = true ∧ l.length ≤ 20 ∧ chk n b none l = 0 := by
  unfold checkP at h
  split at h
  · split at h
    · exact absurd h (by decide)
    · exact ⟨by assumption, by omega, h⟩
  · exact absurd h (by decide)
theorem encOne_len {p : Pa} (h : p.2.2.length ≤ 64) : (encOne p).length ≤ 78 := by
  unfold encOne textB
  simp only [List.length_append, beB_len]
  omega
theorem encs_len : ∀ (l : List Pa), (∀ p ∈ l, p.2.2.length ≤ 64) → (l.flatMap encOne).length ≤ 78 * l.length
  | [], _ => by simp
  | p :: l, h => by
    have h1 := encOne_len (h p List.mem_cons_self)
    have h2 := encs_len l fun q hq => h q (List.mem_cons_of_mem _ hq)
    rw [List.flatMap_cons, List.length_append, List.length_cons]
    omega
theorem putO_ok {most : Int} {l b : List Int} (h : (l.length : Int) + b.length ≤ most) : putO most (l, 0) b = (l ++ b, 0) := by
  unfold putO
  rw [if_pos rfl, if_neg (by show ¬ most - (l.length : Int) < b.length; omega)]
/-- What lies in the writer when k patches have been put. -/
def putSt (l : List Pa) (k : Nat) : List Int := beB l.length 1 ++ (l.take k).flatMap encOne
theorem putSt_len (l : List Pa) (k : Nat) (h : ∀ p ∈ l, p.2.2.length ≤ 64) (hl : l.length ≤ 20) (hk : k ≤ l.length) : (putSt l k).length ≤ 1 + 78 * k := by
  unfold putSt
  have := encs_len (l.take k) fun q hq => h q (List.mem_of_mem_take hq)
  rw [List.length_take] at this
  rw [List.length_append, beB_len]
  omega
theorem putSt_next (l : List Pa) (k : Nat) (p : Pa) (h : l[k]? = some p) : putSt l k ++ beB p.1 4 ++ beB p.2.1 8 ++ textB p.2.2 = putSt l (k + 1) := by
  unfold putSt
  rw [List.take_add_one, h, Option.toList_some, List.flatMap_append]
  simp [encOne, List.append_assoc]

/-- Bytes and an error come back, the bytes in new memory. -/
def RetBE (b : List Int) (er : Int) (w : World) (e : Ending) (w' : World) : Prop :=
  ∃ A n cap, e = .returned (.tuple #[.slice A n cap, .int .i64 er]) ∧ Sl (eI .u8) 1 (fun k => w.heap.size ≤ k) w' A n cap b ∧ Ext w w'
theorem p256_1 {x : Int} (h : x ≤ 20) : x < 256 ^ 1 := by omega
theorem p256_4 {x : Int} (h : x < 4294967296) : x < 256 ^ 4 := by omega
theorem p256_8 {x : Int} (h : x ≤ 18446744073709551615) : x < 256 ^ 8 := by omega

set_option maxHeartbeats 3200000 in
theorem vput_any (A : Option Addr) (m c : Nat) (n b : Int) (l : List Pa) (Q Q' : Nat → Prop) (w : World) (h : Pats Q Q' w A m c l) (ho : PaOk l) :
    Calls Try.prog 24 #[.agg #[.int .i64 n, .int .i64 b], .slice A m c] w (RetBE (if checkP n b l = 0 then encP l else []) (checkP n b l) w) := by
  have HM := Lib.hid h.len
  have H := Lib.hid h
  have HO := Lib.hid ho
  clear h ho
  by_cases hc : checkP n b l = 0
  · rw [if_pos hc, hc]
    obtain ⟨hr, h20, hck⟩ := checkP_zero hc
    have h64 := chk_zero l none hck
    by_cases hl : l = []
    · subst hl
      obtain rfl : m = 0 := HM.out
      have HC := Lib.hid hc
      clear hc hr h20 hck h64
      go_enter Try.func24, Try.ntmps24
      go_wp2_with (go_at_call 28; refine (check_any _ _ _ _ _ _ _ _ _ (H.out.ext ((Ext.refl _).alloc _)) HO.out).mono ?_; rintro e w1 ⟨rfl, he1⟩; rw [HC.out])
      go_ret2
      exact ⟨none, 0, 0, rfl, Sl.nil _ _ none 0 (Nat.zero_le _), ((Ext.refl _).alloc _).trans he1⟩
    · have hm0 : ((m : Int) == 0) = false := by
        have : m ≠ 0 := fun e => hl (List.eq_nil_of_length_eq_zero (by rw [← HM.out]; exact e))
        simp; omega
      have hm20 : m ≤ 20 := by rw [HM.out]; exact h20
      have hE : encP l = putSt l m := by
        unfold encP putSt
        rw [if_neg hl, List.take_of_length_le (by rw [← HM.out]; exact Nat.le_refl _)]
      rw [hE]
      have HC := Lib.hid hc
      have H64 := Lib.hid h64
      have H20 := Lib.hid h20
      clear hc hr h20 hck h64 hl hE
      go_enter Try.func24, Try.ntmps24
      go_wp2_with (first
        | (go_at_call 28; refine (check_any _ _ _ _ _ _ _ _ _ (H.out.ext ((Ext.refl _).alloc _)) HO.out).mono ?_; rintro e w1 ⟨rfl, he1⟩; rw [HC.out])
        | (go_at_call 69; refine (onew_any 2048 _ (by decide)).mono ?_; rintro e w2 ⟨g, rfl, ho2, he2⟩)
        | (go_at_call 70; refine (oPut_any w1.heap.size _ _ _ _ _ 1 _ ho2 (by decide) (by decide) (by omega) (p256_1 (by omega)) (by decide) (by decide)).mono ?_; rintro e w3 ⟨rfl, ho3, hk3⟩))
      have hx0 : Ext w w1 := ((Ext.refl _).alloc _).trans he1
      have hx : Ext w w3 := Kept.ext (hx0.trans he2) hk3 hx0.size
      have hst : OutAt w1.heap.size w3 g 2048 (putSt l 0) 0 := by
        have h1 := ho3
        rw [putO_ok (by simp [beB_len])] at h1
        have h2 : ([] : List Int) ++ beB (m : Int) 1 = putSt l 0 := by unfold putSt; rw [HM.out]; simp
        rw [← h2]
        exact h1
      have HS0 := hx0.size
      clear ho2 ho3 hk3 he2 he1
      have HH := Lib.hid hx
      have HT := Lib.hid hst
      clear hx hst
      go_loopw [29] (fun i wr => ∃ k : Nat, k ≤ m ∧ i = .int .i64 k ∧ OutAt w1.heap.size wr g 2048 (putSt l k) 0 ∧ Ext w wr) (fun i _ => m - (intOf i).toNat)
      case atStart => exact ⟨0, Nat.zero_le _, rfl, HT.out, HH.out⟩
      case round =>
        obtain ⟨k, hk, rfl, hst, hx⟩ := hrel
        have HT := Lib.hid hst
        have HX := Lib.hid hx
        clear hst hx
        by_cases hlt : k < m
        · obtain ⟨b1, o1, key, ver, B1, m1, c1, d1, rfl, hp, _, hbl, hc0, hc1, hc2, hs1⟩ := H.out.get k hlt
          have hc0 := HX.out.at hc0
          have hc1 := HX.out.at hc1
          have hc2 := HX.out.at hc2
          obtain ⟨⟨hk0, hk1⟩, ⟨hv0, hv1⟩, _⟩ := HO.out.at hp
          have hd64 : d1.length ≤ 64 := H64.out _ (List.mem_of_getElem? hp)
          have hlen := putSt_len l k H64.out H20.out (by rw [← HM.out]; exact hk)
          have HN := Lib.hid (putSt_next l k _ hp)
          have HS1 := Lib.hid hs1
          have k0 : (0 : Int) ≤ (k : Int) := by omega
          have k9 : (k : Int) < (m : Int) := by omega
          have hbox := heap_alloc_new wr (.cells #[.int .u32 key, .int .u64 ver, .slice B1 m1 c1] 105)
          have HB := Lib.hid hbox
          clear hp hs1 hbox
          have hx1 : Ext w (wr.alloc (.cells #[.int .u32 key, .int .u64 ver, .slice B1 m1 c1] 105)) := HX.out.alloc _
          go_wp2_with fail
          refine (oPut_any w1.heap.size _ _ _ _ _ 4 _ (HT.out.ext ((Ext.refl _).alloc _)) (by omega) (by decide) hk0 (p256_4 hk1) (by decide) (by decide)).mono ?_
          rintro e w4 ⟨rfl, ho4, hk4⟩
          have hb4 := hk4.oth _ _ _ _ HB.out (by decide) (by decide)
          have q1 := cell_of_heap hb4 1
          have q2 := cell_of_heap hb4 2
          simp only [List.getElem?_toArray, List.getElem?_cons_zero, List.getElem?_cons_succ] at q1 q2
          rw [putO_ok (by simp only [beB_len]; omega)] at ho4
          have hx4 : Ext w w4 := Kept.ext hx1 hk4 HS0
          have HB4 := Lib.hid hb4
          have HO4 := Lib.hid ho4
          clear hk4 hb4 ho4
          go_wp2_with fail
          refine (oPut_any w1.heap.size _ _ _ _ _ 8 _ HO4.out (by simp only [List.length_append, beB_len]; omega) (by decide) hv0 (p256_8 hv1) (by decide) (by decide)).mono ?_
          rintro e w5 ⟨rfl, ho5, hk5⟩
          have hb5 := hk5.oth _ _ _ _ HB4.out (by decide) (by decide)
          have q3 := cell_of_heap hb5 2
          simp only [List.getElem?_toArray, List.getElem?_cons_zero, List.getElem?_cons_succ] at q3
          rw [putO_ok (by simp only [List.length_append, beB_len]; omega)] at ho5
          have hx5 : Ext w w5 := Kept.ext hx4 hk5 HS0
          have HO5 := Lib.hid ho5
          clear hk5 hb5 ho5
          go_wp2_with fail
          refine (oText_any w1.heap.size _ _ _ _ _ _ _ _ _ _ HO5.out (HS1.out.ext hx5) (by simp only [List.length_append, beB_len]; omega) (by omega) (by decide)).mono ?_
          rintro e w6 ⟨rfl, ho6, hk6⟩
          rw [putO_ok (by unfold textB; simp only [List.length_append, beB_len]; omega)] at ho6
          have hx6 : Ext w w6 := Kept.ext hx5 hk6 HS0
          have hN := HN.out
          have ho7 : OutAt w1.heap.size w6 g 2048 (putSt l (k + 1)) 0 := by rw [← hN]; exact ho6
          have HO7 := Lib.hid ho7
          clear ho6 hk6 hN ho7
          go_wp2
          exact ⟨⟨k + 1, by omega, by go_num, HO7.out, hx6⟩, by simp [intOf]; omega⟩
        · obtain rfl : k = m := by omega
          have hlen := putSt_len l k H64.out H20.out (by rw [← HM.out]; exact Nat.le_refl _)
          go_wp2_with (go_at_call 72; refine (oDone_any _ _ _ _ _ _ HT.out (by omega)).mono ?_; rintro e w7 ⟨A7, n7, cap7, rfl, hs7, he7⟩)
          go_ret2
          exact ⟨A7, n7, cap7, rfl, hs7.mono fun j hj => Nat.le_trans HX.out.size hj, HX.out.trans he7⟩
  · rw [if_neg hc]
    have e0 : (checkP n b l != 0) = true := by simp [hc]
    clear hc
    go_enter Try.func24, Try.ntmps24
    go_wp2_with (go_at_call 28; refine (check_any _ _ _ _ _ _ _ _ _ (H.out.ext ((Ext.refl _).alloc _)) HO.out).mono ?_; rintro e w1 ⟨rfl, he1⟩)
    go_ret2
    exact ⟨none, 0, 0, rfl, Sl.nil _ _ none 0 (Nat.zero_le _), ((Ext.refl _).alloc _).trans he1⟩
end Go.Proofs.Ytdocdppimpapiaa
