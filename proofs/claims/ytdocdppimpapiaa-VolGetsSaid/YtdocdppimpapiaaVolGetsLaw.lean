/-
  VolGets: what is got has these bytes. The plain part, the walk.
-/
import Derived.Test.YtdocdppimpapiaaVolGetR
import Derived.Test.YtdocdppimpapiaaVolKeysLaw
namespace Go.Proofs.Ytdocdppimpapiaa
open Go.RowKit

theorem beB_numB : ∀ (l : List Int), Bt l → beB (numB l) l.length = l := by
  refine snoc_ind (fun _ => rfl) fun l c ih h => ?_
  have h1 := ih (fun x hx => h x (by simp [hx]))
  have h2 := h c (by simp)
  rw [numB_snoc, List.length_append, List.length_singleton, beB, show (numB l * 256 + c) / 256 = numB l by omega, show (numB l * 256 + c) % 256 = c by omega, h1]
theorem getI_ok {l : List Int} (hb : Bt l) {er : Int} {k : Nat} (h : (getI l er k).2.2 = 0) : er = 0 ∧ l = beB (getI l er k).1 k ++ (getI l er k).2.1 := by
  unfold getI at h ⊢
  split at h
  · rename_i he
    split at h
    · exact absurd h (by decide)
    · rename_i hk
      refine ⟨he, ?_⟩
      rw [if_pos he, if_neg hk]
      have h1 := beB_numB (l.take k) (hb.take k)
      rw [show (l.take k).length = k by rw [List.length_take]; omega] at h1
      show l = beB (numB (l.take k)) k ++ l.drop k
      rw [h1, List.take_append_drop]
  · rename_i he
    exact absurd h he
theorem rawI_ok {l : List Int} {er : Int} {k : Nat} (h : (rawI l er k).2.2 = 0) : er = 0 ∧ l = (rawI l er k).1 ++ (rawI l er k).2.1 ∧ (rawI l er k).1.length = k := by
  unfold rawI at h ⊢
  split at h
  · rename_i he
    split at h
    · exact absurd h (by decide)
    · rename_i hk
      rw [if_pos he, if_neg hk]
      exact ⟨he, (List.take_append_drop k l).symm, by rw [List.length_take]; omega⟩
  · rename_i he
    exact absurd h he
theorem textI_ok {l : List Int} (hb : Bt l) {er most : Int} (h : (textI l er most).2.2 = 0) : er = 0 ∧ l = textB (textI l er most).1 ++ (textI l er most).2.1 := by
  unfold textI at h ⊢
  split at h
  · rename_i he
    split at h
    · exact absurd h (by decide)
    · rename_i hk
      split at h
      · exact absurd h (by decide)
      · rename_i hm
        rw [if_pos he, if_neg hk, if_neg hm]
        refine ⟨he, ?_⟩
        obtain ⟨_, h2, h3⟩ := rawI_ok h
        unfold textB
        rw [h3]
        have h4 := beB_numB (l.take 2) (hb.take 2)
        rw [show (l.take 2).length = 2 by rw [List.length_take]; omega] at h4
        rw [Int.toNat_of_nonneg (numB_bd _ (hb.take 2)).1, h4, List.append_assoc, ← h2, List.take_append_drop]
  · rename_i he
    exact absurd h he
theorem readK_back {l : List Int} (hb : Bt l) {er : Int} : ∀ k, (readK l er k).2.2 = 0 → er = 0 ∧ l = (readK l er k).1.flatMap encOne ++ (readK l er k).2.1
  | 0, h => ⟨h, rfl⟩
  | k + 1, h => by
    have hbt := (readK_ok hb er k).2.1
    have ih := readK_back hb (er := er) k
    have e : readK l er (k + 1) = stepP (readK l er k) := rfl
    rw [e] at h ⊢
    generalize readK l er k = r at *
    have g1 := getI_bt hbt r.2.2 4
    have g2 := getI_bt g1 (getI r.2.1 r.2.2 4).2.2 8
    obtain ⟨e3, h3⟩ := textI_ok g2 h
    obtain ⟨e2, h2⟩ := getI_ok g1 e3
    obtain ⟨e1, h1⟩ := getI_ok hbt e2
    obtain ⟨e0, h0⟩ := ih e1
    refine ⟨e0, ?_⟩
    have : (stepP r).1.flatMap encOne ++ (stepP r).2.1 = r.1.flatMap encOne ++ (beB (getI r.2.1 r.2.2 4).1 4 ++ (beB (getI (getI r.2.1 r.2.2 4).2.1 (getI r.2.1 r.2.2 4).2.2 8).1 8 ++ (textB (textI (getI (getI r.2.1 r.2.2 4).2.1 (getI r.2.1 r.2.2 4).2.2 8).2.1 (getI (getI r.2.1 r.2.2 4).2.1 (getI r.2.1 r.2.2 4).2.2 8).2.2 64).1 ++ (textI (getI (getI r.2.1 r.2.2 4).2.1 (getI r.2.1 r.2.2 4).2.2 8).2.1 (getI (getI r.2.1 r.2.2 4).2.1 (getI r.2.1 r.2.2 4).2.2 8).2.2 64).2.1))) := by
      simp [stepP, encOne, List.flatMap_append, List.append_assoc]
    rw [this, ← h3, ← h2, ← h1]
    exact h0
theorem doneI_zero {l : List Int} {er : Int} (h : doneI l er = 0) : er = 0 ∧ l = [] := by
  unfold doneI at h
  split at h
  · split at h
    · exact ⟨by assumption, by assumption⟩
    · exact absurd h (by decide)
  · rename_i he
    exact absurd h he
/-- What is got, put, has these bytes. -/
theorem getP_back {n b : Int} {bs : List Int} (hb : Bt bs) (h : (getP n b bs).2 = 0) : (if checkP n b (getP n b bs).1 = 0 then encP (getP n b bs).1 else []) = bs := by
  by_cases h0 : bs = []
  · subst h0
    rw [getP_nil]
    split <;> rfl
  by_cases hr : rightB n b = true
  · obtain ⟨u, hu⟩ : ∃ u, uptoI bs 0 1 20 = u := ⟨_, rfl⟩
    obtain ⟨r, hr2⟩ : ∃ r, readK u.2.1 u.2.2 u.1.toNat = r := ⟨_, rfl⟩
    by_cases hd : doneI r.2.1 r.2.2 = 0
    · by_cases hf : r.1 = [] ∨ checkP n b r.1 ≠ 0
      · rw [getP_form h0 hr hu rfl hr2 hd hf] at h
        exact absurd h (by decide)
      · rw [getP_ok h0 hr hu rfl hr2 hd hf]
        have hc : checkP n b r.1 = 0 := Classical.byContradiction fun h => hf (.inr h)
        have hn : r.1 ≠ [] := fun h => hf (.inl h)
        obtain ⟨hd1, hd2⟩ := doneI_zero hd
        have hubt := uptoI_bt hb 0 1 20
        rw [hu] at hubt
        have hrk := readK_back hubt (er := u.2.2) u.1.toNat
        rw [hr2, hd2, List.append_nil] at hrk
        obtain ⟨hu2, hfl⟩ := hrk hd1
        have hlen := (readK_ok hubt u.2.2 u.1.toNat).2.2
        rw [hr2] at hlen
        show (if checkP n b r.1 = 0 then encP r.1 else []) = bs
        rw [if_pos hc]
        unfold encP
        rw [if_neg hn, ← hfl, hlen]
        have hu3 := hu
        unfold uptoI at hu3
        rw [if_pos rfl] at hu3
        split at hu3
        · rw [← hu3] at hu2; exact absurd hu2 (by decide)
        · rename_i hl1
          split at hu3
          · rw [← hu3] at hu2; exact absurd hu2 (by decide)
          · rw [← hu3]
            show beB ((numB (bs.take 1)).toNat : Int) 1 ++ bs.drop 1 = bs
            have h4 := beB_numB (bs.take 1) (hb.take 1)
            rw [show (bs.take 1).length = 1 by rw [List.length_take]; omega] at h4
            rw [Int.toNat_of_nonneg (numB_bd _ (hb.take 1)).1, h4, List.take_append_drop]
    · rw [getP_err h0 hr hu rfl hr2 rfl hd] at h
      exact absurd h hd
  · rw [getP_bad h0 hr] at h
    exact absurd h (by decide)
theorem getP_fine {n b : Int} {bs : List Int} (hb : Bt bs) : PaOk (getP n b bs).1 ∧ (getP n b bs).1.length ≤ 20 := by
  have nil : PaOk ([] : List Pa) := fun p hp => by cases hp
  by_cases h0 : bs = []
  · subst h0; rw [getP_nil]; exact ⟨nil, Nat.zero_le _⟩
  by_cases hr : rightB n b = true
  · obtain ⟨u, hu⟩ : ∃ u, uptoI bs 0 1 20 = u := ⟨_, rfl⟩
    obtain ⟨r, hr2⟩ : ∃ r, readK u.2.1 u.2.2 u.1.toNat = r := ⟨_, rfl⟩
    by_cases hd : doneI r.2.1 r.2.2 = 0
    · by_cases hf : r.1 = [] ∨ checkP n b r.1 ≠ 0
      · rw [getP_form h0 hr hu rfl hr2 hd hf]; exact ⟨nil, Nat.zero_le _⟩
      · rw [getP_ok h0 hr hu rfl hr2 hd hf]
        have hubt := uptoI_bt hb 0 1 20
        have hubd := uptoI_bd hb 0 1 (m := 20) (by decide)
        rw [hu] at hubt hubd
        have h := readK_ok hubt u.2.2 u.1.toNat
        rw [hr2] at h
        exact ⟨h.1, by show r.1.length ≤ 20; omega⟩
    · rw [getP_err h0 hr hu rfl hr2 rfl hd]; exact ⟨nil, Nat.zero_le _⟩
  · rw [getP_bad h0 hr]; exact ⟨nil, Nat.zero_le _⟩
theorem beq_int_self (x : Int) : (x == x) = true := by simp
theorem eqPa_self (l : List Pa) : eqPa l l = true := by simp [eqPa]
theorem eqL_self (l : List Int) : eqL l l = true := by simp [eqL]

set_option maxHeartbeats 1600000 in
theorem volGets_any (n b : Int) (A : Option Addr) (m c : Nat) (l : List Int) (Q : Nat → Prop) (w : World) (h : Sl (eI .u8) 1 Q w A m c l) (hb : Bt l) :
    Calls Try.prog 4 #[.agg #[.int .i64 n, .int .i64 b], .slice A m c] w fun e w' => e = .returned (.bool true) ∧ Ext w w' := by
  have H := Lib.hid h
  have HB := Lib.hid (hb.take 2500)
  have hlen : (l.take 2500).length ≤ 1048576 := by rw [List.length_take]; omega
  clear h hb
  obtain ⟨bs, hbs⟩ : ∃ bs, l.take 2500 = bs := ⟨_, rfl⟩
  rw [hbs] at HB hlen
  have HBS := Lib.hid hbs
  clear hbs
  have F := Lib.hid (getP_fine (n := n) (b := b) HB.out)
  have BK := Lib.hid (getP_back (n := n) (b := b) HB.out)
  obtain ⟨r, hr⟩ : ∃ r, getP n b bs = r := ⟨_, rfl⟩
  rw [hr] at F BK
  have HR := Lib.hid hr
  clear hr
  have fin : ∀ (er : Int), r.2 = er → (er = 0 ∨ er ≠ 0) := fun er _ => Classical.em _
  obtain ⟨p, er⟩ := r
  simp only at F BK
  have hee := beq_int_self er
  by_cases he0 : er = 0
  · subst he0
    have BK' := Lib.hid (BK.out rfl)
    clear BK fin
    go_enter Try.func4, Try.ntmps4
    go_wp2_with (first
      | (go_at_call 21; refine (cut_any _ _ _ _ _ _ _ (H.out.ext ((Ext.refl _).alloc _))).mono ?_; rintro e w1 ⟨A1, m1, c1, rfl, S1, rfl⟩; rw [HBS.out] at S1; replace S1 := Lib.hid S1)
      | (go_at_call 22; refine (vget_any n b _ _ _ bs _ _ (S1.out.ext ((Ext.refl _).alloc _)) HB.out hlen).mono ?_; rintro e w2 ⟨A2, m2, c2, rfl, P2, E2⟩; rw [HR.out] at P2 ⊢; replace P2 := Lib.hid P2; obtain ⟨hc2, hf2, hz2⟩ := ecell3 E2; replace E2 := Lib.hid E2)
      | (go_at_call 23; refine (rget_any n b _ _ _ bs _ _ ((S1.out.ext ((Ext.refl _).alloc _)).ext E2.out) HB.out).mono ?_; rintro e w3 ⟨A3, m3, c3, rfl, P3, E3⟩; rw [HR.out] at P3 ⊢; replace P3 := Lib.hid P3; obtain ⟨hc3, hf3, hz3⟩ := ecell3 E3; replace E3 := Lib.hid E3)
      | (go_at_call 24; refine (vput_any _ _ _ n b p _ _ _ (P2.out.ext E3.out) F.out.1).mono ?_; rintro e w4 ⟨A4, m4, c4, rfl, S4, E4⟩; replace S4 := Lib.hid S4; replace E4 := Lib.hid E4)
      | (go_at_call 25; refine (like30_any _ _ _ _ _ _ p p _ _ _ _ _ ((P2.out.ext E3.out).ext E4.out) (P3.out.ext E4.out) (Nat.le_trans F.out.2 (by decide))).mono ?_; rw [eqPa_self]; rintro e w5 ⟨rfl, E5⟩; replace E5 := Lib.hid E5)
      | (go_at_call 26; refine (same01_any _ _ _ _ _ _ _ bs _ _ _ (S4.out.ext E5.out) (((((S1.out.ext ((Ext.refl _).alloc _)).ext E2.out).ext E3.out).ext E4.out).ext E5.out)).mono ?_; rw [BK'.out, eqL_self]; rintro e w6 ⟨rfl, D6⟩; replace D6 := Lib.hid D6)
      | (go_at_call 20; refine (awake30_any _).mono ?_; rintro e w7 ⟨rfl, E7⟩))
    go_ret
    exact ⟨rfl, ((((((((Ext.refl w).alloc _).alloc _).trans E2.out).trans E3.out).trans E4.out).trans E5.out).trans D6.out.ext).trans E7⟩
  · clear BK fin
    have he1 : (er != 0) = true := by simpa using he0
    go_enter Try.func4, Try.ntmps4
    go_wp2_with (first
      | (go_at_call 21; refine (cut_any _ _ _ _ _ _ _ (H.out.ext ((Ext.refl _).alloc _))).mono ?_; rintro e w1 ⟨A1, m1, c1, rfl, S1, rfl⟩; rw [HBS.out] at S1; replace S1 := Lib.hid S1)
      | (go_at_call 22; refine (vget_any n b _ _ _ bs _ _ (S1.out.ext ((Ext.refl _).alloc _)) HB.out hlen).mono ?_; rintro e w2 ⟨A2, m2, c2, rfl, P2, E2⟩; rw [HR.out] at P2 ⊢; replace P2 := Lib.hid P2; obtain ⟨hc2, hf2, hz2⟩ := ecell3 E2; replace E2 := Lib.hid E2)
      | (go_at_call 23; refine (rget_any n b _ _ _ bs _ _ ((S1.out.ext ((Ext.refl _).alloc _)).ext E2.out) HB.out).mono ?_; rintro e w3 ⟨A3, m3, c3, rfl, P3, E3⟩; rw [HR.out] at P3 ⊢; replace P3 := Lib.hid P3; obtain ⟨hc3, hf3, hz3⟩ := ecell3 E3; replace E3 := Lib.hid E3)
      | (go_at_call 24; refine (vput_any _ _ _ n b p _ _ _ (P2.out.ext E3.out) F.out.1).mono ?_; rintro e w4 ⟨A4, m4, c4, rfl, S4, E4⟩; replace S4 := Lib.hid S4; replace E4 := Lib.hid E4)
      | (go_at_call 25; refine (like30_any _ _ _ _ _ _ p p _ _ _ _ _ ((P2.out.ext E3.out).ext E4.out) (P3.out.ext E4.out) (Nat.le_trans F.out.2 (by decide))).mono ?_; rw [eqPa_self]; rintro e w5 ⟨rfl, E5⟩; replace E5 := Lib.hid E5)
      | (go_at_call 26; refine (same01_any _ _ _ _ _ _ _ bs _ _ _ (S4.out.ext E5.out) (((((S1.out.ext ((Ext.refl _).alloc _)).ext E2.out).ext E3.out).ext E4.out).ext E5.out)).mono ?_; rw [BK'.out, eqL_self]; rintro e w6 ⟨rfl, D6⟩; replace D6 := Lib.hid D6)
      | (go_at_call 20; refine (awake30_any _).mono ?_; rintro e w7 ⟨rfl, E7⟩))
    go_ret
    exact ⟨rfl, (((((((Ext.refl w).alloc _).alloc _).trans E2.out).trans E3.out).trans E4.out).trans E5.out).trans E7⟩
end Go.Proofs.Ytdocdppimpapiaa
