/-
  Which intents may be: vol.Check and the reference's; the law's 'far'.
-/
import Derived.Test.YtdocdppimpapiaaVolB
namespace Go.Proofs.Ytdocdppimpapiaa
open Go.RowKit

def prevBad (prev : Option Int) (k : Int) : Bool := match prev with
  | none => false
  | some q => decide (k ≤ q)
def chk (n b : Int) (prev : Option Int) : List Pa → Int
  | [] => 0
  | p :: l => if whatK n b p.1 < 2 then 20 else if prevBad prev p.1 = true then 4 else if 64 < p.2.2.length then 6 else chk n b (some p.1) l
def checkP (n b : Int) (l : List Pa) : Int := if rightB n b = true then (if 20 < l.length then 9 else chk n b none l) else 1
def prevAt (l : List Pa) (k : Nat) : Option Int := if k = 0 then none else (l[k - 1]?).map (·.1)
theorem chk_step {n b : Int} {l : List Pa} {k : Nat} {p : Pa} (h : l[k]? = some p) :
    chk n b (prevAt l k) (l.drop k) = if whatK n b p.1 < 2 then 20 else if prevBad (prevAt l k) p.1 = true then 4 else if 64 < p.2.2.length then 6 else chk n b (prevAt l (k + 1)) (l.drop (k + 1)) := by
  have hk : k < l.length := by
    rcases Nat.lt_or_ge k l.length with h1 | h1
    · exact h1
    · rw [List.getElem?_eq_none h1] at h; cases h
  have h1 : prevAt l (k + 1) = some p.1 := by simp [prevAt, h]
  have h2 : l[k] = p := by rw [List.getElem?_eq_getElem hk] at h; injection h
  rw [List.drop_eq_getElem_cons hk, h1, h2]
  rfl
theorem whatK_bd (n b k : Int) : 0 ≤ whatK n b k ∧ whatK n b k ≤ 4 := by
  unfold whatK
  split
  · split
    · omega
    · split
      · omega
      · split <;> omega
  · omega

/-- What is asked of patches' numbers. -/
def PaOk (l : List Pa) : Prop := ∀ p, p ∈ l → (0 ≤ p.1 ∧ p.1 < 4294967296) ∧ (0 ≤ p.2.1 ∧ p.2.1 ≤ 18446744073709551615) ∧ Bt p.2.2
theorem PaOk.at {l : List Pa} (h : PaOk l) {k : Nat} {p : Pa} (hp : l[k]? = some p) : (0 ≤ p.1 ∧ p.1 < 4294967296) ∧ (0 ≤ p.2.1 ∧ p.2.1 ≤ 18446744073709551615) ∧ Bt p.2.2 := h p (List.mem_of_getElem? hp)

set_option maxHeartbeats 3200000 in
theorem check_any (A : Option Addr) (m c : Nat) (n b : Int) (l : List Pa) (Q Q' : Nat → Prop) (w : World) (h : Pats Q Q' w A m c l) (ho : PaOk l) :
    Calls Try.prog 28 #[.agg #[.int .i64 n, .int .i64 b], .slice A m c] w fun e w' => e = .returned (.int .i64 (checkP n b l)) ∧ Ext w w' := by
  have hm := h.le
  have HM := Lib.hid h.len
  have H := Lib.hid h
  have HO := Lib.hid ho
  clear h ho
  by_cases hr : rightB n b = true
  · by_cases h20 : 20 < m
    · have E : checkP n b l = 9 := by unfold checkP; rw [if_pos hr, if_pos (by rw [← HM.out]; exact h20)]
      rw [E]
      go_enter Try.func28, Try.ntmps28
      go_wp2_with (go_at_call 14; refine (right_any _ _ _).mono ?_; rintro e w' ⟨rfl, he⟩; obtain ⟨hc, hf⟩ := ecell he)
      go_ret
      exact ⟨rfl, ((Ext.refl _).alloc _).trans (by assumption)⟩
    · have E : checkP n b l = chk n b none l := by unfold checkP; rw [if_pos hr, if_neg (by rw [← HM.out]; exact h20)]
      rw [E]
      clear E
      go_enter Try.func28, Try.ntmps28
      go_wp2_with (go_at_call 14; refine (right_any _ _ _).mono ?_; rintro e w' ⟨rfl, he⟩; obtain ⟨hc, hf⟩ := ecell he)
      go_loopw [19] (fun i wr => ∃ k : Nat, k ≤ m ∧ i = .int .i64 k ∧ chk n b (prevAt l k) (l.drop k) = chk n b none l ∧ Ext (w.alloc (.cells #[.int .i64 n, .int .i64 b] 25)) wr) (fun i _ => m - (intOf i).toNat)
      case atStart => exact ⟨0, Nat.zero_le _, rfl, rfl, he⟩
      case round =>
        clear hc hf
        obtain ⟨k, hk, rfl, hch, hx⟩ := hrel
        have HCH := Lib.hid hch
        have HX := Lib.hid hx
        obtain ⟨hcc, hff, hzz⟩ := ecell3 hx
        clear hch hx
        by_cases hlt : k < m
        · obtain ⟨b1, o1, key, ver, B1, m1, c1, d1, rfl, hp, _, hbl, hc0, hc1, hc2, hs1⟩ := H.out.get k hlt
          have hc0 := HX.out.at (((Ext.refl _).alloc _).at hc0)
          have hc1 := HX.out.at (((Ext.refl _).alloc _).at hc1)
          have hc2 := HX.out.at (((Ext.refl _).alloc _).at hc2)
          have hkey := (HO.out.at hp).1
          have hst := chk_step (n := n) (b := b) hp
          have HP := Lib.hid hp
          have HST := Lib.hid hst
          have HS1 := Lib.hid hs1
          have hbd := whatK_bd n b key
          have k0 : (0 : Int) ≤ (k : Int) := by omega
          have k9 : (k : Int) < (m : Int) := by omega
          clear hp hst hs1
          go_wp2_with (go_at_call 12; refine (what_any _ _ _ _ hkey).mono ?_; rintro e w3 ⟨rfl, he3⟩; obtain ⟨hc3, hf3, hz3⟩ := ecell3 he3)
          · go_ret
            have e0 : whatK n b key = 0 := by simpa using ‹(whatK n b key == 0) = true›
            have h1 := HST.out
            rw [HCH.out, if_pos (by show whatK n b key < 2; omega)] at h1
            exact ⟨ret_int h1.symm, ((Ext.refl _).alloc _).trans (HX.out.trans (((Ext.refl _).alloc _).trans he3))⟩
          · go_ret
            have e0 : whatK n b key = 1 := by simpa using ‹(whatK n b key == 1) = true›
            have h1 := HST.out
            rw [HCH.out, if_pos (by show whatK n b key < 2; omega)] at h1
            exact ⟨ret_int h1.symm, ((Ext.refl _).alloc _).trans (HX.out.trans (((Ext.refl _).alloc _).trans he3))⟩
          · have e0 : ¬ whatK n b key < 2 := by
              have h0 : whatK n b key ≠ 0 := by simpa using ‹(whatK n b key == 0) = false›
              have h1 : whatK n b key ≠ 1 := by simpa using ‹(whatK n b key == 1) = false›
              omega
            have HW := Lib.hid e0
            have hb3 := ((Ext.refl wr).alloc (.cells #[.int .u32 key, .int .u64 ver, .slice B1 m1 c1] 105)).trans he3
            have hq2 := hb3.at hc0
            have HB3 := Lib.hid hb3
            clear e0 hb3
            by_cases hk0 : k = 0
            · have hd0 : decide (0 < k) = false := by simp; omega
              have HPB : prevBad (prevAt l k) key = false := by simp [prevAt, hk0, prevBad]
              have HPB' := Lib.hid HPB
              clear HPB hk0
              go_quiet (fail)
              go_wp2
              · go_ret
                have h1 := HST.out
                rw [HCH.out, if_neg (by have := HW.out; omega), HPB'.out, if_neg (by decide), if_pos (by show 64 < d1.length; rw [← HS1.out.len]; omega)] at h1
                exact ⟨ret_int h1.symm, ((Ext.refl _).alloc _).trans (HX.out.trans (HB3.out.drewN _))⟩
              · have h1 := HST.out
                rw [HCH.out, if_neg (by have := HW.out; omega), HPB'.out, if_neg (by decide), if_neg (by show ¬ 64 < d1.length; rw [← HS1.out.len]; omega)] at h1
                exact ⟨⟨k + 1, by omega, by go_num, h1.symm, HX.out.trans (HB3.out.drewN _)⟩, by simp [intOf]; omega⟩
            · obtain ⟨b2, o2, key2, ver2, B2, m2, c2, d2, hA, hp2, _, _, hq0, _, _, _⟩ := H.out.get (k - 1) (by omega)
              simp only [Option.some.injEq, Addr.mk.injEq, and_true] at hA
              obtain ⟨rfl, rfl⟩ := hA
              have hq0 := HB3.out.at (HX.out.at (((Ext.refl _).alloc _).at hq0))
              have hpv : prevAt l k = some key2 := by simp [prevAt, hk0, hp2]
              have HPV := Lib.hid hpv
              have hd0 : decide (0 < k) = true := by simp; omega
              have k1 : (0 : Int) ≤ (k : Int) - 1 := by omega
              have k2 : (1 : Int) ≤ (k : Int) := by omega
              have k3 : 1 ≤ k := by omega
              have k4 : (k : Int) - 1 < (m : Int) := by omega
              clear hp2 hpv hk0
              by_cases hkk : key ≤ key2
              · go_quiet (fail)
                go_wp2
                go_ret
                have h1 := HST.out
                rw [HCH.out, if_neg (by have := HW.out; omega), HPV.out, if_pos (by show decide (key ≤ key2) = true; simp; omega)] at h1
                exact ⟨ret_int h1.symm, ((Ext.refl _).alloc _).trans (HX.out.trans (HB3.out.drewN _))⟩
              · go_quiet (fail)
                go_wp2
                · go_ret
                  have h1 := HST.out
                  rw [HCH.out, if_neg (by have := HW.out; omega), HPV.out, if_neg (by show ¬ decide (key ≤ key2) = true; simp; omega), if_pos (by show 64 < d1.length; rw [← HS1.out.len]; omega)] at h1
                  exact ⟨ret_int h1.symm, ((Ext.refl _).alloc _).trans (HX.out.trans (HB3.out.drewN _))⟩
                · have h1 := HST.out
                  rw [HCH.out, if_neg (by have := HW.out; omega), HPV.out, if_neg (by show ¬ decide (key ≤ key2) = true; simp; omega), if_neg (by show ¬ 64 < d1.length; rw [← HS1.out.len]; omega)] at h1
                  exact ⟨⟨k + 1, by omega, by go_num, h1.symm, HX.out.trans (HB3.out.drewN _)⟩, by simp [intOf]; omega⟩
        · go_wp2
          go_ret
          have h1 := HCH.out
          rw [List.drop_eq_nil_of_le (by rw [← HM.out]; omega)] at h1
          exact ⟨ret_int h1, ((Ext.refl _).alloc _).trans HX.out⟩
  · have E : checkP n b l = 1 := by unfold checkP; rw [if_neg hr]
    rw [E]
    go_enter Try.func28, Try.ntmps28
    go_wp2_with (go_at_call 14; refine (right_any _ _ _).mono ?_; rintro e w' ⟨rfl, he⟩; obtain ⟨hc, hf⟩ := ecell he)
    go_ret
    exact ⟨rfl, ((Ext.refl _).alloc _).trans (by assumption)⟩

set_option maxHeartbeats 3200000 in
theorem rcheck_any (A : Option Addr) (m c : Nat) (n b : Int) (l : List Pa) (Q Q' : Nat → Prop) (w : World) (h : Pats Q Q' w A m c l) (ho : PaOk l) :
    Calls Try.prog 30 #[.agg #[.int .i64 n, .int .i64 b], .slice A m c] w fun e w' => e = .returned (.int .i64 (checkP n b l)) ∧ Ext w w' := by
  have hm := h.le
  have HM := Lib.hid h.len
  have H := Lib.hid h
  have HO := Lib.hid ho
  clear h ho
  by_cases hr : rightB n b = true
  · by_cases h20 : 20 < m
    · have E : checkP n b l = 9 := by unfold checkP; rw [if_pos hr, if_pos (by rw [← HM.out]; exact h20)]
      rw [E]
      go_enter Try.func30, Try.ntmps30
      go_wp2_with (go_at_call 15; refine (rright_any _ _ _).mono ?_; rintro e w' ⟨rfl, he⟩; obtain ⟨hc, hf⟩ := ecell he)
      go_ret
      exact ⟨rfl, ((Ext.refl _).alloc _).trans (by assumption)⟩
    · have E : checkP n b l = chk n b none l := by unfold checkP; rw [if_pos hr, if_neg (by rw [← HM.out]; exact h20)]
      rw [E]
      clear E
      go_enter Try.func30, Try.ntmps30
      go_wp2_with (go_at_call 15; refine (rright_any _ _ _).mono ?_; rintro e w' ⟨rfl, he⟩; obtain ⟨hc, hf⟩ := ecell he)
      go_loopw [5] (fun i wr => ∃ k : Nat, k ≤ m ∧ i = .int .i64 k ∧ chk n b (prevAt l k) (l.drop k) = chk n b none l ∧ Ext (w.alloc (.cells #[.int .i64 n, .int .i64 b] 23)) wr) (fun i _ => m - (intOf i).toNat)
      case atStart => exact ⟨0, Nat.zero_le _, rfl, rfl, he⟩
      case round =>
        clear hc hf
        obtain ⟨k, hk, rfl, hch, hx⟩ := hrel
        have HCH := Lib.hid hch
        have HX := Lib.hid hx
        have hs0 := hx.at (cell_new w #[.int .i64 n, .int .i64 b] 23 0 (0, 0) rfl)
        have hs9 := hx.at (cell_new w #[.int .i64 n, .int .i64 b] 23 1 (0, 0) rfl)
        clear hch hx
        by_cases hlt : k < m
        · obtain ⟨b1, o1, key, ver, B1, m1, c1, d1, rfl, hp, _, hbl, hc0, hc1, hc2, hs1⟩ := H.out.get k hlt
          have hc0 := HX.out.at (((Ext.refl _).alloc _).at hc0)
          have hc1 := HX.out.at (((Ext.refl _).alloc _).at hc1)
          have hc2 := HX.out.at (((Ext.refl _).alloc _).at hc2)
          have hkey := (HO.out.at hp).1
          have hst := chk_step (n := n) (b := b) hp
          have HP := Lib.hid hp
          have HST := Lib.hid hst
          have HS1 := Lib.hid hs1
          have hbd := whatK_bd n b key
          have k0 : (0 : Int) ≤ (k : Int) := by omega
          have k9 : (k : Int) < (m : Int) := by omega
          clear hp hst hs1
          go_wp2
          go_region_held3 (fun W => W.cell? ⟨w.heap.size, 0, none⟩ = some (.int .i64 n) ∧ W.cell? ⟨w.heap.size, 1, none⟩ = some (.int .i64 b) ∧ W.cell? ⟨b1, o1 + k * 3, none⟩ = some (.int .u32 key) ∧ Ext wr W)
            (first | exact ⟨hs0, hs9, hc0, (Ext.refl _).drew⟩ | (go_split_ands; refine ⟨he3.at (by assumption), he3.at (by assumption), he3.at (by assumption), Ext.trans (by assumption) he3⟩))
            (first | (go_at_call 13; refine (rwhat_any _ _ _ _ hkey).mono ?_; rintro e w3 ⟨rfl, he3⟩))
          rename_i hS
          obtain ⟨_, _, _, hB⟩ := hS
          have HB := Lib.hid hB
          clear hB
          by_cases hw2 : whatK n b key < 2
          · go_wp2
            go_ret
            have h1 := HST.out
            rw [HCH.out, if_pos hw2] at h1
            exact ⟨ret_int h1.symm, ((Ext.refl _).alloc _).trans (HX.out.trans HB.out)⟩
          · have hc0 := HB.out.at hc0
            have hc2 := HB.out.at hc2
            by_cases hk0 : k = 0
            · have hd0 : decide (0 < k) = false := by simp; omega
              have HPB : prevBad (prevAt l k) key = false := by simp [prevAt, hk0, prevBad]
              have HPB' := Lib.hid HPB
              clear HPB hk0
              go_wp2
              go_quiet (fail)
              go_wp2
              · go_ret
                have h1 := HST.out
                rw [HCH.out, if_neg (show ¬ whatK n b key < 2 by omega), HPB'.out, if_neg (by decide), if_pos (by show 64 < d1.length; rw [← HS1.out.len]; omega)] at h1
                exact ⟨ret_int h1.symm, ((Ext.refl _).alloc _).trans (HX.out.trans (HB.out.drewN _))⟩
              · have h1 := HST.out
                rw [HCH.out, if_neg (show ¬ whatK n b key < 2 by omega), HPB'.out, if_neg (by decide), if_neg (by show ¬ 64 < d1.length; rw [← HS1.out.len]; omega)] at h1
                exact ⟨⟨k + 1, by omega, by go_num, h1.symm, HX.out.trans (HB.out.drewN _)⟩, by simp [intOf]; omega⟩
            · obtain ⟨b2, o2, key2, ver2, B2, m2, c2, d2, hA, hp2, _, _, hq0, _, _, _⟩ := H.out.get (k - 1) (by omega)
              simp only [Option.some.injEq, Addr.mk.injEq, and_true] at hA
              obtain ⟨rfl, rfl⟩ := hA
              have hq0 := HB.out.at (HX.out.at (((Ext.refl _).alloc _).at hq0))
              have hpv : prevAt l k = some key2 := by simp [prevAt, hk0, hp2]
              have HPV := Lib.hid hpv
              have hd0 : decide (0 < k) = true := by simp; omega
              have k1 : (0 : Int) ≤ (k : Int) - 1 := by omega
              have k2 : (1 : Int) ≤ (k : Int) := by omega
              have k3 : 1 ≤ k := by omega
              have k4 : (k : Int) - 1 < (m : Int) := by omega
              clear hp2 hpv hk0
              by_cases hkk : key ≤ key2
              · go_wp2
                go_quiet (fail)
                go_wp2
                go_ret
                have h1 := HST.out
                rw [HCH.out, if_neg (show ¬ whatK n b key < 2 by omega), HPV.out, if_pos (by show decide (key ≤ key2) = true; simp; omega)] at h1
                exact ⟨ret_int h1.symm, ((Ext.refl _).alloc _).trans (HX.out.trans (HB.out.drewN _))⟩
              · go_wp2
                go_quiet (fail)
                go_wp2
                · go_ret
                  have h1 := HST.out
                  rw [HCH.out, if_neg (show ¬ whatK n b key < 2 by omega), HPV.out, if_neg (by show ¬ decide (key ≤ key2) = true; simp; omega), if_pos (by show 64 < d1.length; rw [← HS1.out.len]; omega)] at h1
                  exact ⟨ret_int h1.symm, ((Ext.refl _).alloc _).trans (HX.out.trans (HB.out.drewN _))⟩
                · have h1 := HST.out
                  rw [HCH.out, if_neg (show ¬ whatK n b key < 2 by omega), HPV.out, if_neg (by show ¬ decide (key ≤ key2) = true; simp; omega), if_neg (by show ¬ 64 < d1.length; rw [← HS1.out.len]; omega)] at h1
                  exact ⟨⟨k + 1, by omega, by go_num, h1.symm, HX.out.trans (HB.out.drewN _)⟩, by simp [intOf]; omega⟩
        · go_wp2
          go_ret
          have h1 := HCH.out
          rw [List.drop_eq_nil_of_le (by rw [← HM.out]; omega)] at h1
          exact ⟨ret_int h1, ((Ext.refl _).alloc _).trans HX.out⟩
  · have E : checkP n b l = 1 := by unfold checkP; rw [if_neg hr]
    rw [E]
    go_enter Try.func30, Try.ntmps30
    go_wp2_with (go_at_call 15; refine (rright_any _ _ _).mono ?_; rintro e w' ⟨rfl, he⟩; obtain ⟨hc, hf⟩ := ecell he)
    go_ret
    exact ⟨rfl, ((Ext.refl _).alloc _).trans (by assumption)⟩
end Go.Proofs.Ytdocdppimpapiaa
