/-
  The reference's Check of inodes. Blocks as extents. inode.Of. The plain law of inodes: blocks as extents, and back; Grow and Cut as functions. No walk. slices.Grow of no slice and slices.Concat, at ints: contracts. (Printed by wip/tpl/gen_concat.py.). inode.Grow. inode.Cut.
-/
import Derived.Test.YtdocdppimpapiaaIB1
import Derived.Test.YtdocdppimpapiaaIB3
set_option linter.unusedSimpArgs false
set_option linter.unusedVariables false
namespace Go.Proofs.Ytdocdppimpapiaa
open Go.RowKit

theorem blk_ge : ∀ (l : List Ex) (p : Option Ex), fineX p l = true → l.length ≤ (blkB l).length
  | [], _, _ => Nat.zero_le _
  | e :: l, p, h => by
    simp only [fineX, Bool.and_eq_true] at h
    have h1 := blk_ge l _ h.2.2
    have h2 := okE_bd h.1
    have h3 : (exB e).length = e.2.toNat := by rw [exB_yes (okE_right h.1), exUp_len]
    simp only [blkB, List.flatMap_cons, List.length_append, List.length_cons] at *
    omega
theorem needB_le {s : Int} (h : s ≤ 512) : needB s ≤ 8 := by unfold needB; split <;> omega
theorem chkB_iff {s : Int} {l : List Ex} (h : s ≤ 512) (hf : fineX none l = true) : chkB s l ↔ ¬ (blkB l).Nodup ∨ ((blkB l).length : Int) ≠ needB s := by
  have h1 := blk_ge l _ hf
  have h2 := needB_le h
  unfold chkB fineB
  rw [hf, Bool.true_and, decide_eq_false_iff_not]
  constructor
  · rintro (h3 | h3 | h3)
    · exact .inr (by omega)
    · exact .inl h3
    · exact .inr h3
  · rintro (h3 | h3)
    · exact .inr (.inl h3)
    · exact .inr (.inr h3)
theorem chkB_no {s : Int} {l : List Ex} (hf : fineX none l = false) : chkB s l := .inr (.inl (by unfold fineB; rw [hf]; rfl))

theorem hasD_any (A : Option Addr) (n c : Nat) (l : List Int) (x : Int) (Q : Nat → Prop) (w : World) (h : Sl (eI .i64) 1 Q w A n c l) :
    Calls Try.prog 86 #[.slice A n c, .int .i64 x] w fun e w' => e = .returned (.bool (decide (x ∈ l))) ∧ Drawn w w' :=
  (has_any A n c l x Q w h).mono fun e w' h => ⟨h.1, by rw [h.2]; exact Drawn.refl _⟩

theorem nodup_snoc {l : List Int} {x : Int} : (l ++ [x]).Nodup ↔ l.Nodup ∧ x ∉ l := by
  rw [List.nodup_append]
  simp
  intro _
  constructor
  · intro h hx; exact h x hx rfl
  · intro h a ha e; subst e; exact h ha

set_option maxRecDepth 100000 in
set_option maxHeartbeats 4000000 in
theorem rcheck_ino (m s : Int) (A : Option Addr) (n c : Nat) (xs : List Ex) (Q : Nat → Prop) (w : World) (h : Sl eX 2 Q w A n c xs) (hl : xs.length ≤ 1000) :
    Calls Try.prog 54 #[.agg #[.int .i64 m, .int .i64 s, .slice A n c]] w fun e w' => e = .returned (.int .i64 (checkI (m, s, xs))) ∧ Ext w w' := by
  have HL := Lib.hid h.len
  have hn : n ≤ 1000 := by rw [h.len]; exact hl
  have H := Lib.hid (h.inside fun x => by simp [eX])
  have n0 : n = 0 ↔ xs = [] := by rw [h.len]; exact List.length_eq_zero_iff
  clear h
  by_cases a1 : m < 0
  · have E : checkI (m, s, xs) = 1 := by unfold checkI; rw [if_pos (.inl a1)]
    rw [E]
    go_enter Try.func54, Try.ntmps54
    go_wp2
    go_ret
    exact ⟨rfl, (Ext.refl _).alloc _⟩
  by_cases a2 : 2 < m
  · have E : checkI (m, s, xs) = 1 := by unfold checkI; rw [if_pos (.inr a2)]
    rw [E]
    go_enter Try.func54, Try.ntmps54
    go_wp2
    go_ret
    exact ⟨rfl, (Ext.refl _).alloc _⟩
  have n1 : ¬ (m < 0 ∨ 2 < m) := by omega
  by_cases a3 : 512 < s
  · have E : checkI (m, s, xs) = 17 := by unfold checkI; rw [if_neg n1, if_pos a3]
    rw [E]
    go_enter Try.func54, Try.ntmps54
    go_wp2
    go_ret
    exact ⟨rfl, (Ext.refl _).alloc _⟩
  by_cases a4 : s < 0
  · have E : checkI (m, s, xs) = 4 := by unfold checkI; rw [if_neg n1, if_neg a3, if_pos (.inl a4)]
    rw [E]
    go_enter Try.func54, Try.ntmps54
    go_wp2
    go_ret
    exact ⟨rfl, (Ext.refl _).alloc _⟩
  by_cases a5 : m = 0 ∧ 0 < s
  · obtain ⟨rfl, a5⟩ := a5
    have E : checkI (0, s, xs) = 4 := by unfold checkI; rw [if_neg n1, if_neg a3, if_pos (.inr ⟨rfl, .inl a5⟩)]
    have sz : (s != 0) = true := by simp; omega
    rw [E]
    go_enter Try.func54, Try.ntmps54
    go_wp2
    go_ret
    exact ⟨rfl, (Ext.refl _).alloc _⟩
  by_cases a6 : m = 0 ∧ 0 < n
  · obtain ⟨rfl, a6⟩ := a6
    have s0 : s = 0 := by omega
    subst s0
    have E : checkI (0, 0, xs) = 4 := by unfold checkI; rw [if_neg n1, if_neg a3, if_pos (.inr ⟨rfl, .inr fun e => by have := n0.2 e; omega⟩)]
    rw [E]
    go_enter Try.func54, Try.ntmps54
    go_wp2
    go_ret
    exact ⟨rfl, (Ext.refl _).alloc _⟩
  have n3 : ¬ chkA m s xs := by
    rintro (h | ⟨h, h1 | h1⟩)
    · exact a4 h
    · exact a5 ⟨h, h1⟩
    · exact a6 ⟨h, by have : n ≠ 0 := fun e => h1 (n0.1 e); omega⟩
  have E0 := Lib.hid (show checkI (m, s, xs) = if chkB s xs then 4 else 0 by unfold checkI; rw [if_neg n1, if_neg a3, if_neg n3])
  have mode : m = 0 ∧ s = 0 ∧ n = 0 ∨ (m == 0) = false := by
    by_cases h : m = 0
    · exact .inl ⟨h, by omega, by omega⟩
    · exact .inr (by simpa using h)
  have hs : s ≤ 9223372036854775807 := by omega
  clear n3 a6 a5 n1 n0
  rcases mode with ⟨rfl, rfl, rfl⟩ | mode
  · have e0 : xs = [] := List.eq_nil_of_length_eq_zero HL.out.symm
    subst e0
    have E : checkI (0, 0, []) = 0 := by decide
    rw [E]
    go_enter Try.func54, Try.ntmps54
    go_wp2
    go_loopw [3] (fun i wr => i = .int .i64 0 ∧ Ext (w.alloc (.cells #[.int .i64 0, .int .i64 0, .slice A 0 c] 65)) wr) (fun _ _ => 0)
    case atStart => exact ⟨rfl, Ext.refl _⟩
    case round =>
      obtain ⟨rfl, he⟩ := hrel
      have b0 := he.at (cell_new w #[.int .i64 0, .int .i64 0, .slice A 0 c] 65 0 (0, 0) rfl)
      have b1 := he.at (cell_new w #[.int .i64 0, .int .i64 0, .slice A 0 c] 65 1 (0, 0) rfl)
      have b2 := he.at (cell_new w #[.int .i64 0, .int .i64 0, .slice A 0 c] 65 2 (0, 0) rfl)
      have HE := Lib.hid he
      clear he
      go_wp2_with (go_at_call 47; refine (rblocks_any _ _ _ _ _ _ _ _ ((H.out.ext ((Ext.refl _).alloc _)).ext HE.out) hl).mono ?_; rintro e w3 ⟨A3, n3, c3, rfl, hO3, he3⟩; obtain rfl := hO3.len)
      have b1' := he3.at b1
      have HE3 := Lib.hid he3
      clear b0 b1 b2 he3
      go_loopw [6] (fun i wr => i = .int .i64 0 ∧ wr = w3) (fun _ _ => 0)
      case atStart => exact ⟨rfl, rfl⟩
      case round =>
        obtain ⟨rfl, rfl⟩ := hrel
        go_wp2_with (go_at_call 39; refine (rneed_any _ (by omega) _).mono ?_; rintro e w4 ⟨rfl, rfl⟩)
        go_ret
        exact ⟨rfl, (((Ext.refl _).alloc _).trans HE.out).trans HE3.out⟩
  · go_enter Try.func54, Try.ntmps54
    go_wp2
    go_loopw [3] (fun i wr => ∃ k : Nat, k ≤ n ∧ i = .int .i64 k ∧ fineX (prevE xs k) (xs.drop k) = fineX none xs ∧ (∀ q, prevE xs k = some q → okE q = true) ∧ Ext (w.alloc (.cells #[.int .i64 m, .int .i64 s, .slice A n c] 65)) wr) (fun i _ => n - (intOf i).toNat)
    case atStart => exact ⟨0, Nat.zero_le _, rfl, rfl, fun q hq => (by cases hq), Ext.refl _⟩
    case round =>
      obtain ⟨k, hk, rfl, hf, hp, he⟩ := hrel
      have b0 := he.at (cell_new w #[.int .i64 m, .int .i64 s, .slice A n c] 65 0 (0, 0) rfl)
      have b1 := he.at (cell_new w #[.int .i64 m, .int .i64 s, .slice A n c] 65 1 (0, 0) rfl)
      have b2 := he.at (cell_new w #[.int .i64 m, .int .i64 s, .slice A n c] 65 2 (0, 0) rfl)
      have HF := Lib.hid hf
      have HP := Lib.hid hp
      have HX := Lib.hid he
      have HW := Lib.hid (((Ext.refl w).alloc _).trans he)
      have hzw : w.heap.size < wr.heap.size := World.block_lt_of_cell? _ _ b0
      clear hf hp he
      by_cases hlt : k < n
      · obtain ⟨b, off, s0, l0, rfl, hx, hq, hbl, hc0, hc1⟩ := H.out.ex k hlt
        have HK := Lib.hid hx
        have hc0 := HW.out.at hc0
        have hc1 := HW.out.at hc1
        have hzb : b < wr.heap.size := World.block_lt_of_cell? _ _ hc0
        have k0 : (0 : Int) ≤ (k : Int) := by omega
        have k9 : (k : Int) < (n : Int) := by omega
        have ST := Lib.hid (fineX_step hx)
        clear hx hq
        by_cases hok : okE (s0, l0) = true
        · obtain ⟨o1, o2, o3, o4, o5⟩ := okE_bd hok
          simp only at o1 o2 o3 o4 o5
          have HOK := Lib.hid hok
          clear hok
          have nxt : ∀ q, prevE xs (k + 1) = some q → okE q = true := fun q hq => by
            simp only [prevE, Nat.add_one_ne_zero, if_false, Nat.add_sub_cancel, HK.out, Option.some.injEq] at hq
            rw [← hq]; exact HOK.out
          have NXT := Lib.hid nxt
          clear nxt
          by_cases hk0 : k = 0
          · have hd0 : decide (0 < k) = false := by simp; omega
            have hm : meets (prevE xs k) (s0, l0) = false := by simp [prevE, hk0, meets]
            have h1 := ST.out
            rw [HF.out, hm, HOK.out] at h1
            have H1 := Lib.hid h1
            clear h1 hm hk0
            go_wp2
            go_quiet (fail)
            go_wp2
            exact ⟨⟨k + 1, by omega, by go_num, by have := H1.out; simpa using this.symm, NXT.out, (HX.out.alloc _).drewN _⟩, by simp [intOf]; omega⟩
          · obtain ⟨b3, o3', s2, l2, hA, hp2, _, _, hq0, hq1⟩ := H.out.ex (k - 1) (by omega)
            simp only [Option.some.injEq, Addr.mk.injEq, and_true] at hA
            obtain ⟨rfl, rfl⟩ := hA
            have hq0 := HW.out.at hq0
            have hq1 := HW.out.at hq1
            have hpv : prevE xs k = some (s2, l2) := by simp [prevE, hk0, hp2]
            obtain ⟨p1, p2, p3, p4, p5⟩ := okE_bd (HP.out _ hpv)
            simp only at p1 p2 p3 p4 p5
            have hd0 : decide (0 < k) = true := by simp; omega
            have k1 : (0 : Int) ≤ (k : Int) - 1 := by omega
            have k2 : (1 : Int) ≤ (k : Int) := by omega
            have k3 : 1 ≤ k := by omega
            have k4 : (k : Int) - 1 < (n : Int) := by omega
            have hw : wrap64 (s2 + l2) = s2 + l2 := IntWalk.wrap64_in _ ⟨by omega, by omega⟩
            have h1 := ST.out
            rw [HF.out, hpv, HOK.out] at h1
            have H1 := Lib.hid h1
            clear h1 hp2 hpv hk0
            by_cases hmt : s0 = s2 + l2
            · have hm : meets (some (s2, l2)) (s0, l0) = true := by simp [meets, hmt]
              have E : checkI (m, s, xs) = 4 := by
                have h1 := H1.out
                rw [hm] at h1
                rw [E0.out, if_pos (chkB_no (by rw [h1]; rfl))]
              have E := Lib.hid E
              have e0 : (s2 + l2 == s0) = true := by simpa using hmt.symm
              clear hm hmt
              go_wp2
              go_quiet (fail)
              go_wp2
              go_ret
              exact ⟨ret_int E.out.symm, (HW.out.alloc _).drewN _⟩
            · have hm : meets (some (s2, l2)) (s0, l0) = false := by simp [meets, hmt]
              have h1 := H1.out
              rw [hm] at h1
              have H2 := Lib.hid h1
              have e0 : (s2 + l2 == s0) = false := by simpa using Ne.symm hmt
              clear hm hmt h1
              go_wp2
              go_quiet (fail)
              go_wp2
              exact ⟨⟨k + 1, by omega, by go_num, by have := H2.out; simpa using this.symm, NXT.out, (HX.out.alloc _).drewN _⟩, by simp [intOf]; omega⟩
        · have E : checkI (m, s, xs) = 4 := by
            have h0 : okE (s0, l0) = false := by simpa using hok
            have h1 := ST.out
            rw [HF.out, h0] at h1
            rw [E0.out, if_pos (chkB_no (by rw [h1]; rfl))]
          have E := Lib.hid E
          have bad : l0 < 1 ∨ (1 ≤ l0 ∧ 8 < l0) ∨ (1 ≤ l0 ∧ l0 ≤ 8 ∧ s0 < 0) ∨ (1 ≤ l0 ∧ l0 ≤ 8 ∧ 0 ≤ s0 ∧ 4095 < s0) ∨ (1 ≤ l0 ∧ l0 ≤ 8 ∧ 0 ≤ s0 ∧ s0 ≤ 4095 ∧ 4096 < s0 + l0) := by
            have h0 : okE (s0, l0) = false := by simpa using hok
            simp only [okE, exR, Bool.and_eq_false_iff, decide_eq_false_iff_not] at h0
            omega
          clear hok
          rcases bad with h1 | ⟨h1, h2⟩ | ⟨h1, h2, h3⟩ | ⟨h1, h2, h3, h4⟩ | ⟨h1, h2, h3, h4, h5⟩
          · go_wp2
            go_ret
            exact ⟨ret_int E.out.symm, HW.out.alloc _⟩
          · go_wp2
            go_ret
            exact ⟨ret_int E.out.symm, HW.out.alloc _⟩
          · go_wp2
            go_ret
            exact ⟨ret_int E.out.symm, HW.out.alloc _⟩
          · go_wp2
            go_ret
            exact ⟨ret_int E.out.symm, HW.out.alloc _⟩
          · go_wp2
            go_ret
            exact ⟨ret_int E.out.symm, HW.out.alloc _⟩
      · have F : fineX none xs = true := by
          have h1 := HF.out
          rw [List.drop_eq_nil_of_le (by rw [← HL.out]; omega)] at h1
          exact h1.symm
        have CB := Lib.hid (chkB_iff (s := s) (by omega) F)
        have hB8 := blkB_len xs
        clear F
        go_wp2_with (go_at_call 47; refine (rblocks_any _ _ _ _ _ _ _ _ (H.out.ext HW.out) hl).mono ?_; rintro e w3 ⟨A3, n3, c3, rfl, hO3, he3⟩)
        have b1' := he3.at b1
        have HE3 := Lib.hid (HW.out.trans he3)
        have HL3 := Lib.hid hO3.len
        have HS3 := Lib.hid (hO3.sl (eI_len _))
        have hn3 : n3 ≤ 8000 := by have := HL.out; rw [hO3.len]; omega
        clear b0 b1 b2 he3 hO3 hB8 hzw
        go_loopw [6] (fun i wr => ∃ k : Nat, k ≤ n3 ∧ i = .int .i64 k ∧ ((blkB xs).take k).Nodup ∧ Drawn w3 wr) (fun i _ => n3 - (intOf i).toNat)
        case atStart => exact ⟨0, Nat.zero_le _, rfl, by simp, Drawn.refl _⟩
        case round =>
          obtain ⟨j, hj, rfl, hnd, hd⟩ := hrel
          have HND := Lib.hid hnd
          have b1' := hd.ext.at b1'
          clear hnd
          by_cases hjl : j < n3
          · obtain ⟨b5, o5, y, rfl, hy, _, hl5, hc5⟩ := (HS3.out.ext hd.ext).num j hjl
            have HY := Lib.hid hy
            clear hy
            have j0 : (0 : Int) ≤ (j : Int) := by omega
            have j1 : (j : Int) < (n3 : Int) := by omega
            have j2 : (j : Int) ≤ (n3 : Int) := by omega
            have hcap := HS3.out.le
            have hmx := HS3.out.mx
            by_cases hm : y ∈ (blkB xs).take j
            · have hd1 : decide (y ∈ (blkB xs).take j) = true := decide_eq_true hm
              have E : checkI (m, s, xs) = 4 := by
                rw [E0.out, if_pos (CB.out.2 (.inl fun hn => ?_))]
                have h1 := hn.sublist (List.take_sublist (j + 1) _)
                rw [take_snoc HY.out, nodup_snoc] at h1
                exact h1.2 hm
              have E := Lib.hid E
              have hm' := Lib.hid hm
              clear hm
              go_wp2
              go_quiet ((go_at_call 86; exact quietD (hasD_any _ _ _ ((blkB xs).take j) y _ _ (((HS3.out.ext hd.ext).take j (by omega) _ (by omega) (by omega)).ext ((Ext.refl _).drewN _)))))
              go_wp2
              go_ret
              exact ⟨ret_int E.out.symm, (HE3.out.trans hd.ext).drewN _⟩
            · have hd1 : decide (y ∈ (blkB xs).take j) = false := decide_eq_false hm
              have HM := Lib.hid hm
              clear hm
              go_wp2
              go_quiet ((go_at_call 86; exact quietD (hasD_any _ _ _ ((blkB xs).take j) y _ _ (((HS3.out.ext hd.ext).take j (by omega) _ (by omega) (by omega)).ext ((Ext.refl _).drewN _)))))
              go_wp2
              exact ⟨⟨j + 1, by omega, by go_num, by rw [take_snoc HY.out, nodup_snoc]; exact ⟨HND.out, HM.out⟩, hd.drewN _⟩, by simp [intOf]; omega⟩
          · have hN : (blkB xs).Nodup := by
              have h1 := HND.out
              rwa [List.take_of_length_le (by rw [← HL3.out]; omega)] at h1
            by_cases hq : (n3 : Int) = needB s
            · have q : ((n3 : Int) != needB s) = false := by simpa using hq
              have E : checkI (m, s, xs) = 0 := by
                rw [E0.out, if_neg]
                intro h1
                rcases CB.out.1 h1 with h2 | h2
                · exact h2 hN
                · exact h2 (by rw [← HL3.out]; exact hq)
              have E := Lib.hid E
              clear hq hN
              go_wp2_with (go_at_call 39; refine (rneed_any _ (by omega) _).mono ?_; rintro e w4 ⟨rfl, rfl⟩)
              go_ret
              exact ⟨ret_int E.out.symm, HE3.out.trans hd.ext⟩
            · have q : ((n3 : Int) != needB s) = true := by simpa using hq
              have E : checkI (m, s, xs) = 4 := by
                rw [E0.out, if_pos (CB.out.2 (.inr fun e => hq (by rw [HL3.out]; exact e)))]
              have E := Lib.hid E
              clear hq hN
              go_wp2_with (go_at_call 39; refine (rneed_any _ (by omega) _).mono ?_; rintro e w4 ⟨rfl, rfl⟩)
              go_ret
              exact ⟨ret_int E.out.symm, HE3.out.trans hd.ext⟩
end Go.Proofs.Ytdocdppimpapiaa

namespace Go.Proofs.Ytdocdppimpapiaa
open Go.RowKit

def extStep (o : List Ex) (b : Int) : List Ex :=
  match o.getLast? with
  | none => o ++ [(b, 1)]
  | some e => if b = wrap64 (e.1 + e.2) ∧ e.2 < 8 then o.set (o.length - 1) (e.1, e.2 + 1) else o ++ [(b, 1)]
def extB (l : List Int) : List Ex := l.foldl extStep []
theorem extB_snoc (l : List Int) (b : Int) : extB (l ++ [b]) = extStep (extB l) b := by simp [extB]
theorem extB_take {l : List Int} {k : Nat} {b : Int} (h : l[k]? = some b) : extB (l.take (k + 1)) = extStep (extB (l.take k)) b := by rw [take_snoc h, extB_snoc]
theorem extStep_nil {o : List Ex} {b : Int} (h : o.length = 0) : extStep o b = o ++ [(b, 1)] := by
  have : o = [] := List.eq_nil_of_length_eq_zero h
  subst this
  rfl
theorem getLast_of {o : List Ex} {n : Nat} {e : Ex} (hn : o.length = n) (h : o[n - 1]? = some e) : o.getLast? = some e := by
  subst hn
  rw [List.getLast?_eq_getElem?]
  exact h
theorem extStep_join {o : List Ex} {b s l : Int} {n : Nat} (hn : o.length = n) (h : o[n - 1]? = some (s, l)) (hb : b = wrap64 (s + l)) (hl : l < 8) : extStep o b = o.set (n - 1) (s, l + 1) := by
  unfold extStep
  rw [getLast_of hn h]
  show (if b = wrap64 (s + l) ∧ l < 8 then o.set (o.length - 1) (s, l + 1) else o ++ [(b, 1)]) = _
  rw [if_pos ⟨hb, hl⟩, hn]
theorem extStep_new {o : List Ex} {b s l : Int} {n : Nat} (hn : o.length = n) (h : o[n - 1]? = some (s, l)) (hb : ¬ (b = wrap64 (s + l) ∧ l < 8)) : extStep o b = o ++ [(b, 1)] := by
  unfold extStep
  rw [getLast_of hn h]
  show (if b = wrap64 (s + l) ∧ l < 8 then o.set (o.length - 1) (s, l + 1) else o ++ [(b, 1)]) = _
  rw [if_neg hb]
theorem extStep_len (o : List Ex) (b : Int) : (extStep o b).length ≤ o.length + 1 := by
  unfold extStep
  split
  · simp
  · split
    · rw [List.length_set]; omega
    · simp
theorem extB_len : ∀ l : List Int, (extB l).length ≤ l.length := snoc_ind (Nat.le_refl _) fun l b ih => by
  have := extStep_len (extB l) b
  rw [extB_snoc, List.length_append, List.length_singleton]
  omega
theorem extStep_bd {o : List Ex} {b : Int} (h : ∀ e ∈ o, 1 ≤ e.2 ∧ e.2 ≤ 8) : ∀ e ∈ extStep o b, 1 ≤ e.2 ∧ e.2 ≤ 8 := by
  have h1 : ∀ e ∈ o ++ [(b, (1 : Int))], 1 ≤ e.2 ∧ e.2 ≤ 8 := fun e he => by
    rcases List.mem_append.1 he with he | he
    · exact h e he
    · rw [List.mem_singleton.1 he]; exact ⟨Int.le_refl 1, show (1 : Int) ≤ 8 by decide⟩
  unfold extStep
  split
  · exact h1
  · rename_i e0 hg
    split
    · rename_i hc
      intro e he
      rcases List.mem_or_eq_of_mem_set he with he | he
      · exact h e he
      · have := h e0 (List.mem_of_getLast? hg)
        rw [he]
        exact ⟨by show 1 ≤ e0.2 + 1; omega, by show e0.2 + 1 ≤ 8; omega⟩
    · exact h1
theorem extB_bd : ∀ l : List Int, ∀ e ∈ extB l, 1 ≤ e.2 ∧ e.2 ≤ 8 := snoc_ind (fun e he => by cases he) fun l b ih => by
  rw [extB_snoc]
  exact extStep_bd ih
theorem flat_set : ∀ (l : List Ex) (i : Nat) (s a b : Int), l[i]? = some (s, a) → (l.set i (s, b)).flatMap eX = (l.flatMap eX).set (i * 2 + 1) (.int .i64 b)
  | [], i, s, a, b, h => by simp at h
  | x :: l, 0, s, a, b, h => by
    simp only [List.getElem?_cons_zero, Option.some.injEq] at h
    subst h
    simp [eX]
  | x :: l, i + 1, s, a, b, h => by
    rw [List.getElem?_cons_succ] at h
    have ih := flat_set l i s a b h
    rw [List.set_cons_succ, List.flatMap_cons, List.flatMap_cons, ih, show (i + 1) * 2 + 1 = (i * 2 + 1) + 2 by omega]
    simp [eX]
theorem Ow.setLen {e base g n cap : Nat} {w : World} {l : List Ex} (h : Ow eX 2 e base w (some ⟨g, 0, none⟩) n cap l) (i : Nat) {s a : Int} (b : Int) (hi : l[i]? = some (s, a)) :
    Ow eX 2 e base (w.setCell ⟨g, i * 2 + 1, none⟩ (.int .i64 b)) (some ⟨g, 0, none⟩) n cap (l.set i (s, b)) ∧ w.grownBy (w.setCell ⟨g, i * 2 + 1, none⟩ (.int .i64 b)) (some g) := by
  obtain ⟨h1, h2⟩ := h.own.stored (i * 2 + 1) (.int .i64 b)
  refine ⟨⟨by rw [List.length_set]; exact h.len, ?_⟩, h2⟩
  rw [flat_set _ _ _ _ _ hi]
  exact h1
theorem info_ex : (Try.prog.info? 86).map (fun i => (i.zero, i.size, i.bytes)) = some (some (.agg #[.int .i64 0, .int .i64 0]), 2, 16) := by kernel_rfl

set_option maxRecDepth 100000 in
set_option maxHeartbeats 4000000 in
theorem extents_any (A : Option Addr) (n c : Nat) (l : List Int) (Q : Nat → Prop) (w : World) (h : Sl (eI .i64) 1 Q w A n c l) (hl : l.length ≤ 8000) :
    Calls Try.prog 81 #[.slice A n c] w fun e w' => ∃ A' n' cap', e = .returned (.slice A' n' cap') ∧ Ow eX 2 86 w.heap.size w' A' n' cap' (extB l) ∧ Ext w w' := by
  have HL := Lib.hid h.len
  have hn : n ≤ 8000 := by rw [h.len]; exact hl
  have H := Lib.hid h.in'
  clear h
  go_enter Try.func81, Try.ntmps81
  go_wp2
  go_loopw [3, 9] (fun v i wr => ∃ (k n' cap' : Nat) (A' : Option Addr), k ≤ n ∧ i = .int .i64 k ∧ v = .slice A' n' cap' ∧ Ow eX 2 86 w.heap.size wr A' n' cap' (extB (l.take k)) ∧ Ext w wr) (fun _ i _ => n - (intOf i).toNat)
  case atStart => exact ⟨0, 0, 0, none, Nat.zero_le _, rfl, rfl, Ow.nil _, Ext.refl _⟩
  case round =>
    obtain ⟨k, n', cap', A', hk, rfl, rfl, hO, he⟩ := hrel
    have HO := Lib.hid hO
    have HX := Lib.hid he
    have hz := he.size
    clear hO he
    by_cases hlt : k < n
    · obtain ⟨b, off, y, rfl, hx, _, hbl, hc0⟩ := H.out.num k hlt
      have HK := Lib.hid hx
      have hc0 := HX.out.at hc0
      have k0 : (0 : Int) ≤ (k : Int) := by omega
      have k9 : (k : Int) < (n : Int) := by omega
      have hEl := extB_len (l.take k)
      rw [List.length_take] at hEl
      have hn8 : n' ≤ 8000 := by rw [HO.out.len]; omega
      have hEl2 : (extB (l.take k)).length ≤ 8000 := by omega
      clear hx hEl
      by_cases hz0 : n' = 0
      · have hd : decide (0 < n') = false := by simp; omega
        have ES := Lib.hid (extStep_nil (b := y) (HO.out.len.symm.trans hz0))
        clear hz0
        go_wp2
        go_quiet (fail)
        go_wp2_with (at_builtin; refine wpList_app _ rfl _ _ 58 rfl info_ex Try.underlying58 rfl (by decide) (eX_len) (eX_one) (HO.out.ext (((Ext.refl _).drewN _).alloc _)) rfl (Sl.laid (eX_len) _ [(y, 1)] _ 86 1 rfl rfl (by decide)) rfl (by simp only [List.length_singleton]; omega) (by simp only [List.length_singleton]; omega) (by exact Nat.le_trans (by simpa using hz) ((Ext.refl _).alloc _).size) ?_; intro A2 n2 cap2 w2 hO2 hg2 hrow _)
        exact ⟨⟨k + 1, n2, cap2, A2, by omega, by go_num, rfl, by rw [extB_take HK.out, ES.out]; exact hO2, Ext.grown ((HX.out.drewN _).alloc _) hg2 fun q hq => (HO.out.lt q hq).1⟩, by simp [intOf]; omega⟩
      · obtain ⟨g, o2, s2, l2, rfl, hp2, hq2, hgl, hq0, hq1⟩ := (HO.out.sl eX_len).ex (n' - 1) (by omega)
        obtain rfl : o2 = 0 := by
          rcases HO.out.own.2 with ⟨hv, _⟩ | ⟨g', cap2, cur, hv, _⟩
          · cases hv
          · injection hv with hv; injection hv with hv; injection hv
        rw [Nat.zero_add] at hq0 hq1
        have f1 := HO.out.free ((n' - 1) * 2 + 1)
        have hbd := extB_bd (l.take k) _ (List.mem_of_getElem? hp2)
        simp only at hbd
        have HP := Lib.hid hp2
        have hlen := HO.out.len
        have HLN := Lib.hid hlen.symm
        have hd : decide (0 < n') = true := by simp; omega
        have k1 : (0 : Int) ≤ (n' : Int) - 1 := by omega
        have k2 : (1 : Int) ≤ (n' : Int) := by omega
        have k3 : 1 ≤ n' := by omega
        have k4 : (n' : Int) - 1 < (n' : Int) := by omega
        obtain ⟨d1, d2⟩ := hbd
        clear hp2 hlen hz0
        by_cases hb : y = wrap64 (s2 + l2)
        · have hb1 : (y == wrap64 (s2 + l2)) = true := by simpa using hb
          by_cases h8 : l2 < 8
          · have hd8 : decide (l2 < 8) = true := decide_eq_true h8
            have ES := Lib.hid (extStep_join HLN.out HP.out hb h8)
            have hgb := (HO.out.lt g rfl).1
            clear hb
            go_wp2
            go_quiet (fail)
            go_wp2
            have hO2 := ((HO.out.ext ((Ext.refl _).drewN nq)).setLen (n' - 1) (l2 + 1) HP.out).1
            exact ⟨⟨k + 1, n', cap', some ⟨g, 0, none⟩, by omega, by go_num, rfl, by rw [extB_take HK.out, ES.out]; exact hO2, (HX.out.drewN _).setCell (p := ⟨g, (n' - 1) * 2 + 1, none⟩) hgb _⟩, by simp [intOf]; omega⟩
          · have hd8 : decide (l2 < 8) = false := decide_eq_false h8
            have ES := Lib.hid (extStep_new (b := y) HLN.out HP.out (fun h => h8 h.2))
            clear hb
            go_wp2
            go_quiet (fail)
            go_wp2_with (at_builtin; refine wpList_app _ rfl _ _ 58 rfl info_ex Try.underlying58 rfl (by decide) (eX_len) (eX_one) (HO.out.ext (((Ext.refl _).drewN _).alloc _)) rfl (Sl.laid (eX_len) _ [(y, 1)] _ 86 1 rfl rfl (by decide)) rfl (by simp only [List.length_singleton]; omega) (by simp only [List.length_singleton]; omega) (by exact Nat.le_trans (by simpa using hz) ((Ext.refl _).alloc _).size) ?_; intro A2 n2 cap2 w2 hO2 hg2 hrow _)
            exact ⟨⟨k + 1, n2, cap2, A2, by omega, by go_num, rfl, by rw [extB_take HK.out, ES.out]; exact hO2, Ext.grown ((HX.out.drewN _).alloc _) hg2 fun q hq => (HO.out.lt q hq).1⟩, by simp [intOf]; omega⟩
        · have hb1 : (y == wrap64 (s2 + l2)) = false := by simpa using hb
          have ES := Lib.hid (extStep_new (b := y) HLN.out HP.out (fun h => hb h.1))
          clear hb
          go_wp2
          go_quiet (fail)
          go_wp2_with (at_builtin; refine wpList_app _ rfl _ _ 58 rfl info_ex Try.underlying58 rfl (by decide) (eX_len) (eX_one) (HO.out.ext (((Ext.refl _).drewN _).alloc _)) rfl (Sl.laid (eX_len) _ [(y, 1)] _ 86 1 rfl rfl (by decide)) rfl (by simp only [List.length_singleton]; omega) (by simp only [List.length_singleton]; omega) (by exact Nat.le_trans (by simpa using hz) ((Ext.refl _).alloc _).size) ?_; intro A2 n2 cap2 w2 hO2 hg2 hrow _)
          exact ⟨⟨k + 1, n2, cap2, A2, by omega, by go_num, rfl, by rw [extB_take HK.out, ES.out]; exact hO2, Ext.grown ((HX.out.drewN _).alloc _) hg2 fun q hq => (HO.out.lt q hq).1⟩, by simp [intOf]; omega⟩
    · have hE : l.take k = l := List.take_of_length_le (by rw [← HL.out]; omega)
      have hO := HO.out
      rw [hE] at hO
      go_wp2
      go_ret
      exact ⟨A', n', cap', rfl, hO, HX.out⟩
end Go.Proofs.Ytdocdppimpapiaa

namespace Go.Proofs.Ytdocdppimpapiaa
open Go.RowKit

def RetIn (r : Ino × Int) (w : World) (e : Ending) (w' : World) : Prop :=
  ∃ A n c, e = .returned (.tuple #[.agg #[.int .i64 r.1.1, .int .i64 r.1.2.1, .slice A n c], .int .i64 r.2]) ∧ Sl eX 2 (fun k => w.heap.size ≤ k) w' A n c r.1.2.2 ∧ Ext w w'
def zeroI : Ino := (0, 0, [])
def ofI (m s : Int) (l : List Int) : Ino × Int :=
  if m ≠ 1 ∧ m ≠ 2 then (zeroI, 1) else if checkI (m, s, extB l) = 0 then ((m, s, extB l), 0) else (zeroI, checkI (m, s, extB l))
theorem slX_nil {Q : Nat → Prop} (w : World) : Sl eX 2 Q w none 0 0 [] := Sl.nil _ _ _ _ (Nat.zero_le _)

set_option maxHeartbeats 1600000 in
theorem iof_any (m s : Int) (A : Option Addr) (n c : Nat) (l : List Int) (Q : Nat → Prop) (w : World) (h : Sl (eI .i64) 1 Q w A n c l) (hl : l.length ≤ 1000) :
    Calls Try.prog 35 #[.int .i64 m, .int .i64 s, .slice A n c] w (RetIn (ofI m s l) w) := by
  have hln := extB_len l
  have H := Lib.hid h
  clear h
  by_cases hm : m ≠ 1 ∧ m ≠ 2
  · have E : ofI m s l = (zeroI, 1) := by unfold ofI; rw [if_pos hm]
    rw [E]
    have m1 : (m != 1) = true := by simpa using hm.1
    have m2 : (m != 2) = true := by simpa using hm.2
    clear hm E
    go_enter Try.func35, Try.ntmps35
    go_wp2
    refine bodyPost_ret (v := .tuple #[.agg #[.int .i64 0, .int .i64 0, .slice none 0 0], .int .i64 1]) (by simp [results, Try.results35, go_sem]) rfl ⟨none, 0, 0, rfl, slX_nil _, ?_⟩
    (repeat (first | exact Ext.refl _ | assumption | refine Ext.alloc ?_ _ | refine Ext.drew ?_ | refine Ext.drewN ?_ _ | refine Ext.setCell ?_ (by simp) _ | (refine Ext.trans ?_ (by assumption))))
  · have mm : m = 1 ∨ ((m != 1) = true ∧ m = 2) := by
      by_cases h : m = 1
      · exact .inl h
      · exact .inr ⟨by simpa using h, Classical.byContradiction fun h2 => hm ⟨h, h2⟩⟩
    by_cases hc : checkI (m, s, extB l) = 0
    · have E : ofI m s l = ((m, s, extB l), 0) := by unfold ofI; rw [if_neg hm, if_pos hc]
      rw [E]
      have HC := Lib.hid hc
      clear E hc hm
      rcases mm with rfl | ⟨m1, rfl⟩
      · go_enter Try.func35, Try.ntmps35
        go_wp2_with (first
          | (go_at_call 81; refine (extents_any _ _ _ _ _ _ (H.out.ext ((Ext.refl _).alloc _)) (by omega)).mono ?_; rintro e w1 ⟨A1, n1, c1, rfl, hO1, he1⟩; have HS := Lib.hid (hO1.sl eX_len); clear hO1)
          | (go_at_call 53; refine (check_ino _ _ _ _ _ _ _ _ (HS.out.ext ((Ext.refl _).alloc _)) (by omega)).mono ?_; rw [HC.out]; rintro e w2 ⟨rfl, he2⟩; have hb6 := ((he1.alloc _).trans he2).heap (heap_alloc_new w _); have a0 := cell_of_heap hb6 0; have a1 := cell_of_heap hb6 1; have a2 := cell_of_heap hb6 2; have b0 := free_of_heap hb6 0; have b1 := free_of_heap hb6 1; have b2 := free_of_heap hb6 2; simp only [List.getElem?_toArray, List.getElem?_cons_zero, List.getElem?_cons_succ] at a0 a1 a2; have hb7 := he2.heap (heap_alloc_new w1 _); have q0 := cell_of_heap hb7 0; have q1 := cell_of_heap hb7 1; have q2 := cell_of_heap hb7 2; simp only [List.getElem?_toArray, List.getElem?_cons_zero, List.getElem?_cons_succ] at q0 q1 q2; have HE2 := Lib.hid (((he1.alloc _).trans he2)); have HE12 := Lib.hid (((Ext.refl w1).alloc _).trans he2); clear hb6 hb7))
        have hx2 := ((Ext.refl w).alloc _).trans HE2.out
        refine bodyPost_ret (v := .tuple #[.agg #[.int .i64 1, .int .i64 s, .slice A1 n1 c1], .int .i64 0]) (by simp [results, Try.results35, go_sem, a0, a1, a2]) rfl ⟨A1, n1, c1, rfl, (HS.out.mut (g := w.heap.size) ((((HE12.out.mut _).setCell 0 _).setCell 1 _).setCell 2 _) (fun k hk => by have := hk.1; simp at this; omega)).mono (fun k hk => by have := hk.1; simp at this; omega), ((hx2.setCell (Nat.le_refl _) _).setCell (Nat.le_refl _) _).setCell (Nat.le_refl _) _⟩
      · go_enter Try.func35, Try.ntmps35
        go_wp2_with (first
          | (go_at_call 81; refine (extents_any _ _ _ _ _ _ (H.out.ext ((Ext.refl _).alloc _)) (by omega)).mono ?_; rintro e w1 ⟨A1, n1, c1, rfl, hO1, he1⟩; have HS := Lib.hid (hO1.sl eX_len); clear hO1)
          | (go_at_call 53; refine (check_ino _ _ _ _ _ _ _ _ (HS.out.ext ((Ext.refl _).alloc _)) (by omega)).mono ?_; rw [HC.out]; rintro e w2 ⟨rfl, he2⟩; have hb6 := ((he1.alloc _).trans he2).heap (heap_alloc_new w _); have a0 := cell_of_heap hb6 0; have a1 := cell_of_heap hb6 1; have a2 := cell_of_heap hb6 2; have b0 := free_of_heap hb6 0; have b1 := free_of_heap hb6 1; have b2 := free_of_heap hb6 2; simp only [List.getElem?_toArray, List.getElem?_cons_zero, List.getElem?_cons_succ] at a0 a1 a2; have hb7 := he2.heap (heap_alloc_new w1 _); have q0 := cell_of_heap hb7 0; have q1 := cell_of_heap hb7 1; have q2 := cell_of_heap hb7 2; simp only [List.getElem?_toArray, List.getElem?_cons_zero, List.getElem?_cons_succ] at q0 q1 q2; have HE2 := Lib.hid (((he1.alloc _).trans he2)); have HE12 := Lib.hid (((Ext.refl w1).alloc _).trans he2); clear hb6 hb7))
        have hx2 := ((Ext.refl w).alloc _).trans HE2.out
        refine bodyPost_ret (v := .tuple #[.agg #[.int .i64 2, .int .i64 s, .slice A1 n1 c1], .int .i64 0]) (by simp [results, Try.results35, go_sem, a0, a1, a2]) rfl ⟨A1, n1, c1, rfl, (HS.out.mut (g := w.heap.size) ((((HE12.out.mut _).setCell 0 _).setCell 1 _).setCell 2 _) (fun k hk => by have := hk.1; simp at this; omega)).mono (fun k hk => by have := hk.1; simp at this; omega), ((hx2.setCell (Nat.le_refl _) _).setCell (Nat.le_refl _) _).setCell (Nat.le_refl _) _⟩
    · have E : ofI m s l = (zeroI, checkI (m, s, extB l)) := by unfold ofI; rw [if_neg hm, if_neg hc]
      rw [E]
      have cc : (checkI (m, s, extB l) != 0) = true := by simpa using hc
      clear E hc hm
      generalize hck : checkI (m, s, extB l) = ck at *
      have HC := Lib.hid hck
      clear hck
      rcases mm with rfl | ⟨m1, rfl⟩
      · go_enter Try.func35, Try.ntmps35
        go_wp2_with (first
          | (go_at_call 81; refine (extents_any _ _ _ _ _ _ (H.out.ext ((Ext.refl _).alloc _)) (by omega)).mono ?_; rintro e w1 ⟨A1, n1, c1, rfl, hO1, he1⟩; have HS := Lib.hid (hO1.sl eX_len); clear hO1)
          | (go_at_call 53; refine (check_ino _ _ _ _ _ _ _ _ (HS.out.ext ((Ext.refl _).alloc _)) (by omega)).mono ?_; rw [HC.out]; rintro e w2 ⟨rfl, he2⟩; have hb6 := ((he1.alloc _).trans he2).heap (heap_alloc_new w _); have a0 := cell_of_heap hb6 0; have a1 := cell_of_heap hb6 1; have a2 := cell_of_heap hb6 2; have b0 := free_of_heap hb6 0; have b1 := free_of_heap hb6 1; have b2 := free_of_heap hb6 2; simp only [List.getElem?_toArray, List.getElem?_cons_zero, List.getElem?_cons_succ] at a0 a1 a2; have hb7 := he2.heap (heap_alloc_new w1 _); have q0 := cell_of_heap hb7 0; have q1 := cell_of_heap hb7 1; have q2 := cell_of_heap hb7 2; simp only [List.getElem?_toArray, List.getElem?_cons_zero, List.getElem?_cons_succ] at q0 q1 q2; have HE2 := Lib.hid (((he1.alloc _).trans he2)); have HE12 := Lib.hid (((Ext.refl w1).alloc _).trans he2); clear hb6 hb7))
        have hx2 := ((Ext.refl w).alloc _).trans HE2.out
        refine bodyPost_ret (v := .tuple #[.agg #[.int .i64 0, .int .i64 0, .slice none 0 0], .int .i64 ck]) (by simp [results, Try.results35, go_sem, a0, a1, a2]) rfl ⟨none, 0, 0, rfl, slX_nil _, ((hx2.setCell (Nat.le_refl _) _).setCell (Nat.le_refl _) _).setCell (Nat.le_refl _) _⟩
      · go_enter Try.func35, Try.ntmps35
        go_wp2_with (first
          | (go_at_call 81; refine (extents_any _ _ _ _ _ _ (H.out.ext ((Ext.refl _).alloc _)) (by omega)).mono ?_; rintro e w1 ⟨A1, n1, c1, rfl, hO1, he1⟩; have HS := Lib.hid (hO1.sl eX_len); clear hO1)
          | (go_at_call 53; refine (check_ino _ _ _ _ _ _ _ _ (HS.out.ext ((Ext.refl _).alloc _)) (by omega)).mono ?_; rw [HC.out]; rintro e w2 ⟨rfl, he2⟩; have hb6 := ((he1.alloc _).trans he2).heap (heap_alloc_new w _); have a0 := cell_of_heap hb6 0; have a1 := cell_of_heap hb6 1; have a2 := cell_of_heap hb6 2; have b0 := free_of_heap hb6 0; have b1 := free_of_heap hb6 1; have b2 := free_of_heap hb6 2; simp only [List.getElem?_toArray, List.getElem?_cons_zero, List.getElem?_cons_succ] at a0 a1 a2; have hb7 := he2.heap (heap_alloc_new w1 _); have q0 := cell_of_heap hb7 0; have q1 := cell_of_heap hb7 1; have q2 := cell_of_heap hb7 2; simp only [List.getElem?_toArray, List.getElem?_cons_zero, List.getElem?_cons_succ] at q0 q1 q2; have HE2 := Lib.hid (((he1.alloc _).trans he2)); have HE12 := Lib.hid (((Ext.refl w1).alloc _).trans he2); clear hb6 hb7))
        have hx2 := ((Ext.refl w).alloc _).trans HE2.out
        refine bodyPost_ret (v := .tuple #[.agg #[.int .i64 0, .int .i64 0, .slice none 0 0], .int .i64 ck]) (by simp [results, Try.results35, go_sem, a0, a1, a2]) rfl ⟨none, 0, 0, rfl, slX_nil _, ((hx2.setCell (Nat.le_refl _) _).setCell (Nat.le_refl _) _).setCell (Nat.le_refl _) _⟩
end Go.Proofs.Ytdocdppimpapiaa

namespace Go.Proofs.Ytdocdppimpapiaa
open Go.RowKit

theorem checkI_ok {m s : Int} {xs : List Ex} (h : checkI (m, s, xs) = 0) : (0 ≤ m ∧ m ≤ 2) ∧ (0 ≤ s ∧ s ≤ 512) ∧ xs.length ≤ 8 ∧ fineB xs = true ∧ ((blkB xs).length : Int) = needB s ∧ (m = 0 → s = 0 ∧ xs = []) := by
  unfold checkI at h
  simp only at h
  split at h
  · exact absurd h (by decide)
  · rename_i h1
    split at h
    · exact absurd h (by decide)
    · rename_i h2
      split at h
      · exact absurd h (by decide)
      · rename_i h3
        split at h
        · exact absurd h (by decide)
        · rename_i h4
          unfold chkA at h3
          unfold chkB at h4
          have n1 : xs.length ≤ 8 := Nat.le_of_not_lt fun h => h4 (.inl h)
          have n2 : fineB xs = true := by
            cases hf : fineB xs with
            | true => rfl
            | false => exact absurd (.inr (.inl hf)) h4
          have n3 : ((blkB xs).length : Int) = needB s := Classical.byContradiction fun h => h4 (.inr (.inr h))
          have n4 : ¬ s < 0 := fun h => h3 (.inl h)
          refine ⟨by omega, by omega, n1, n2, n3, fun hm => ⟨?_, ?_⟩⟩
          · have : ¬ 0 < s := fun h => h3 (.inr ⟨hm, .inl h⟩)
            omega
          · exact Classical.byContradiction fun h => h3 (.inr ⟨hm, .inr h⟩)
theorem checkI_zero {m s : Int} {xs : List Ex} (hm : 1 ≤ m ∧ m ≤ 2) (hs : 0 ≤ s ∧ s ≤ 512) (hl : xs.length ≤ 8) (hf : fineB xs = true) (hn : ((blkB xs).length : Int) = needB s) : checkI (m, s, xs) = 0 := by
  unfold checkI
  simp only
  rw [if_neg (by omega), if_neg (by omega), if_neg, if_neg]
  · rintro (h | h | h)
    · omega
    · rw [hf] at h; cases h
    · exact h hn
  · rintro (h | ⟨h, _⟩)
    · omega
    · omega
theorem fineX_mem : ∀ (l : List Ex) (p : Option Ex), fineX p l = true → ∀ e ∈ l, okE e = true
  | [], _, _, e, he => by cases he
  | x :: l, p, h, e, he => by
    simp only [fineX, Bool.and_eq_true] at h
    rcases List.mem_cons.1 he with rfl | he
    · exact h.1
    · exact fineX_mem l _ h.2.2 e he
theorem fineB_mem {l : List Ex} (h : fineB l = true) : ∀ e ∈ l, okE e = true := by
  simp only [fineB, Bool.and_eq_true] at h
  exact fineX_mem l _ h.1
theorem wrap_small {x : Int} (h0 : 0 ≤ x) (h1 : x ≤ 9000) : wrap64 x = x := by unfold wrap64; omega
theorem exB_one {b : Int} (h : okE (b, 1) = true) : exB (b, 1) = [b] := by
  have hb := okE_bd h
  simp only at hb
  rw [exB_yes (okE_right h)]
  show exUp b 1 = [b]
  rw [exUp_succ]
  simp only [exUp, List.range_zero, List.map_nil, List.nil_append]
  rw [wrap_small (by simpa using hb.2.2.1) (by simp; omega)]
  simp
theorem exB_more {s n : Int} (h : okE (s, n) = true) (h' : okE (s, n + 1) = true) : exB (s, n + 1) = exB (s, n) ++ [s + n] := by
  have hb := okE_bd h
  have hb' := okE_bd h'
  simp only at hb hb'
  rw [exB_yes (okE_right h), exB_yes (okE_right h')]
  show exUp s (n + 1).toNat = exUp s n.toNat ++ [s + n]
  rw [show (n + 1).toNat = n.toNat + 1 by omega, exUp_succ, Int.toNat_of_nonneg (by omega), wrap_small (by omega) (by omega)]
theorem exB_bd {e : Ex} (h : okE e = true) : (exB e).length = e.2.toNat ∧ ∀ x ∈ exB e, 0 ≤ x ∧ x < 4096 := by
  have hb := okE_bd h
  rw [exB_yes (okE_right h)]
  refine ⟨exUp_len _ _, fun x hx => ?_⟩
  unfold exUp at hx
  obtain ⟨i, hi, rfl⟩ := List.mem_map.1 hx
  have hi := List.mem_range.1 hi
  rw [wrap_small (by omega) (by omega)]
  omega
theorem blkB_bd {l : List Ex} (h : ∀ e ∈ l, okE e = true) : ∀ x ∈ blkB l, 0 ≤ x ∧ x < 4096 := fun x hx => by
  unfold blkB at hx
  obtain ⟨e, he, hx⟩ := List.mem_flatMap.1 hx
  exact (exB_bd (h e he)).2 x hx
theorem blkB_mem_len : ∀ {l : List Ex} {e : Ex}, e ∈ l → (exB e).length ≤ (blkB l).length
  | [], e, h => by cases h
  | x :: l, e, h => by
    unfold blkB
    rw [List.flatMap_cons, List.length_append]
    rcases List.mem_cons.1 h with rfl | h
    · omega
    · have := blkB_mem_len h
      unfold blkB at this
      omega
/-- What a block more does to extents. -/
theorem extStep_cases (o : List Ex) (b : Int) :
    (extStep o b = o ++ [(b, 1)] ∧ ∀ q, o.getLast? = some q → ¬ (b = wrap64 (q.1 + q.2) ∧ q.2 < 8)) ∨
    (∃ o' s n, o = o' ++ [(s, n)] ∧ extStep o b = o' ++ [(s, n + 1)] ∧ b = wrap64 (s + n) ∧ n < 8) := by
  rcases List.eq_nil_or_concat o with rfl | ⟨o', ⟨s, n⟩, rfl⟩
  · exact .inl ⟨rfl, fun q hq => by cases hq⟩
  · rw [List.concat_eq_append]
    by_cases hc : b = wrap64 (s + n) ∧ n < 8
    · refine .inr ⟨o', s, n, rfl, ?_, hc.1, hc.2⟩
      rw [extStep_join (n := (o' ++ [(s, n)]).length) rfl (by simp) hc.1 hc.2, List.length_append, List.length_singleton, Nat.add_sub_cancel, List.set_append_right _ _ (Nat.le_refl _), Nat.sub_self]
      rfl
    · refine .inl ⟨extStep_new (n := (o' ++ [(s, n)]).length) (s := s) (l := n) rfl (by simp) hc, fun q hq => ?_⟩
      rw [List.getLast?_concat, Option.some.injEq] at hq
      subst hq
      exact hc
theorem extB_back : ∀ l : List Int, (∀ e ∈ extB l, okE e = true) → blkB (extB l) = l := snoc_ind (fun _ => rfl) fun l b ih h => by
  rw [extB_snoc] at h ⊢
  rcases extStep_cases (extB l) b with ⟨he, _⟩ | ⟨o', s, n, ho, he, hb, hn⟩
  · rw [he] at h ⊢
    rw [blkB_snoc, ih fun e h' => h e (List.mem_append_left _ h'), exB_one (h _ (by simp))]
  · rw [he] at h ⊢
    have hbd := extB_bd l (s, n) (by rw [ho]; simp)
    simp only at hbd
    have h1 := okE_bd (h (s, n + 1) (by simp))
    simp only at h1
    have hk : okE (s, n) = true := by simp [okE, exR]; omega
    have h2 : ∀ e ∈ extB l, okE e = true := fun e h' => by
      rw [ho] at h'
      rcases List.mem_append.1 h' with h' | h'
      · exact h e (List.mem_append_left _ h')
      · rw [List.mem_singleton.1 h']; exact hk
    have h3 := ih h2
    rw [ho, blkB_snoc] at h3
    rw [blkB_snoc, exB_more hk (h _ (by simp)), ← List.append_assoc, h3, hb, wrap_small (by omega) (by omega)]
def lastE (p : Option Ex) (o : List Ex) : Option Ex := match o.getLast? with | none => p | some q => some q
theorem lastE_cons (p : Option Ex) (x : Ex) (o : List Ex) : lastE p (x :: o) = lastE (some x) o := by
  unfold lastE
  cases o with
  | nil => rfl
  | cons y o => rw [List.getLast?_cons_cons]; cases h : (y :: o).getLast? with | none => simp at h | some q => rfl
theorem fineX_snoc : ∀ (o : List Ex) (p : Option Ex) (e : Ex), fineX p (o ++ [e]) = (fineX p o && (okE e && !meets (lastE p o) e))
  | [], p, e => by simp [fineX, lastE]
  | x :: o, p, e => by
    rw [List.cons_append, fineX, fineX_snoc o (some x) e, fineX, lastE_cons]
    cases okE x <;> cases meets p x <;> simp
theorem extB_fine : ∀ l : List Int, (∀ x ∈ l, 0 ≤ x ∧ x < 4096) → l.length ≤ 8 → fineX none (extB l) = true := snoc_ind (fun _ _ => rfl) fun l b ih hx hl => by
  have hb := hx b (by simp)
  rw [List.length_append, List.length_singleton] at hl
  have hf := ih (fun x h => hx x (List.mem_append_left _ h)) (by omega)
  have hm := fineX_mem _ _ hf
  have hk := extB_back l hm
  rw [extB_snoc]
  rcases extStep_cases (extB l) b with ⟨he, hq⟩ | ⟨o', s, n, ho, he, hb', hn⟩
  · rw [he, fineX_snoc, hf, Bool.true_and, Bool.and_eq_true]
    refine ⟨by simp [okE, exR]; omega, ?_⟩
    unfold lastE
    cases hg : (extB l).getLast? with
    | none => rfl
    | some q =>
      have hqm := List.mem_of_getLast? hg
      have hq1 := okE_bd (hm q hqm)
      have hq2 := hq q hg
      have hq3 := blkB_mem_len hqm
      rw [hk, (exB_bd (hm q hqm)).1] at hq3
      rw [wrap_small (by omega) (by omega)] at hq2
      simp only [meets, Bool.not_eq_true', decide_eq_false_iff_not]
      intro e
      exact hq2 ⟨e, by omega⟩
  · rw [ho, fineX_snoc] at hf
    simp only [Bool.and_eq_true] at hf
    have h1 := okE_bd hf.2.1
    simp only at h1
    rw [wrap_small (by omega) (by omega)] at hb'
    rw [he, fineX_snoc, hf.1, Bool.true_and, Bool.and_eq_true]
    exact ⟨by simp [okE, exR]; omega, hf.2.2⟩
theorem extB_check {m s : Int} {l : List Int} (hm : 1 ≤ m ∧ m ≤ 2) (hs : 0 ≤ s ∧ s ≤ 512) (hx : ∀ x ∈ l, 0 ≤ x ∧ x < 4096) (hd : l.Nodup) (hn : (l.length : Int) = needB s) : checkI (m, s, extB l) = 0 := by
  have h8 := needB_le hs.2
  have hf := extB_fine l hx (by omega)
  have hk := extB_back l (fineX_mem _ _ hf)
  refine checkI_zero hm hs ?_ ?_ ?_
  · have := extB_len l; omega
  · unfold fineB; rw [hf, hk, Bool.true_and]; exact decide_eq_true hd
  · rw [hk]; exact hn
theorem ofI_ok {m s : Int} {l : List Int} (h : (ofI m s l).2 = 0) : ofI m s l = ((m, s, extB l), 0) ∧ checkI (m, s, extB l) = 0 ∧ (1 ≤ m ∧ m ≤ 2) ∧ blkB (extB l) = l := by
  unfold ofI at h ⊢
  split at h
  · exact absurd h (by decide)
  · rename_i hm
    split at h
    · rename_i hc
      rw [if_neg hm, if_pos hc]
      exact ⟨rfl, hc, by omega, extB_back l (fineB_mem (checkI_ok hc).2.2.2.1)⟩
    · rename_i hc
      exact absurd h hc

/-- An inode with more blocks. -/
def growI (x : Ino) (size : Int) (l : List Int) : Ino × Int :=
  if checkI x = 0 then (if x.1 = 0 ∨ size < x.2.1 then (zeroI, 12) else ofI x.1 size (blkB x.2.2 ++ l)) else (zeroI, checkI x)
/-- With fewer; those that it has no more; the error. -/
def cutI (x : Ino) (size : Int) : Ino × List Int × Int :=
  if checkI x = 0 then
    (if x.1 = 0 then (zeroI, [], 12) else if size < 0 ∨ x.2.1 < size then (zeroI, [], 20)
     else ((ofI x.1 size ((blkB x.2.2).take (needB size).toNat)).1, (blkB x.2.2).drop (needB size).toNat, (ofI x.1 size ((blkB x.2.2).take (needB size).toNat)).2))
  else (zeroI, [], checkI x)
theorem needB_mono {a b : Int} (h : a ≤ b) : needB a ≤ needB b := by unfold needB; split <;> split <;> omega
theorem needB_nn (a : Int) : 0 ≤ needB a := by unfold needB; split <;> omega
theorem cut_le {x : Ino} {size : Int} (hc : checkI x = 0) (h : size ≤ x.2.1) : (needB size).toNat ≤ (blkB x.2.2).length := by
  obtain ⟨m, s, xs⟩ := x
  have h1 := (checkI_ok hc).2.2.2.2.1
  have h2 := needB_mono h
  have h3 := needB_nn size
  simp only at h1 h2 ⊢
  omega
/-- What grew, and is cut to what it was. -/
theorem back_law {m s size : Int} {xs : List Ex} {l : List Int} (h : (growI (m, s, xs) size l).2 = 0) :
    growI (m, s, xs) size l = ((m, size, extB (blkB xs ++ l)), 0) ∧ blkB (extB (blkB xs ++ l)) = blkB xs ++ l ∧
    cutI (m, size, extB (blkB xs ++ l)) s = ((m, s, extB (blkB xs)), l, 0) ∧ blkB (extB (blkB xs)) = blkB xs ∧ s ≤ size := by
  unfold growI at h ⊢
  simp only at h ⊢
  split at h
  · rename_i hc
    rw [if_pos hc]
    split at h
    · exact absurd h (by decide)
    · rename_i hm
      rw [if_neg hm]
      obtain ⟨h1, h2, h3, h4⟩ := ofI_ok h
      obtain ⟨c1, c2, c3, c4, c5, c6⟩ := checkI_ok hc
      have hlen : (needB s).toNat = (blkB xs).length := by omega
      have hf := c4
      simp only [fineB, Bool.and_eq_true, decide_eq_true_eq] at hf
      have hok : checkI (m, s, extB (blkB xs)) = 0 := extB_check h3 c2 (blkB_bd (fineB_mem c4)) hf.2 c5
      have hof : ofI m s (blkB xs) = ((m, s, extB (blkB xs)), 0) := by unfold ofI; rw [if_neg (by omega), if_pos hok]
      refine ⟨h1, h4, ?_, (ofI_ok (by rw [hof])).2.2.2, by omega⟩
      unfold cutI
      simp only
      rw [if_pos h2, if_neg (by omega), if_neg (by omega), h4, hlen, List.take_left, List.drop_left, hof]
  · rename_i hc
    exact absurd h hc
end Go.Proofs.Ytdocdppimpapiaa

namespace Go.Proofs.Ytdocdppimpapiaa
open Go.RowKit

set_option maxHeartbeats 800000 in
/-- slices.Grow of no slice: room, nothing in it. -/
theorem growI_any (m : Nat) (w : World) (hm : m ≤ 1048576) :
    Calls Try.prog 109 #[.slice none 0 0, .int .i64 m] w fun e w' => ∃ A cap, e = .returned (.slice A 0 cap) ∧ Ow (eI .i64) 1 3 w.heap.size w' A 0 cap ([] : List Int) ∧ Ext w w' := by
  by_cases h0 : m = 0
  · subst h0
    go_enter Try.func109, Try.ntmps109
    go_wp2
    go_ret
    exact ⟨none, 0, rfl, Ow.nil _, Ext.refl _⟩
  · obtain ⟨i, hi, hz, hsi, hby⟩ := info_parts info_int
    have hm0 : (0 : Int) < (m : Int) := by omega
    have hm1 : (0 : Int) ≤ (m : Int) := by omega
    have hr := fun (w : World) (ty : Nat) => Lib.run_append_nil_zeros (P := Try.prog) w 57 3 ty 3 i _ .i64 .i64 Try.underlying57 Try.underlying3 hi hz m (by omega) (by rw [hsi]; decide) (by omega) (by rw [hby]; omega)
    have HR := Lib.hid hr
    have HC := Lib.hid (grownCap_ge w m 0 3)
    have HD := Lib.hid (grownCap_le_maxLen w m 0 3 (by unfold maxLen; omega))
    clear hr hi hz hsi hby
    go_enter Try.func109, Try.ntmps109
    go_wp2_with (at_builtin; refine Lib.wpList_append_run _ rfl _ _ _ _ rfl _ _ rfl rfl _ _ (HR.out _ _) ?_)
    all_goals (try go_wp2)
    go_ret
    refine ⟨_, _, rfl, ⟨rfl, rfl, .inr ⟨w.heap.size, _, _, rfl, Nat.le_refl _, heap_alloc_new w.drew _, Nat.zero_le _, HD.out, ?_, rfl⟩⟩, ((Ext.refl _).drew).alloc _⟩
    have := HC.out
    rw [Array.size_append, size_zeroCells, size_zeroCells]
    show m * 1 + (grownCap w m 0 3 - m) * 1 = _ * 1
    omega

set_option maxHeartbeats 1600000 in
theorem concatI_any (A : Option Addr) (m cap : Nat) (hs : List (Option Addr × Nat × Nat)) (ls : List (List Int)) (Q Q' : Nat → Prop) (w : World) (h : Sl eH 1 Q w A m cap hs)
    (hls : Each (fun h l => Sl (eI .i64) 1 Q' w h.1 h.2.1 h.2.2 l) hs ls) (hl : ls.flatten.length ≤ 1048576) :
    Calls Try.prog 84 #[.slice A m cap] w (RetSl (eI .i64) 1 ls.flatten w) := by
  have hm := Nat.le_trans h.le h.mx
  have HM := Lib.hid h.len
  have H := Lib.hid h
  have HL := Lib.hid hls
  clear h hls
  go_enter Try.func84, Try.ntmps84
  go_wp2
  go_loop [3, 5, 11] (fun s _ i => ∃ k : Nat, k ≤ m ∧ i = .int .i64 k ∧ s = .int .i64 (totL ls k : Nat)) (fun _ _ i => m - (intOf i).toNat)
  case atStart => exact ⟨0, Nat.zero_le _, rfl, by rw [totL_zero]; rfl⟩
  case round =>
    obtain ⟨k, hk, rfl, rfl⟩ := hrel
    by_cases hlt : k < m
    · obtain ⟨b, off, hd, rfl, hx, _, _, hc⟩ := H.out.head k hlt
      obtain ⟨l, hxl, hsl⟩ := HL.out.get hx
      have hlen := totL_next ls hxl
      have hle := totL_le ls (k + 1)
      have HX := Lib.hid hx
      have HS := Lib.hid hsl.len
      have HXL := Lib.hid hxl
      have HE := Lib.hid hlen
      have hsum : totL ls k + hd.2.1 ≤ 1048576 := by rw [hsl.len]; omega
      have hs0 : (0 : Int) ≤ (totL ls k : Int) + (hd.2.1 : Int) := by omega
      clear hx hsl hxl hlen hle
      go_wp2
      refine ⟨⟨k + 1, by omega, by go_num, by rw [HE.out, ← HS.out]; go_num⟩, by simp [intOf]; omega⟩
    · obtain rfl : k = m := by omega
      have hkl : ls.length ≤ k := by rw [HM.out, HL.out.length]; exact Nat.le_refl _
      have hE := totL_all ls hkl
      have hE2 : (ls.take k).flatten = ls.flatten := by rw [List.take_of_length_le hkl]
      have HE2 := Lib.hid hE2
      clear hkl hE2
      have HE := Lib.hid hE
      clear hE
      go_wp2_with (go_at_call 109; rw [HE.out]; refine (growI_any _ _ hl).mono ?_; rintro e w1 ⟨A1, cap1, rfl, hO1, he1⟩)
      go_loopw [6, 8, 27] (fun v _ i wr => ∃ (j n' cap' : Nat) (A' : Option Addr), j ≤ k ∧ i = .int .i64 j ∧ v = .slice A' n' cap' ∧ Ow (eI .i64) 1 3 w.heap.size wr A' n' cap' (ls.take j).flatten ∧ Ext w wr) (fun _ _ i _ => k - (intOf i).toNat)
      case atStart => exact ⟨0, 0, cap1, A1, Nat.zero_le _, rfl, rfl, hO1, he1⟩
      case round =>
        clear hO1 he1
        obtain ⟨j, n', cap', A', hj, rfl, rfl, hO, he⟩ := hrel
        by_cases hlt2 : j < k
        · obtain ⟨b, off, hd, rfl, hx, _, _, hc⟩ := (H.out.ext he).head j hlt2
          obtain ⟨l, hxl, hsl⟩ := HL.out.get hx
          have hsl' := hsl.ext he
          have hlen := totL_next ls hxl
          have hle := totL_le ls (j + 1)
          have hs1 : (ls.take j).flatten.length + l.length ≤ 1048576 := by unfold totL at hlen hle; omega
          have HXL := Lib.hid hxl
          have HO := Lib.hid hO
          have HS := Lib.hid hsl'
          have HX2 := Lib.hid he
          have hz := he.size
          clear hx hsl hxl hlen hle hO hsl' he
          go_wp2_with (at_builtin; refine wpList_app _ rfl _ _ 57 rfl info_int Try.underlying57 rfl (by decide) (eI_len _) (eI_one _) HO.out rfl HS.out rfl (by omega) (by omega) hz ?_; intro A2 n2 cap2 w2 hO2 hg2 hrow _)
          refine ⟨⟨j + 1, n2, cap2, A2, by omega, by go_num, rfl, ?_, Ext.grown HX2.out hg2 fun q hq => (HO.out.lt q hq).1⟩, by simp [intOf]; omega⟩
          rw [List.take_add_one, HXL.out, Option.toList_some, List.flatten_append, List.flatten_singleton]
          exact hO2
        · obtain rfl : j = k := by omega
          rw [HE2.out] at hO
          go_wp2
          go_ret
          exact ⟨A', n', cap', rfl, (hO.sl (eI_len _)).mono fun _ h => h.1, he⟩
end Go.Proofs.Ytdocdppimpapiaa

namespace Go.Proofs.Ytdocdppimpapiaa
open Go.RowKit

set_option maxHeartbeats 3200000 in
theorem igrow_any (m s size : Int) (A B : Option Addr) (n c k d : Nat) (xs : List Ex) (l : List Int) (Q R : Nat → Prop) (w : World) (h : Sl eX 2 Q w A n c xs) (h' : Sl (eI .i64) 1 R w B k d l) (hl : xs.length ≤ 100) (hl' : l.length ≤ 100) :
    Calls Try.prog 42 #[.agg #[.int .i64 m, .int .i64 s, .slice A n c], .int .i64 size, .slice B k d] w (RetIn (growI (m, s, xs) size l) w) := by
  have H := Lib.hid h
  have H' := Lib.hid h'
  clear h h'
  have box : ∀ (o1 o2 : Obj), Ext w ((w.alloc o1).alloc o2) := fun o1 o2 => ((Ext.refl w).alloc o1).alloc o2
  by_cases hc : checkI (m, s, xs) = 0
  · have HC := Lib.hid hc
    by_cases hm : m = 0 ∨ size < s
    · have E : growI (m, s, xs) size l = (zeroI, 12) := by unfold growI; rw [if_pos hc, if_pos hm]
      rw [E]
      have hm2 : m = 0 ∨ ((m == 0) = false ∧ size < s) := by
        by_cases h0 : m = 0
        · exact .inl h0
        · exact .inr ⟨by simpa using h0, hm.resolve_left h0⟩
      clear hc E hm
      rcases hm2 with rfl | ⟨m0, ms⟩
      · go_enter Try.func42, Try.ntmps42
        go_wp2_with (go_at_call 53; refine (check_ino _ _ _ _ _ _ _ _ (H.out.ext (box _ _)) (by omega)).mono ?_; rw [HC.out]; rintro e w2 ⟨rfl, he2⟩; have hb := he2.heap (((Ext.refl _).alloc _).heap (heap_alloc_new w _)); have a0 := cell_of_heap hb 0; have a1 := cell_of_heap hb 1; have a2 := cell_of_heap hb 2; simp only [List.getElem?_toArray, List.getElem?_cons_zero, List.getElem?_cons_succ] at a0 a1 a2; have hr := he2.heap (heap_new2 w _ _); have r0 := cell_of_heap hr 0; have r1 := cell_of_heap hr 1; have r2 := cell_of_heap hr 2; simp only [List.getElem?_toArray, List.getElem?_cons_zero, List.getElem?_cons_succ] at r0 r1 r2; have f0 := free_of_heap hr 0; have f1 := free_of_heap hr 1; have f2 := free_of_heap hr 2; replace hb := Lib.hid hb; replace hr := Lib.hid hr; replace he2 := Lib.hid he2)
        refine bodyPost_ret (v := .tuple #[.agg #[.int .i64 0, .int .i64 0, .slice none 0 0], .int .i64 12]) (by simp [results, Try.results42, go_sem, r0, r1, r2]) rfl ⟨none, 0, 0, rfl, slX_nil _, (((((box _ _).trans he2.out).setCell (Nat.le_succ _) _).setCell (Nat.le_succ _) _).setCell (Nat.le_succ _) _)⟩
      · go_enter Try.func42, Try.ntmps42
        go_wp2_with (go_at_call 53; refine (check_ino _ _ _ _ _ _ _ _ (H.out.ext (box _ _)) (by omega)).mono ?_; rw [HC.out]; rintro e w2 ⟨rfl, he2⟩; have hb := he2.heap (((Ext.refl _).alloc _).heap (heap_alloc_new w _)); have a0 := cell_of_heap hb 0; have a1 := cell_of_heap hb 1; have a2 := cell_of_heap hb 2; simp only [List.getElem?_toArray, List.getElem?_cons_zero, List.getElem?_cons_succ] at a0 a1 a2; have hr := he2.heap (heap_new2 w _ _); have r0 := cell_of_heap hr 0; have r1 := cell_of_heap hr 1; have r2 := cell_of_heap hr 2; simp only [List.getElem?_toArray, List.getElem?_cons_zero, List.getElem?_cons_succ] at r0 r1 r2; have f0 := free_of_heap hr 0; have f1 := free_of_heap hr 1; have f2 := free_of_heap hr 2; replace hb := Lib.hid hb; replace hr := Lib.hid hr; replace he2 := Lib.hid he2)
        refine bodyPost_ret (v := .tuple #[.agg #[.int .i64 0, .int .i64 0, .slice none 0 0], .int .i64 12]) (by simp [results, Try.results42, go_sem, r0, r1, r2]) rfl ⟨none, 0, 0, rfl, slX_nil _, (((((box _ _).trans he2.out).setCell (Nat.le_succ _) _).setCell (Nat.le_succ _) _).setCell (Nat.le_succ _) _)⟩
    · have E : growI (m, s, xs) size l = ofI m size (blkB xs ++ l) := by unfold growI; rw [if_pos hc, if_neg hm]
      rw [E]
      have m0 : (m == 0) = false := by simp; omega
      have ms : ¬ size < s := by omega
      clear hc E hm
      go_enter Try.func42, Try.ntmps42
      go_wp2_with (go_at_call 53; refine (check_ino _ _ _ _ _ _ _ _ (H.out.ext (box _ _)) (by omega)).mono ?_; rw [HC.out]; rintro e w2 ⟨rfl, he2⟩; have hb := he2.heap (((Ext.refl _).alloc _).heap (heap_alloc_new w _)); have a0 := cell_of_heap hb 0; have a1 := cell_of_heap hb 1; have a2 := cell_of_heap hb 2; simp only [List.getElem?_toArray, List.getElem?_cons_zero, List.getElem?_cons_succ] at a0 a1 a2; have hr := he2.heap (heap_new2 w _ _); have r0 := cell_of_heap hr 0; have r1 := cell_of_heap hr 1; have r2 := cell_of_heap hr 2; simp only [List.getElem?_toArray, List.getElem?_cons_zero, List.getElem?_cons_succ] at r0 r1 r2; have f0 := free_of_heap hr 0; have f1 := free_of_heap hr 1; have f2 := free_of_heap hr 2; replace hb := Lib.hid hb; replace hr := Lib.hid hr; replace he2 := Lib.hid he2)
      have hlen : ([blkB xs, l] : List (List Int)).flatten.length ≤ 1048576 := by have := blkB_len xs; simp; omega
      have hcat : ([blkB xs, l] : List (List Int)).flatten = blkB xs ++ l := by simp
      have HL2 := Lib.hid hlen
      have HCT := Lib.hid hcat
      have hX : Ext w w2 := (box _ _).trans he2.out
      clear hlen hcat
      go_region_held3 (fun W => W.cell? ⟨w.heap.size, 0, none⟩ = some (.int .i64 m) ∧ W.cell? ⟨w.heap.size, 1, none⟩ = some (.int .i64 s) ∧ W.cell? ⟨w.heap.size, 2, none⟩ = some (.slice A n c) ∧ W.frozen? ⟨w.heap.size + 1, 0, none⟩ = false ∧ W.frozen? ⟨w.heap.size + 1, 1, none⟩ = false ∧ W.frozen? ⟨w.heap.size + 1, 2, none⟩ = false ∧ W.cell? ⟨w.heap.size + 1, 0, none⟩ = some (rv W ⟨w.heap.size + 1, 0, none⟩) ∧ W.cell? ⟨w.heap.size + 1, 1, none⟩ = some (rv W ⟨w.heap.size + 1, 1, none⟩) ∧ W.cell? ⟨w.heap.size + 1, 2, none⟩ = some (rv W ⟨w.heap.size + 1, 2, none⟩) ∧ w.heap.size + 1 < W.heap.size ∧ Ext w W)
        (first
          | exact ⟨a0, a1, a2, f0, f1, f2, rv_of r0, rv_of r1, rv_of r2, lt_of_heap hr.out, hX.drew⟩
          | (go_split_ands; refine ⟨he3.at (by assumption), he3.at (by assumption), he3.at (by assumption), he3.free' (by assumption) (by assumption), he3.free' (by assumption) (by assumption), he3.free' (by assumption) (by assumption), he3.rv (by assumption), he3.rv (by assumption), he3.rv (by assumption), Nat.lt_of_lt_of_le (by assumption) he3.size, Ext.trans (by assumption) he3⟩)
          | (go_split_ands; refine ⟨((Ext.refl _).alloc _).at (by assumption), ((Ext.refl _).alloc _).at (by assumption), ((Ext.refl _).alloc _).at (by assumption), ((Ext.refl _).alloc _).free' (by assumption) (by assumption), ((Ext.refl _).alloc _).free' (by assumption) (by assumption), ((Ext.refl _).alloc _).free' (by assumption) (by assumption), ((Ext.refl _).alloc _).rv (by assumption), ((Ext.refl _).alloc _).rv (by assumption), ((Ext.refl _).alloc _).rv (by assumption), Nat.lt_of_lt_of_le (by assumption) ((Ext.refl _).alloc _).size, Ext.alloc (by assumption) _⟩)
          | (go_split_ands; refine ⟨?_, ?_, ?_, ?_, ?_, ?_, rv_set (rv_set (rv_set (by assumption))), rv_set (rv_set (rv_set (by assumption))), rv_set (rv_set (rv_set (by assumption))), ?_, Ext.setCell (Ext.setCell (Ext.setCell (by assumption) (Nat.le_succ _) _) (Nat.le_succ _) _) (Nat.le_succ _) _⟩ <;> go_keep)
          | go_keep)
        (first
          | (go_at_call 41; go_must (refine (blocks_any _ _ _ _ _ _ _ _ (H.out.ext (by (repeat (first | exact Ext.refl _ | assumption | refine Ext.alloc ?_ _ | refine Ext.drew ?_ | refine Ext.drewN ?_ _ | refine Ext.setCell ?_ (by simp) _ | (refine Ext.trans ?_ (by assumption)))))) (by omega)).mono ?_); rintro e w3 ⟨A3, n3, c3, rfl, hO3, he3⟩; replace hO3 := Lib.hid hO3)
          | (go_at_call 84; go_must (refine (concatI_any _ _ _ [(A3, n3, c3), (B, k, d)] [blkB xs, l] _ (fun _ => True) _ ((Sl.laid eH_len _ [(A3, n3, c3), (B, k, d)] _ _ 2 rfl rfl (by decide)).ext (by (repeat (first | exact Ext.refl _ | assumption | refine Ext.alloc ?_ _ | refine Ext.drew ?_ | refine Ext.drewN ?_ _ | refine Ext.setCell ?_ (by simp) _ | (refine Ext.trans ?_ (by assumption)))))) (Each.cons (((hO3.out.sl (eI_len _)).ext (by (repeat (first | exact Ext.refl _ | assumption | refine Ext.alloc ?_ _ | refine Ext.drew ?_ | refine Ext.drewN ?_ _ | refine Ext.setCell ?_ (by simp) _ | (refine Ext.trans ?_ (by assumption)))))).mono fun _ _ => trivial) (Each.cons ((H'.out.ext (by (repeat (first | exact Ext.refl _ | assumption | refine Ext.alloc ?_ _ | refine Ext.drew ?_ | refine Ext.drewN ?_ _ | refine Ext.setCell ?_ (by simp) _ | (refine Ext.trans ?_ (by assumption)))))).mono fun _ _ => trivial) (Each.nil _))) HL2.out).mono ?_); rintro e w4 ⟨A4, n4, c4, rfl, hS4, he3⟩; rw [HCT.out] at hS4; replace hS4 := Lib.hid hS4)
          | (go_at_call 35; go_must (refine (iof_any _ _ _ _ _ _ _ _ (hS4.out.ext (by (repeat (first | exact Ext.refl _ | assumption | refine Ext.alloc ?_ _ | refine Ext.drew ?_ | refine Ext.drewN ?_ _ | refine Ext.setCell ?_ (by simp) _ | (refine Ext.trans ?_ (by assumption)))))) (by have := blkB_len xs; simp; omega)).mono ?_); rintro e w5 ⟨A5, n5, c5, rfl, hS5, he3⟩; replace hS5 := Lib.hid hS5))
      all_goals (rename_i hS; obtain ⟨-, -, -, -, -, -, -, -, -, s9, s10⟩ := hS; go_wp2)
      all_goals (
        have hq : w2.drew.heap.size ≤ w3.heap.size := Ext.size (by assumption)
        have hq2 : (w3.alloc (Obj.cells #[Value.slice A3 n3 c3, Value.slice B k d] 57)).heap.size ≤ w4.heap.size := Ext.size (by assumption)
        have hq3 := lt_of_heap hr.out
        have hr5 := he3.heap (Ext.heap (a := w3.alloc (Obj.cells #[Value.slice A3 n3 c3, Value.slice B k d] 57)) (by assumption) (((Ext.refl w3).alloc _).heap (Ext.heap (a := w2.drew) (by assumption) (((Ext.refl w2).drew).heap hr.out))))
        have p0 := cell_of_heap hr5 0; have p1 := cell_of_heap hr5 1; have p2 := cell_of_heap hr5 2; simp only [List.getElem?_toArray, List.getElem?_cons_zero, List.getElem?_cons_succ] at p0 p1 p2
        have hq4 : w.heap.size + 1 < w4.heap.size := by simp at hq hq2; omega
        refine bodyPost_ret (v := .tuple #[.agg #[.int .i64 (ofI m size (blkB xs ++ l)).1.1, .int .i64 (ofI m size (blkB xs ++ l)).1.2.1, .slice A5 n5 c5], .int .i64 (ofI m size (blkB xs ++ l)).2]) (by simp [results, Try.results42, go_sem, p0, p1, p2]) rfl ⟨A5, n5, c5, rfl, (hS5.out.mut (g := w.heap.size + 1) ((((Mut.refl _ w5).setCell 0 _).setCell 1 _).setCell 2 _) (fun k hk => by omega)).mono (fun k hk => by omega), s10⟩)
  · have E : growI (m, s, xs) size l = (zeroI, checkI (m, s, xs)) := by unfold growI; rw [if_neg hc]
    rw [E]
    have e0 : (checkI (m, s, xs) != 0) = true := by simp [hc]
    clear hc E
    go_enter Try.func42, Try.ntmps42
    go_wp2_with (go_at_call 53; refine (check_ino _ _ _ _ _ _ _ _ (H.out.ext (box _ _)) (by omega)).mono ?_; rintro e w2 ⟨rfl, he2⟩; have hb := he2.heap (((Ext.refl _).alloc _).heap (heap_alloc_new w _)); have a0 := cell_of_heap hb 0; have a1 := cell_of_heap hb 1; have a2 := cell_of_heap hb 2; simp only [List.getElem?_toArray, List.getElem?_cons_zero, List.getElem?_cons_succ] at a0 a1 a2; have hr := he2.heap (heap_new2 w _ _); have r0 := cell_of_heap hr 0; have r1 := cell_of_heap hr 1; have r2 := cell_of_heap hr 2; simp only [List.getElem?_toArray, List.getElem?_cons_zero, List.getElem?_cons_succ] at r0 r1 r2; have f0 := free_of_heap hr 0; have f1 := free_of_heap hr 1; have f2 := free_of_heap hr 2; replace hb := Lib.hid hb; replace hr := Lib.hid hr; replace he2 := Lib.hid he2)
    refine bodyPost_ret (v := .tuple #[.agg #[.int .i64 0, .int .i64 0, .slice none 0 0], .int .i64 (checkI (m, s, xs))]) (by simp [results, Try.results42, go_sem, r0, r1, r2]) rfl ⟨none, 0, 0, rfl, slX_nil _, (((((box _ _).trans he2.out).setCell (Nat.le_succ _) _).setCell (Nat.le_succ _) _).setCell (Nat.le_succ _) _)⟩
end Go.Proofs.Ytdocdppimpapiaa

namespace Go.Proofs.Ytdocdppimpapiaa
open Go.RowKit

def RetCut (r : Ino × List Int × Int) (w : World) (e : Ending) (w' : World) : Prop :=
  ∃ A n c B k d, e = .returned (.tuple #[.agg #[.int .i64 r.1.1, .int .i64 r.1.2.1, .slice A n c], .slice B k d, .int .i64 r.2.2]) ∧ Sl eX 2 (fun k => w.heap.size ≤ k) w' A n c r.1.2.2 ∧ Sl (eI .i64) 1 (fun k => w.heap.size ≤ k) w' B k d r.2.1 ∧ Ext w w'
theorem cutI_err {x : Ino} {size : Int} (h : checkI x ≠ 0) : cutI x size = (zeroI, [], checkI x) := by unfold cutI; rw [if_neg h]
theorem cutI_free {x : Ino} {size : Int} (h : checkI x = 0) (h0 : x.1 = 0) : cutI x size = (zeroI, [], 12) := by unfold cutI; rw [if_pos h, if_pos h0]
theorem cutI_range {x : Ino} {size : Int} (h : checkI x = 0) (h0 : x.1 ≠ 0) (hs : size < 0 ∨ x.2.1 < size) : cutI x size = (zeroI, [], 20) := by unfold cutI; rw [if_pos h, if_neg h0, if_pos hs]
theorem cutI_ok {x : Ino} {size : Int} {q : Nat} (h : checkI x = 0) (h0 : x.1 ≠ 0) (hs : ¬ (size < 0 ∨ x.2.1 < size)) (hq : needB size = q) :
    cutI x size = ((ofI x.1 size ((blkB x.2.2).take q)).1, (blkB x.2.2).drop q, (ofI x.1 size ((blkB x.2.2).take q)).2) := by
  unfold cutI
  rw [if_pos h, if_neg h0, if_neg hs, hq, Int.toNat_natCast]

set_option maxHeartbeats 3200000 in
theorem icut_any (m s size : Int) (A : Option Addr) (n c : Nat) (xs : List Ex) (Q : Nat → Prop) (w : World) (h : Sl eX 2 Q w A n c xs) (hl : xs.length ≤ 400) :
    Calls Try.prog 45 #[.agg #[.int .i64 m, .int .i64 s, .slice A n c], .int .i64 size] w (RetCut (cutI (m, s, xs) size) w) := by
  have H := Lib.hid h
  clear h
  have box : ∀ (o1 o2 : Obj), Ext w ((w.alloc o1).alloc o2) := fun o1 o2 => ((Ext.refl w).alloc o1).alloc o2
  by_cases hc : checkI (m, s, xs) = 0
  · have HC := Lib.hid hc
    by_cases h0 : m = 0
    · subst h0
      rw [cutI_free hc rfl]
      clear hc
      go_enter Try.func45, Try.ntmps45
      go_wp2_with (go_at_call 53; refine (check_ino _ _ _ _ _ _ _ _ (H.out.ext (box _ _)) (by omega)).mono ?_; rw [HC.out]; rintro e w2 ⟨rfl, he2⟩; have hb := he2.heap (((Ext.refl _).alloc _).heap (heap_alloc_new w _)); have a0 := cell_of_heap hb 0; have a1 := cell_of_heap hb 1; have a2 := cell_of_heap hb 2; simp only [List.getElem?_toArray, List.getElem?_cons_zero, List.getElem?_cons_succ] at a0 a1 a2; have hr := he2.heap (heap_new2 w _ _); have r0 := cell_of_heap hr 0; have r1 := cell_of_heap hr 1; have r2 := cell_of_heap hr 2; simp only [List.getElem?_toArray, List.getElem?_cons_zero, List.getElem?_cons_succ] at r0 r1 r2; have f0 := free_of_heap hr 0; have f1 := free_of_heap hr 1; have f2 := free_of_heap hr 2; replace hb := Lib.hid hb; replace hr := Lib.hid hr; replace he2 := Lib.hid he2)
      refine bodyPost_ret (v := .tuple #[.agg #[.int .i64 0, .int .i64 0, .slice none 0 0], .slice none 0 0, .int .i64 12]) (by simp [results, Try.results45, go_sem, r0, r1, r2]) rfl ⟨none, 0, 0, none, 0, 0, rfl, slX_nil _, Sl.nil _ _ _ _ (Nat.zero_le _), (((((box _ _).trans he2.out).setCell (Nat.le_succ _) _).setCell (Nat.le_succ _) _).setCell (Nat.le_succ _) _)⟩
    · have m0 : (m == 0) = false := by simpa using h0
      by_cases hs : size < 0
      · rw [cutI_range hc h0 (.inl hs)]
        clear hc h0
        go_enter Try.func45, Try.ntmps45
        go_wp2_with (go_at_call 53; refine (check_ino _ _ _ _ _ _ _ _ (H.out.ext (box _ _)) (by omega)).mono ?_; rw [HC.out]; rintro e w2 ⟨rfl, he2⟩; have hb := he2.heap (((Ext.refl _).alloc _).heap (heap_alloc_new w _)); have a0 := cell_of_heap hb 0; have a1 := cell_of_heap hb 1; have a2 := cell_of_heap hb 2; simp only [List.getElem?_toArray, List.getElem?_cons_zero, List.getElem?_cons_succ] at a0 a1 a2; have hr := he2.heap (heap_new2 w _ _); have r0 := cell_of_heap hr 0; have r1 := cell_of_heap hr 1; have r2 := cell_of_heap hr 2; simp only [List.getElem?_toArray, List.getElem?_cons_zero, List.getElem?_cons_succ] at r0 r1 r2; have f0 := free_of_heap hr 0; have f1 := free_of_heap hr 1; have f2 := free_of_heap hr 2; replace hb := Lib.hid hb; replace hr := Lib.hid hr; replace he2 := Lib.hid he2)
        refine bodyPost_ret (v := .tuple #[.agg #[.int .i64 0, .int .i64 0, .slice none 0 0], .slice none 0 0, .int .i64 20]) (by simp [results, Try.results45, go_sem, r0, r1, r2]) rfl ⟨none, 0, 0, none, 0, 0, rfl, slX_nil _, Sl.nil _ _ _ _ (Nat.zero_le _), (((((box _ _).trans he2.out).setCell (Nat.le_succ _) _).setCell (Nat.le_succ _) _).setCell (Nat.le_succ _) _)⟩
      · by_cases hs2 : s < size
        · rw [cutI_range hc h0 (.inr hs2)]
          clear hc h0
          go_enter Try.func45, Try.ntmps45
          go_wp2_with (go_at_call 53; refine (check_ino _ _ _ _ _ _ _ _ (H.out.ext (box _ _)) (by omega)).mono ?_; rw [HC.out]; rintro e w2 ⟨rfl, he2⟩; have hb := he2.heap (((Ext.refl _).alloc _).heap (heap_alloc_new w _)); have a0 := cell_of_heap hb 0; have a1 := cell_of_heap hb 1; have a2 := cell_of_heap hb 2; simp only [List.getElem?_toArray, List.getElem?_cons_zero, List.getElem?_cons_succ] at a0 a1 a2; have hr := he2.heap (heap_new2 w _ _); have r0 := cell_of_heap hr 0; have r1 := cell_of_heap hr 1; have r2 := cell_of_heap hr 2; simp only [List.getElem?_toArray, List.getElem?_cons_zero, List.getElem?_cons_succ] at r0 r1 r2; have f0 := free_of_heap hr 0; have f1 := free_of_heap hr 1; have f2 := free_of_heap hr 2; replace hb := Lib.hid hb; replace hr := Lib.hid hr; replace he2 := Lib.hid he2)
          refine bodyPost_ret (v := .tuple #[.agg #[.int .i64 0, .int .i64 0, .slice none 0 0], .slice none 0 0, .int .i64 20]) (by simp [results, Try.results45, go_sem, r0, r1, r2]) rfl ⟨none, 0, 0, none, 0, 0, rfl, slX_nil _, Sl.nil _ _ _ _ (Nat.zero_le _), (((((box _ _).trans he2.out).setCell (Nat.le_succ _) _).setCell (Nat.le_succ _) _).setCell (Nat.le_succ _) _)⟩
        · obtain ⟨q, hq⟩ : ∃ q : Nat, needB size = (q : Int) := ⟨(needB size).toNat, (Int.toNat_of_nonneg (needB_nn _)).symm⟩
          have hql : q ≤ (blkB xs).length := by have := cut_le (x := (m, s, xs)) hc (size := size) (by show size ≤ s; omega); rw [hq] at this; exact this
          rw [cutI_ok hc h0 (by show ¬ (size < 0 ∨ s < size); omega) hq]
          have sz : size ≤ 9223372036854775807 := by have := (checkI_ok hc).2.1; omega
          have HQ := Lib.hid hq
          clear hc h0 hq
          go_enter Try.func45, Try.ntmps45
          go_wp2_with (first
            | (go_at_call 53; refine (check_ino _ _ _ _ _ _ _ _ (H.out.ext (box _ _)) (by omega)).mono ?_; rw [HC.out]; rintro e w2 ⟨rfl, he2⟩; have hb := he2.heap (((Ext.refl _).alloc _).heap (heap_alloc_new w _)); have a0 := cell_of_heap hb 0; have a1 := cell_of_heap hb 1; have a2 := cell_of_heap hb 2; simp only [List.getElem?_toArray, List.getElem?_cons_zero, List.getElem?_cons_succ] at a0 a1 a2; have hr := he2.heap (heap_new2 w _ _); have r0 := cell_of_heap hr 0; have r1 := cell_of_heap hr 1; have r2 := cell_of_heap hr 2; simp only [List.getElem?_toArray, List.getElem?_cons_zero, List.getElem?_cons_succ] at r0 r1 r2; have f0 := free_of_heap hr 0; have f1 := free_of_heap hr 1; have f2 := free_of_heap hr 2; replace hb := Lib.hid hb; replace hr := Lib.hid hr; replace he2 := Lib.hid he2)
            | (go_at_call 41; refine (blocks_any _ _ _ _ _ _ _ _ (H.out.ext ((box _ _).trans he2.out)) (by omega)).mono ?_; rintro e w3 ⟨A3, n3, c3, rfl, hO3, he3⟩; have hn3 := hO3.len; replace hO3 := Lib.hid hO3; have b0 := he3.at a0; have b1 := he3.at a1; have b2 := he3.at a2; replace he3 := Lib.hid he3)
            | (go_at_call 38; refine (need_any _ sz _).mono ?_; rintro e w4 ⟨rfl, rfl⟩; rw [HQ.out]))
          have hS3 := hO3.out.sl (eI_len .i64)
          have hle3 : (blkB xs).length ≤ c3 := by have := hS3.le; omega
          have hmx3 := hS3.mx
          have hq3 : q ≤ c3 := by omega
          have hT := hS3.take q (by omega) q (Nat.le_refl _) (by omega)
          have hD := hS3.drop q (by omega)
          rw [Nat.mul_one] at hD
          have hX4 : Ext w w4 := ((box _ _).trans he2.out).trans he3.out
          have htl : ((blkB xs).take q).length ≤ 1000 := by rw [List.length_take]; have := needB_le (checkI_ok HC.out).2.1.2; have := (checkI_ok HC.out).2.2.2.2.1; omega
          have hr4 := he3.out.heap hr.out
          replace hT := Lib.hid hT
          replace hD := Lib.hid hD
          replace hr4 := Lib.hid hr4
          clear hS3
          have hgl0 : w.heap.size + 1 < w4.heap.size := lt_of_heap hr4.out
          have hgl20 : w.heap.size + 1 < w2.heap.size := lt_of_heap hr.out
          have HGL := Lib.hid hgl0
          have HGL2 := Lib.hid hgl20
          clear hgl0 hgl20
          go_region_held3 (fun W => W.cell? ⟨w.heap.size, 0, none⟩ = some (.int .i64 m) ∧ Ext w W)
            (first
              | (refine ⟨Ext.at (a := w4) (by (repeat (first | exact Ext.refl _ | assumption | refine Ext.alloc ?_ _ | refine Ext.drew ?_ | refine Ext.drewN ?_ _ | refine Ext.setCell ?_ (by simp) _ | (refine Ext.trans ?_ (by assumption))))) b0, Ext.trans hX4 (by (repeat (first | exact Ext.refl _ | assumption | refine Ext.alloc ?_ _ | refine Ext.drew ?_ | refine Ext.drewN ?_ _ | refine Ext.setCell ?_ (by simp) _ | (refine Ext.trans ?_ (by assumption)))))⟩)
              | exact ⟨(he5.alloc _).at b0, (hX4.drew.trans he5).alloc _⟩
              | go_keep)
            (first
              | (go_at_call 35; go_must (refine (iof_any _ _ _ _ _ _ _ _ (hT.out.ext (by (repeat (first | exact Ext.refl _ | assumption | refine Ext.alloc ?_ _ | refine Ext.drew ?_ | refine Ext.drewN ?_ _ | refine Ext.setCell ?_ (by simp) _ | (refine Ext.trans ?_ (by assumption)))))) htl).mono ?_); rintro e w5 ⟨A5, n5, c5, rfl, hS5, he5⟩; replace hS5 := Lib.hid hS5; (try (have hy := he5.heap (heap_alloc_new _ (.cells #[.int .i64 0, .int .i64 0, .slice none 0 0] 60)); have y0 := cell_of_heap hy 0; have y1 := cell_of_heap hy 1; have y2 := cell_of_heap hy 2; simp only [List.getElem?_toArray, List.getElem?_cons_zero, List.getElem?_cons_succ] at y0 y1 y2; have z0 := free_of_heap hy 0; have z1 := free_of_heap hy 1; have z2 := free_of_heap hy 2; replace hy := Lib.hid hy))))
          · have hgl := HGL.out
            have hgl2 := HGL2.out
            have hne1 : ¬ (w4.heap.size = w.heap.size + 1) := by omega
            have hr5 := he5.heap (((Ext.refl w4).drew).heap hr4.out)
            have u0 := cell_of_heap hr5 0; have u1 := cell_of_heap hr5 1; have u2 := cell_of_heap hr5 2; simp only [List.getElem?_toArray, List.getElem?_cons_zero, List.getElem?_cons_succ] at u0 u1 u2
            have v0 := free_of_heap hr5 0; have v1 := free_of_heap hr5 1; have v2 := free_of_heap hr5 2
            have hg5 := lt_of_heap hr5
            have T1 : ∀ (W : World) (o : Obj) (i : Nat), w.heap.size + 1 < W.heap.size → (W.alloc o).cell? ⟨w.heap.size + 1, i, none⟩ = W.cell? ⟨w.heap.size + 1, i, none⟩ := fun W o i h => ((Ext.refl W).alloc o).out.cell (p := ⟨w.heap.size + 1, i, none⟩) h
            have U0 := fun o => ((Ext.refl w5).alloc o).at u0
            have U1 := fun o => ((Ext.refl w5).alloc o).at u1
            have U2 := fun o => ((Ext.refl w5).alloc o).at u2
            have V0 := fun o => ((Ext.refl w5).alloc o).free' v0 hg5
            have V1 := fun o => ((Ext.refl w5).alloc o).free' v1 hg5
            have V2 := fun o => ((Ext.refl w5).alloc o).free' v2 hg5
            replace hr5 := Lib.hid hr5
            by_cases hck : c3 = q
            · have hD' := hD.out
              rw [if_pos hck, hck, Nat.sub_self, hn3] at hD'
              go_wp2
              go_region
              all_goals (
                go_wp2
                refine bodyPost_ret (v := .tuple #[.agg #[.int .i64 (ofI m size ((blkB xs).take q)).1.1, .int .i64 (ofI m size ((blkB xs).take q)).1.2.1, .slice A5 n5 c5], .slice A3 ((blkB xs).length - q) 0, .int .i64 (ofI m size ((blkB xs).take q)).2]) (by simp [results, Try.results45, go_sem, u0, u1, u2, T1, hg5]) rfl ⟨A5, n5, c5, _, _, _, rfl, (hS5.out.kp ?_).mono (fun k hk => ?_), (hD'.kp ?_).mono (fun k hk => ?_), ?_⟩
                · (repeat (first | with_reducible refine Kp.setCell ?_ _ ?_ | with_reducible refine Kp.drewN ?_ _ | with_reducible refine Kp.drew ?_ | with_reducible refine Kp.alloc ?_ _ | with_reducible exact Kp.refl _ _ | (intro k hk1 hk2; simp at hk1 hk2 ⊢; omega)))
                · simp at hk; omega
                · (repeat (first | with_reducible refine Kp.setCell ?_ _ ?_ | with_reducible refine Kp.drewN ?_ _ | with_reducible refine Kp.drew ?_ | with_reducible refine Kp.alloc ?_ _ | with_reducible exact Kp.ext (Kp.drew (Kp.refl _ _)) he5 | with_reducible exact Kp.ext (Kp.drew (Kp.alloc (Kp.refl _ _) _)) he5 | with_reducible exact Kp.ext (Kp.alloc (Kp.drew (Kp.refl _ _)) _) he5 | (intro k hk1 hk2; have hk3 := hk1.1; simp at hk2 hk3 ⊢; omega)))
                · have hk3 := hk.1; omega
                · (repeat (first | with_reducible refine Ext.setCell ?_ (by simp; try omega) _ | with_reducible refine Ext.drewN ?_ _ | with_reducible refine Ext.drew ?_ | with_reducible refine Ext.alloc ?_ _ | with_reducible exact hX4.drew.trans he5 | with_reducible exact ((hX4.alloc _).drew).trans he5 | with_reducible exact ((hX4.drew).alloc _).trans he5)))
            · have hD' := hD.out
              rw [if_neg hck, hn3] at hD'
              go_wp2
              go_region
              all_goals (
                go_wp2
                refine bodyPost_ret (v := .tuple #[.agg #[.int .i64 (ofI m size ((blkB xs).take q)).1.1, .int .i64 (ofI m size ((blkB xs).take q)).1.2.1, .slice A5 n5 c5], .slice (A3.map (fun x => x.add q)) ((blkB xs).length - q) (c3 - q), .int .i64 (ofI m size ((blkB xs).take q)).2]) (by simp [results, Try.results45, go_sem, u0, u1, u2, T1, hg5]) rfl ⟨A5, n5, c5, _, _, _, rfl, (hS5.out.kp ?_).mono (fun k hk => ?_), (hD'.kp ?_).mono (fun k hk => ?_), ?_⟩
                · (repeat (first | with_reducible refine Kp.setCell ?_ _ ?_ | with_reducible refine Kp.drewN ?_ _ | with_reducible refine Kp.drew ?_ | with_reducible refine Kp.alloc ?_ _ | with_reducible exact Kp.refl _ _ | (intro k hk1 hk2; simp at hk1 hk2 ⊢; omega)))
                · simp at hk; omega
                · (repeat (first | with_reducible refine Kp.setCell ?_ _ ?_ | with_reducible refine Kp.drewN ?_ _ | with_reducible refine Kp.drew ?_ | with_reducible refine Kp.alloc ?_ _ | with_reducible exact Kp.ext (Kp.drew (Kp.refl _ _)) he5 | with_reducible exact Kp.ext (Kp.drew (Kp.alloc (Kp.refl _ _) _)) he5 | with_reducible exact Kp.ext (Kp.alloc (Kp.drew (Kp.refl _ _)) _) he5 | (intro k hk1 hk2; have hk3 := hk1.1; simp at hk2 hk3 ⊢; omega)))
                · have hk3 := hk.1; omega
                · (repeat (first | with_reducible refine Ext.setCell ?_ (by simp; try omega) _ | with_reducible refine Ext.drewN ?_ _ | with_reducible refine Ext.drew ?_ | with_reducible refine Ext.alloc ?_ _ | with_reducible exact hX4.drew.trans he5 | with_reducible exact ((hX4.alloc _).drew).trans he5 | with_reducible exact ((hX4.drew).alloc _).trans he5)))
          · have hgl := HGL.out
            have hgl2 := HGL2.out
            have hne1 : ¬ (w4.heap.size = w.heap.size + 1) := by omega
            have hr5 : w5.heap[w.heap.size + 1]? = some (.cells #[.int .i64 0, .int .i64 0, .slice none 0 0] 60 (0, 0)) := he5.heap (by first | exact (((Ext.refl w4).alloc _).drew).heap hr4.out | exact (((Ext.refl w4).drew).alloc _).heap hr4.out | exact ((Ext.refl w4).alloc _).heap hr4.out)
            have u0 := cell_of_heap hr5 0; have u1 := cell_of_heap hr5 1; have u2 := cell_of_heap hr5 2; simp only [List.getElem?_toArray, List.getElem?_cons_zero, List.getElem?_cons_succ] at u0 u1 u2
            have v0 := free_of_heap hr5 0; have v1 := free_of_heap hr5 1; have v2 := free_of_heap hr5 2
            replace hr5 := Lib.hid hr5
            have T0 : ∀ (W : World) (j i : Nat) (u : Value), (W.setCell ⟨w4.heap.size, j, none⟩ u).cell? ⟨w.heap.size + 1, i, none⟩ = W.cell? ⟨w.heap.size + 1, i, none⟩ := fun W j i u => World.cell?_setCell_other W _ _ u (fun h => hne1 (by injection h))
            by_cases hck : c3 = q
            · have hD' := hD.out
              rw [if_pos hck, hck, Nat.sub_self, hn3] at hD'
              go_wp2
              go_region
              all_goals (
                go_wp2
                refine bodyPost_ret (v := .tuple #[.agg #[.int .i64 (ofI m size ((blkB xs).take q)).1.1, .int .i64 (ofI m size ((blkB xs).take q)).1.2.1, .slice A5 n5 c5], .slice A3 ((blkB xs).length - q) 0, .int .i64 (ofI m size ((blkB xs).take q)).2]) (by simp [results, Try.results45, go_sem, u0, u1, u2, T0]) rfl ⟨A5, n5, c5, _, _, _, rfl, (hS5.out.kp ?_).mono (fun k hk => ?_), (hD'.kp ?_).mono (fun k hk => ?_), ?_⟩
                · (repeat (first | with_reducible refine Kp.setCell ?_ _ ?_ | with_reducible refine Kp.drewN ?_ _ | with_reducible refine Kp.drew ?_ | with_reducible refine Kp.alloc ?_ _ | with_reducible exact Kp.refl _ _ | (intro k hk1 hk2; simp at hk1 hk2 ⊢; omega)))
                · simp at hk; omega
                · (repeat (first | with_reducible refine Kp.setCell ?_ _ ?_ | with_reducible refine Kp.drewN ?_ _ | with_reducible refine Kp.drew ?_ | with_reducible refine Kp.alloc ?_ _ | with_reducible exact Kp.ext (Kp.drew (Kp.refl _ _)) he5 | with_reducible exact Kp.ext (Kp.drew (Kp.alloc (Kp.refl _ _) _)) he5 | with_reducible exact Kp.ext (Kp.alloc (Kp.drew (Kp.refl _ _)) _) he5 | (intro k hk1 hk2; have hk3 := hk1.1; simp at hk2 hk3 ⊢; omega)))
                · have hk3 := hk.1; omega
                · (repeat (first | with_reducible refine Ext.setCell ?_ (by simp; try omega) _ | with_reducible refine Ext.drewN ?_ _ | with_reducible refine Ext.drew ?_ | with_reducible refine Ext.alloc ?_ _ | with_reducible exact hX4.drew.trans he5 | with_reducible exact ((hX4.alloc _).drew).trans he5 | with_reducible exact ((hX4.drew).alloc _).trans he5)))
            · have hD' := hD.out
              rw [if_neg hck, hn3] at hD'
              go_wp2
              go_region
              all_goals (
                go_wp2
                refine bodyPost_ret (v := .tuple #[.agg #[.int .i64 (ofI m size ((blkB xs).take q)).1.1, .int .i64 (ofI m size ((blkB xs).take q)).1.2.1, .slice A5 n5 c5], .slice (A3.map (fun x => x.add q)) ((blkB xs).length - q) (c3 - q), .int .i64 (ofI m size ((blkB xs).take q)).2]) (by simp [results, Try.results45, go_sem, u0, u1, u2, T0]) rfl ⟨A5, n5, c5, _, _, _, rfl, (hS5.out.kp ?_).mono (fun k hk => ?_), (hD'.kp ?_).mono (fun k hk => ?_), ?_⟩
                · (repeat (first | with_reducible refine Kp.setCell ?_ _ ?_ | with_reducible refine Kp.drewN ?_ _ | with_reducible refine Kp.drew ?_ | with_reducible refine Kp.alloc ?_ _ | with_reducible exact Kp.refl _ _ | (intro k hk1 hk2; simp at hk1 hk2 ⊢; omega)))
                · simp at hk; omega
                · (repeat (first | with_reducible refine Kp.setCell ?_ _ ?_ | with_reducible refine Kp.drewN ?_ _ | with_reducible refine Kp.drew ?_ | with_reducible refine Kp.alloc ?_ _ | with_reducible exact Kp.ext (Kp.drew (Kp.refl _ _)) he5 | with_reducible exact Kp.ext (Kp.drew (Kp.alloc (Kp.refl _ _) _)) he5 | with_reducible exact Kp.ext (Kp.alloc (Kp.drew (Kp.refl _ _)) _) he5 | (intro k hk1 hk2; have hk3 := hk1.1; simp at hk2 hk3 ⊢; omega)))
                · have hk3 := hk.1; omega
                · (repeat (first | with_reducible refine Ext.setCell ?_ (by simp; try omega) _ | with_reducible refine Ext.drewN ?_ _ | with_reducible refine Ext.drew ?_ | with_reducible refine Ext.alloc ?_ _ | with_reducible exact hX4.drew.trans he5 | with_reducible exact ((hX4.alloc _).drew).trans he5 | with_reducible exact ((hX4.drew).alloc _).trans he5)))
  · rw [cutI_err hc]
    have e0 : (checkI (m, s, xs) != 0) = true := by simp [hc]
    clear hc
    go_enter Try.func45, Try.ntmps45
    go_wp2_with (go_at_call 53; refine (check_ino _ _ _ _ _ _ _ _ (H.out.ext (box _ _)) (by omega)).mono ?_;  rintro e w2 ⟨rfl, he2⟩; have hb := he2.heap (((Ext.refl _).alloc _).heap (heap_alloc_new w _)); have a0 := cell_of_heap hb 0; have a1 := cell_of_heap hb 1; have a2 := cell_of_heap hb 2; simp only [List.getElem?_toArray, List.getElem?_cons_zero, List.getElem?_cons_succ] at a0 a1 a2; have hr := he2.heap (heap_new2 w _ _); have r0 := cell_of_heap hr 0; have r1 := cell_of_heap hr 1; have r2 := cell_of_heap hr 2; simp only [List.getElem?_toArray, List.getElem?_cons_zero, List.getElem?_cons_succ] at r0 r1 r2; have f0 := free_of_heap hr 0; have f1 := free_of_heap hr 1; have f2 := free_of_heap hr 2; replace hb := Lib.hid hb; replace hr := Lib.hid hr; replace he2 := Lib.hid he2)
    refine bodyPost_ret (v := .tuple #[.agg #[.int .i64 0, .int .i64 0, .slice none 0 0], .slice none 0 0, .int .i64 (checkI (m, s, xs))]) (by simp [results, Try.results45, go_sem, r0, r1, r2]) rfl ⟨none, 0, 0, none, 0, 0, rfl, slX_nil _, Sl.nil _ _ _ _ (Nat.zero_le _), (((((box _ _).trans he2.out).setCell (Nat.le_succ _) _).setCell (Nat.le_succ _) _).setCell (Nat.le_succ _) _)⟩
end Go.Proofs.Ytdocdppimpapiaa
