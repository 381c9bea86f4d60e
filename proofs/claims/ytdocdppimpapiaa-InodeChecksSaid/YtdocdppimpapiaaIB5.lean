/-
  The reference's Of. The reference's Grow.
-/
import Derived.Deep.RegionLaw
import Derived.Test.YtdocdppimpapiaaIB4
set_option linter.unusedSimpArgs false
set_option linter.unusedVariables false
namespace Go.Proofs.Ytdocdppimpapiaa
open Go.RowKit

theorem wrap_next (s a b : Int) (h : b = wrap64 (s + a)) : wrap64 (s + (a + 1)) = wrap64 (b + 1) := by
  subst h
  unfold wrap64
  omega
/-- The last extent ends where the last block ends. -/
theorem ext_last : ∀ (l : List Int), ∀ b, l.getLast? = some b → ∃ s a, (extB l).getLast? = some (s, a) ∧ wrap64 (s + a) = wrap64 (b + 1) := snoc_ind (fun b h => by cases h) fun l b ih b' hb => by
  rw [List.getLast?_append] at hb
  simp only [List.getLast?_singleton, Option.some_or, Option.some.injEq] at hb
  subst hb
  rw [extB_snoc]
  have new : ∃ s a, ((extB l) ++ [(b, (1 : Int))]).getLast? = some (s, a) ∧ wrap64 (s + a) = wrap64 (b + 1) := ⟨b, 1, by simp, rfl⟩
  unfold extStep
  split
  · exact new
  · rename_i e he
    split
    · rename_i hc
      refine ⟨e.1, e.2 + 1, ?_, wrap_next _ _ _ hc.1⟩
      have hne : extB l ≠ [] := fun h0 => by rw [h0] at he; cases he
      have hpos : 0 < (extB l).length := List.length_pos_iff.2 hne
      rw [List.getLast?_eq_getElem?, List.length_set, List.getElem?_set_self (by omega)]
    · exact new
theorem ext_prev {l : List Int} {k n : Nat} {b s a : Int} (hk : k ≤ l.length) (h0 : 0 < k) (hb : l[k - 1]? = some b) (hn : (extB (l.take k)).length = n) (he : (extB (l.take k))[n - 1]? = some (s, a)) : wrap64 (s + a) = wrap64 (b + 1) := by
  have h1 : (l.take k).getLast? = some b := by
    rw [List.getLast?_eq_getElem?, List.length_take, Nat.min_eq_left hk, List.getElem?_take, if_pos (by omega)]
    exact hb
  obtain ⟨s', a', h2, h3⟩ := ext_last _ b h1
  rw [getLast_of hn he] at h2
  cases h2
  exact h3
theorem extB_pos {l : List Int} {b : Int} (h : l.getLast? = some b) : 0 < (extB l).length := by
  obtain ⟨s, a, h2, _⟩ := ext_last _ b h
  cases hx : extB l with
  | nil => rw [hx] at h2; cases h2
  | cons x y => simp
theorem info_rex : (Try.prog.info? 85).map (fun i => (i.zero, i.size, i.bytes)) = some (some (.agg #[.int .i64 0, .int .i64 0]), 2, 16) := by kernel_rfl
theorem extB_one {l : List Int} {k : Nat} (hk : 0 < k) (hl : k ≤ l.length) : 0 < (extB (l.take k)).length := by
  have hx : l[k - 1]? = some (l[k - 1]'(by omega)) := List.getElem?_eq_getElem _
  refine extB_pos (b := l[k - 1]'(by omega)) ?_
  rw [List.getLast?_eq_getElem?, List.length_take, Nat.min_eq_left hl, List.getElem?_take, if_pos (by omega)]
  exact hx

theorem rof_step {w wr w1 w2 : World} {m s : Int} {A A2 : Option Addr} {n cap n2 cap2 : Nat} {e e2 : List Ex} (HX : Ext w wr) (h1 : Ext wr w1)
    (HR : wr.heap[w.heap.size]? = some (.cells #[.int .i64 0, .int .i64 0, .slice none 0 0] 65 (0, 0)))
    (HO : Ow eX 2 85 (w.heap.size + 2) wr A n cap e) (HG : w1.grownBy w2 (Value.slice A n cap).ownBlock)
    (HH : w2.heap[w.heap.size + 1]? = some (.cells #[.int .i64 m, .int .i64 s, .slice A n cap] 65 (0, 0))) (HO2 : Ow eX 2 85 (w.heap.size + 2) w2 A2 n2 cap2 e2) :
    (w2.setCell ⟨w.heap.size + 1, 2, none⟩ (.slice A2 n2 cap2)).heap[w.heap.size]? = some (.cells #[.int .i64 0, .int .i64 0, .slice none 0 0] 65 (0, 0)) ∧
    (w2.setCell ⟨w.heap.size + 1, 2, none⟩ (.slice A2 n2 cap2)).heap[w.heap.size + 1]? = some (.cells #[.int .i64 m, .int .i64 s, .slice A2 n2 cap2] 65 (0, 0)) ∧
    Ow eX 2 85 (w.heap.size + 2) (w2.setCell ⟨w.heap.size + 1, 2, none⟩ (.slice A2 n2 cap2)) A2 n2 cap2 e2 ∧ Ext w (w2.setCell ⟨w.heap.size + 1, 2, none⟩ (.slice A2 n2 cap2)) :=
  ⟨(Below.heap_setCell _ _ _ _ (by simp)).trans (heap_grown (h1.heap HR) HG (HO.row_ne HR (by decide))),
   (heap_set _ _ _ _ _ _ _ HH).trans rfl,
   HO2.step fun k hk => Below.heap_setCell _ _ _ _ (HO2.ne HH (by decide) k hk),
   ((HX.trans h1).grown HG fun k hk => by have := (HO.lt k hk).1; omega).setCell (p := ⟨w.heap.size + 1, 2, none⟩) (Nat.le_succ _) _⟩

set_option maxRecDepth 100000 in
set_option maxHeartbeats 4000000 in
theorem rof_any (m s : Int) (A : Option Addr) (n c : Nat) (l : List Int) (Q : Nat → Prop) (w : World) (h : Sl (eI .i64) 1 Q w A n c l) (hl : l.length ≤ 1000) :
    Calls Try.prog 36 #[.int .i64 m, .int .i64 s, .slice A n c] w (RetIn (ofI m s l) w) := by
  have hln := extB_len l
  have HL := Lib.hid h.len
  have hn : n ≤ 1000 := by rw [h.len]; exact hl
  have H := Lib.hid h.in'
  clear h
  by_cases hm : m ≠ 1 ∧ m ≠ 2
  · have E : ofI m s l = (zeroI, 1) := by unfold ofI; rw [if_pos hm]
    rw [E]
    have m1 : (m != 1) = true := by simpa using hm.1
    have m2 : (m != 2) = true := by simpa using hm.2
    clear hm E
    go_enter Try.func36, Try.ntmps36
    go_wp2
    refine bodyPost_ret (v := .tuple #[.agg #[.int .i64 0, .int .i64 0, .slice none 0 0], .int .i64 1]) (by simp [results, Try.results36, go_sem]) rfl ⟨none, 0, 0, rfl, slX_nil _, ?_⟩
    (repeat (first | exact Ext.refl _ | assumption | refine Ext.alloc ?_ _ | refine Ext.drew ?_ | refine Ext.drewN ?_ _ | refine Ext.setCell ?_ (by simp) _ | (refine Ext.trans ?_ (by assumption))))
  · have mm : m = 1 ∨ ((m != 1) = true ∧ m = 2) := by
      by_cases h : m = 1
      · exact .inl h
      · exact .inr ⟨by simpa using h, Classical.byContradiction fun h2 => hm ⟨h, h2⟩⟩
    rcases mm with rfl | ⟨m1, rfl⟩
    · go_enter Try.func36, Try.ntmps36
      go_wp2
      go_loopw [9] (fun i wr => ∃ (k n' cap' : Nat) (A' : Option Addr), k ≤ n ∧ i = .int .i64 k ∧ wr.heap[w.heap.size]? = some (.cells #[.int .i64 0, .int .i64 0, .slice none 0 0] 65 (0, 0)) ∧ wr.heap[w.heap.size + 1]? = some (.cells #[.int .i64 1, .int .i64 s, .slice A' n' cap'] 65 (0, 0)) ∧ Ow eX 2 85 (w.heap.size + 2) wr A' n' cap' (extB (l.take k)) ∧ Ext w wr) (fun i _ => n - (intOf i).toNat)
      case atStart => exact ⟨0, 0, 0, none, Nat.zero_le _, rfl, (Ext.heap ((Ext.refl _).alloc _) (heap_alloc_new w _)), heap_new2 w _ _, Ow.nil _, ((Ext.refl _).alloc _).alloc _⟩
      case round =>
        obtain ⟨k, n', cap', A', hk, rfl, hR, hx1, hO, he⟩ := hrel
        have x0 := cell_of_heap hx1 0
        have x1 := cell_of_heap hx1 1
        have x2 := cell_of_heap hx1 2
        have y0 := free_of_heap hx1 0
        have y1 := free_of_heap hx1 1
        have y2 := free_of_heap hx1 2
        simp only [List.getElem?_toArray, List.getElem?_cons_zero, List.getElem?_cons_succ] at x0 x1 x2
        have HO := Lib.hid hO
        have HX := Lib.hid he
        have HR := Lib.hid hR
        have HX1 := Lib.hid hx1
        have hz : w.heap.size + 2 ≤ wr.heap.size := lt_of_heap hx1
        have x2a := fun q o => (((Ext.refl wr).drewN q).alloc o).at x2
        have hzl : w.heap.size + 1 < wr.heap.size := hz
        clear hO he hR hx1
        by_cases hlt : k < n
        · obtain ⟨b, off, y, rfl, hx, _, hbl, hc0⟩ := H.out.num k hlt
          have HK := Lib.hid hx
          have hc0 := HX.out.at hc0
          have k0 : (0 : Int) ≤ (k : Int) := by omega
          have k9 : (k : Int) < (n : Int) := by omega
          have hEl := extB_len (l.take k)
          rw [List.length_take] at hEl
          have hn8 : n' ≤ 1000 := by rw [HO.out.len]; omega
          have hEl2 : (extB (l.take k)).length ≤ 1000 := by omega
          clear hx hEl
          by_cases hz0 : k = 0
          · have hd : decide (0 < k) = false := by simp; omega
            have ES := Lib.hid (extStep_nil (o := extB (l.take k)) (b := y) (by subst hz0; rfl))
            clear hz0
            go_wp2
            go_quiet (fail)
            go_wp2
            go_region_law (refine step_app _ rfl _ _ 63 rfl info_rex Try.underlying63 rfl (by decide) (eX_len) (eX_one) (HO.out.ext (((Ext.refl _).drewN _).alloc _)) rfl (Sl.laid (eX_len) _ [(y, 1)] _ 85 1 rfl rfl (by decide)) rfl (by simp only [List.length_singleton]; omega) (by simp only [List.length_singleton]; omega) (by exact Nat.le_trans hz (((Ext.refl wr).drewN _).alloc _).size) ?_; intro A2 n2 cap2 w2 hO2 hg2 hrow _; have hh := heap_grown ((((Ext.refl wr).drewN _).alloc _).heap HX1.out) hg2 (HO.out.row_ne HX1.out (by decide)); have z2 := cell_of_heap hh 2; have v2 := free_of_heap hh 2; simp only [List.getElem?_toArray, List.getElem?_cons_zero, List.getElem?_cons_succ] at z2; have HH := Lib.hid hh; have HO2 := Lib.hid hO2; have HG2 := Lib.hid hg2; clear hh hO2 hg2 hrow)
            all_goals go_wp2
            all_goals (obtain ⟨t1, t2, t3, t4⟩ := rof_step HX.out (((Ext.refl wr).drewN (nq + 1)).alloc _) HR.out HO.out HG2.out HH.out HO2.out; refine ⟨⟨k + 1, n2, cap2, A2, by omega, by go_num, t1, t2, by rw [extB_take HK.out, ES.out]; exact t3, t4⟩, by simp [intOf]; omega⟩)
          · obtain ⟨g2, o2, s2, l2, rfl, hp2, hq2, hgl, hq0, hq1⟩ := (HO.out.sl eX_len).ex (n' - 1) (by have := HO.out.len; have := extB_one (l := l) (k := k) (by omega) (by rw [← HL.out]; omega); omega)
            obtain rfl : o2 = 0 := by
              rcases HO.out.own.2 with ⟨hv, _⟩ | ⟨g', cap2, cur, hv, _⟩
              · cases hv
              · injection hv with hv; injection hv with hv; injection hv
            rw [Nat.zero_add] at hq0 hq1
            have hn0 : 1 ≤ n' := by have := HO.out.len; have := extB_one (l := l) (k := k) (by omega) (by rw [← HL.out]; omega); omega
            obtain ⟨b9, o9, z, hA9, hz9, _, _, hc9⟩ := H.out.num (k - 1) (by omega)
            simp only [Option.some.injEq, Addr.mk.injEq, and_true] at hA9
            obtain ⟨rfl, rfl⟩ := hA9
            have hc9 := HX.out.at hc9
            have f1 := HO.out.free ((n' - 1) * 2 + 1)
            have hbd := extB_bd (l.take k) _ (List.mem_of_getElem? hp2)
            simp only at hbd
            have HW := Lib.hid (ext_prev (by rw [← HL.out]; omega) (by omega) hz9 HO.out.len.symm hp2)
            have HP := Lib.hid hp2
            have HLN := Lib.hid HO.out.len.symm
            have hgb := (HO.out.lt g2 rfl).1
            have hd : decide (0 < k) = true := by simp; omega
            have k1 : (0 : Int) ≤ (n' : Int) - 1 := by omega
            have k2 : (1 : Int) ≤ (n' : Int) := by omega
            have k4 : (n' : Int) - 1 < (n' : Int) := by omega
            have j1 : (0 : Int) ≤ (k : Int) - 1 := by omega
            have j2 : (1 : Int) ≤ (k : Int) := by omega
            have j3 : 1 ≤ k := by omega
            have j4 : (k : Int) - 1 < (n : Int) := by omega
            obtain ⟨d1, d2⟩ := hbd
            clear hp2 hz9 hz0
            by_cases hb : y = wrap64 (z + 1)
            · have hb1 : (y == wrap64 (z + 1)) = true := by simpa using hb
              by_cases h8 : l2 < 8
              · have hd8 : decide (l2 < 8) = true := decide_eq_true h8
                have ES := Lib.hid (extStep_join HLN.out HP.out (hb.trans HW.out.symm) h8)
                clear hb
                go_wp2
                go_quiet (fail)
                go_wp2
                go_region
                all_goals go_wp2
                all_goals exact ⟨⟨k + 1, n', cap', some ⟨g2, 0, none⟩, by omega, by go_num, (Below.heap_setCell _ _ _ _ (by simp only; omega)).trans HR.out, (Below.heap_setCell _ _ _ _ (by simp only; omega)).trans HX1.out, by rw [extB_take HK.out, ES.out]; exact ((HO.out.ext ((Ext.refl _).drewN (nq + 1))).setLen (n' - 1) (l2 + 1) HP.out).1, (HX.out.drewN _).setCell (p := ⟨g2, (n' - 1) * 2 + 1, none⟩) (by simp only; omega) _⟩, by simp [intOf]; omega⟩
              · have hd8 : decide (l2 < 8) = false := decide_eq_false h8
                have ES := Lib.hid (extStep_new (b := y) HLN.out HP.out (fun h => h8 h.2))
                clear hb
                go_wp2
                go_quiet (fail)
                go_wp2
                go_region_law (refine step_app _ rfl _ _ 63 rfl info_rex Try.underlying63 rfl (by decide) (eX_len) (eX_one) (HO.out.ext (((Ext.refl _).drewN _).alloc _)) rfl (Sl.laid (eX_len) _ [(y, 1)] _ 85 1 rfl rfl (by decide)) rfl (by simp only [List.length_singleton]; omega) (by simp only [List.length_singleton]; omega) (by exact Nat.le_trans hz (((Ext.refl wr).drewN _).alloc _).size) ?_; intro A2 n2 cap2 w2 hO2 hg2 hrow _; have hh := heap_grown ((((Ext.refl wr).drewN _).alloc _).heap HX1.out) hg2 (HO.out.row_ne HX1.out (by decide)); have z2 := cell_of_heap hh 2; have v2 := free_of_heap hh 2; simp only [List.getElem?_toArray, List.getElem?_cons_zero, List.getElem?_cons_succ] at z2; have HH := Lib.hid hh; have HO2 := Lib.hid hO2; have HG2 := Lib.hid hg2; clear hh hO2 hg2 hrow)
                all_goals go_wp2
                all_goals (obtain ⟨t1, t2, t3, t4⟩ := rof_step HX.out (((Ext.refl wr).drewN (nq + 1)).alloc _) HR.out HO.out HG2.out HH.out HO2.out; refine ⟨⟨k + 1, n2, cap2, A2, by omega, by go_num, t1, t2, by rw [extB_take HK.out, ES.out]; exact t3, t4⟩, by simp [intOf]; omega⟩)

            · have hb1 : (y == wrap64 (z + 1)) = false := by simpa using hb
              have ES := Lib.hid (extStep_new (b := y) HLN.out HP.out (fun h => hb (h.1.trans HW.out)))
              clear hb
              go_wp2
              go_quiet (fail)
              go_wp2
              go_region_law (refine step_app _ rfl _ _ 63 rfl info_rex Try.underlying63 rfl (by decide) (eX_len) (eX_one) (HO.out.ext (((Ext.refl _).drewN _).alloc _)) rfl (Sl.laid (eX_len) _ [(y, 1)] _ 85 1 rfl rfl (by decide)) rfl (by simp only [List.length_singleton]; omega) (by simp only [List.length_singleton]; omega) (by exact Nat.le_trans hz (((Ext.refl wr).drewN _).alloc _).size) ?_; intro A2 n2 cap2 w2 hO2 hg2 hrow _; have hh := heap_grown ((((Ext.refl wr).drewN _).alloc _).heap HX1.out) hg2 (HO.out.row_ne HX1.out (by decide)); have z2 := cell_of_heap hh 2; have v2 := free_of_heap hh 2; simp only [List.getElem?_toArray, List.getElem?_cons_zero, List.getElem?_cons_succ] at z2; have HH := Lib.hid hh; have HO2 := Lib.hid hO2; have HG2 := Lib.hid hg2; clear hh hO2 hg2 hrow)
              all_goals go_wp2
              all_goals (obtain ⟨t1, t2, t3, t4⟩ := rof_step HX.out (((Ext.refl wr).drewN (nq + 1)).alloc _) HR.out HO.out HG2.out HH.out HO2.out; refine ⟨⟨k + 1, n2, cap2, A2, by omega, by go_num, t1, t2, by rw [extB_take HK.out, ES.out]; exact t3, t4⟩, by simp [intOf]; omega⟩)
        · have hE : l.take k = l := List.take_of_length_le (by rw [← HL.out]; omega)
          have hO := HO.out
          rw [hE] at hO
          have HS := Lib.hid (hO.sl eX_len)
          clear hO hE
          by_cases hc : checkI (1, s, extB l) = 0
          · have E : ofI 1 s l = ((1, s, extB l), 0) := by unfold ofI; rw [if_neg hm, if_pos hc]
            have EE := Lib.hid E
            have HC := Lib.hid hc
            clear E hc hm
            go_wp2_with (go_at_call 54; refine (rcheck_ino _ _ _ _ _ _ _ _ HS.out (by omega)).mono ?_; rw [HC.out]; rintro e w2 ⟨rfl, he2⟩; have hb6 := he2.heap HR.out; have a0 := cell_of_heap hb6 0; have a1 := cell_of_heap hb6 1; have a2 := cell_of_heap hb6 2; have b0 := free_of_heap hb6 0; have b1 := free_of_heap hb6 1; have b2 := free_of_heap hb6 2; simp only [List.getElem?_toArray, List.getElem?_cons_zero, List.getElem?_cons_succ] at a0 a1 a2; have hb7 := he2.heap HX1.out; have q0 := cell_of_heap hb7 0; have q1 := cell_of_heap hb7 1; have q2 := cell_of_heap hb7 2; simp only [List.getElem?_toArray, List.getElem?_cons_zero, List.getElem?_cons_succ] at q0 q1 q2; have HE2 := Lib.hid he2; clear hb6 hb7)
            have hx2 := HX.out.trans HE2.out
            refine bodyPost_ret (v := .tuple #[.agg #[.int .i64 1, .int .i64 s, .slice A' n' cap'], .int .i64 0]) (by simp [results, Try.results36, go_sem, a0, a1, a2]) rfl ?_
            rw [EE.out]
            exact ⟨A', n', cap', rfl, (HS.out.mut (g := w.heap.size) ((((HE2.out.mut _).setCell 0 _).setCell 1 _).setCell 2 _) (fun k hk => by have := hk.1; omega)).mono (fun k hk => by have := hk.1; omega), ((hx2.setCell (Nat.le_refl _) _).setCell (Nat.le_refl _) _).setCell (Nat.le_refl _) _⟩
          · have E : ofI 1 s l = (zeroI, checkI (1, s, extB l)) := by unfold ofI; rw [if_neg hm, if_neg hc]
            have EE := Lib.hid E
            have cc : (checkI (1, s, extB l) != 0) = true := by simpa using hc
            clear E hc hm
            go_wp2_with (go_at_call 54; refine (rcheck_ino _ _ _ _ _ _ _ _ HS.out (by omega)).mono ?_; rintro e w2 ⟨rfl, he2⟩; have hb6 := he2.heap HR.out; have a0 := cell_of_heap hb6 0; have a1 := cell_of_heap hb6 1; have a2 := cell_of_heap hb6 2; have b0 := free_of_heap hb6 0; have b1 := free_of_heap hb6 1; have b2 := free_of_heap hb6 2; simp only [List.getElem?_toArray, List.getElem?_cons_zero, List.getElem?_cons_succ] at a0 a1 a2; have hb7 := he2.heap HX1.out; have q0 := cell_of_heap hb7 0; have q1 := cell_of_heap hb7 1; have q2 := cell_of_heap hb7 2; simp only [List.getElem?_toArray, List.getElem?_cons_zero, List.getElem?_cons_succ] at q0 q1 q2; have HE2 := Lib.hid he2; clear hb6 hb7)
            have hx2 := HX.out.trans HE2.out
            refine bodyPost_ret (v := .tuple #[.agg #[.int .i64 0, .int .i64 0, .slice none 0 0], .int .i64 (checkI (1, s, extB l))]) (by simp [results, Try.results36, go_sem, a0, a1, a2]) rfl ?_
            rw [EE.out]
            exact ⟨none, 0, 0, rfl, slX_nil _, ((hx2.setCell (Nat.le_refl _) _).setCell (Nat.le_refl _) _).setCell (Nat.le_refl _) _⟩
    · go_enter Try.func36, Try.ntmps36
      go_wp2
      go_loopw [9] (fun i wr => ∃ (k n' cap' : Nat) (A' : Option Addr), k ≤ n ∧ i = .int .i64 k ∧ wr.heap[w.heap.size]? = some (.cells #[.int .i64 0, .int .i64 0, .slice none 0 0] 65 (0, 0)) ∧ wr.heap[w.heap.size + 1]? = some (.cells #[.int .i64 2, .int .i64 s, .slice A' n' cap'] 65 (0, 0)) ∧ Ow eX 2 85 (w.heap.size + 2) wr A' n' cap' (extB (l.take k)) ∧ Ext w wr) (fun i _ => n - (intOf i).toNat)
      case atStart => exact ⟨0, 0, 0, none, Nat.zero_le _, rfl, (Ext.heap ((Ext.refl _).alloc _) (heap_alloc_new w _)), heap_new2 w _ _, Ow.nil _, ((Ext.refl _).alloc _).alloc _⟩
      case round =>
        obtain ⟨k, n', cap', A', hk, rfl, hR, hx1, hO, he⟩ := hrel
        have x0 := cell_of_heap hx1 0
        have x1 := cell_of_heap hx1 1
        have x2 := cell_of_heap hx1 2
        have y0 := free_of_heap hx1 0
        have y1 := free_of_heap hx1 1
        have y2 := free_of_heap hx1 2
        simp only [List.getElem?_toArray, List.getElem?_cons_zero, List.getElem?_cons_succ] at x0 x1 x2
        have HO := Lib.hid hO
        have HX := Lib.hid he
        have HR := Lib.hid hR
        have HX1 := Lib.hid hx1
        have hz : w.heap.size + 2 ≤ wr.heap.size := lt_of_heap hx1
        have x2a := fun q o => (((Ext.refl wr).drewN q).alloc o).at x2
        have hzl : w.heap.size + 1 < wr.heap.size := hz
        clear hO he hR hx1
        by_cases hlt : k < n
        · obtain ⟨b, off, y, rfl, hx, _, hbl, hc0⟩ := H.out.num k hlt
          have HK := Lib.hid hx
          have hc0 := HX.out.at hc0
          have k0 : (0 : Int) ≤ (k : Int) := by omega
          have k9 : (k : Int) < (n : Int) := by omega
          have hEl := extB_len (l.take k)
          rw [List.length_take] at hEl
          have hn8 : n' ≤ 1000 := by rw [HO.out.len]; omega
          have hEl2 : (extB (l.take k)).length ≤ 1000 := by omega
          clear hx hEl
          by_cases hz0 : k = 0
          · have hd : decide (0 < k) = false := by simp; omega
            have ES := Lib.hid (extStep_nil (o := extB (l.take k)) (b := y) (by subst hz0; rfl))
            clear hz0
            go_wp2
            go_quiet (fail)
            go_wp2
            go_region_law (refine step_app _ rfl _ _ 63 rfl info_rex Try.underlying63 rfl (by decide) (eX_len) (eX_one) (HO.out.ext (((Ext.refl _).drewN _).alloc _)) rfl (Sl.laid (eX_len) _ [(y, 1)] _ 85 1 rfl rfl (by decide)) rfl (by simp only [List.length_singleton]; omega) (by simp only [List.length_singleton]; omega) (by exact Nat.le_trans hz (((Ext.refl wr).drewN _).alloc _).size) ?_; intro A2 n2 cap2 w2 hO2 hg2 hrow _; have hh := heap_grown ((((Ext.refl wr).drewN _).alloc _).heap HX1.out) hg2 (HO.out.row_ne HX1.out (by decide)); have z2 := cell_of_heap hh 2; have v2 := free_of_heap hh 2; simp only [List.getElem?_toArray, List.getElem?_cons_zero, List.getElem?_cons_succ] at z2; have HH := Lib.hid hh; have HO2 := Lib.hid hO2; have HG2 := Lib.hid hg2; clear hh hO2 hg2 hrow)
            all_goals go_wp2
            all_goals (obtain ⟨t1, t2, t3, t4⟩ := rof_step HX.out (((Ext.refl wr).drewN (nq + 1)).alloc _) HR.out HO.out HG2.out HH.out HO2.out; refine ⟨⟨k + 1, n2, cap2, A2, by omega, by go_num, t1, t2, by rw [extB_take HK.out, ES.out]; exact t3, t4⟩, by simp [intOf]; omega⟩)
          · obtain ⟨g2, o2, s2, l2, rfl, hp2, hq2, hgl, hq0, hq1⟩ := (HO.out.sl eX_len).ex (n' - 1) (by have := HO.out.len; have := extB_one (l := l) (k := k) (by omega) (by rw [← HL.out]; omega); omega)
            obtain rfl : o2 = 0 := by
              rcases HO.out.own.2 with ⟨hv, _⟩ | ⟨g', cap2, cur, hv, _⟩
              · cases hv
              · injection hv with hv; injection hv with hv; injection hv
            rw [Nat.zero_add] at hq0 hq1
            have hn0 : 1 ≤ n' := by have := HO.out.len; have := extB_one (l := l) (k := k) (by omega) (by rw [← HL.out]; omega); omega
            obtain ⟨b9, o9, z, hA9, hz9, _, _, hc9⟩ := H.out.num (k - 1) (by omega)
            simp only [Option.some.injEq, Addr.mk.injEq, and_true] at hA9
            obtain ⟨rfl, rfl⟩ := hA9
            have hc9 := HX.out.at hc9
            have f1 := HO.out.free ((n' - 1) * 2 + 1)
            have hbd := extB_bd (l.take k) _ (List.mem_of_getElem? hp2)
            simp only at hbd
            have HW := Lib.hid (ext_prev (by rw [← HL.out]; omega) (by omega) hz9 HO.out.len.symm hp2)
            have HP := Lib.hid hp2
            have HLN := Lib.hid HO.out.len.symm
            have hgb := (HO.out.lt g2 rfl).1
            have hd : decide (0 < k) = true := by simp; omega
            have k1 : (0 : Int) ≤ (n' : Int) - 1 := by omega
            have k2 : (1 : Int) ≤ (n' : Int) := by omega
            have k4 : (n' : Int) - 1 < (n' : Int) := by omega
            have j1 : (0 : Int) ≤ (k : Int) - 1 := by omega
            have j2 : (1 : Int) ≤ (k : Int) := by omega
            have j3 : 1 ≤ k := by omega
            have j4 : (k : Int) - 1 < (n : Int) := by omega
            obtain ⟨d1, d2⟩ := hbd
            clear hp2 hz9 hz0
            by_cases hb : y = wrap64 (z + 1)
            · have hb1 : (y == wrap64 (z + 1)) = true := by simpa using hb
              by_cases h8 : l2 < 8
              · have hd8 : decide (l2 < 8) = true := decide_eq_true h8
                have ES := Lib.hid (extStep_join HLN.out HP.out (hb.trans HW.out.symm) h8)
                clear hb
                go_wp2
                go_quiet (fail)
                go_wp2
                go_region
                all_goals go_wp2
                all_goals exact ⟨⟨k + 1, n', cap', some ⟨g2, 0, none⟩, by omega, by go_num, (Below.heap_setCell _ _ _ _ (by simp only; omega)).trans HR.out, (Below.heap_setCell _ _ _ _ (by simp only; omega)).trans HX1.out, by rw [extB_take HK.out, ES.out]; exact ((HO.out.ext ((Ext.refl _).drewN (nq + 1))).setLen (n' - 1) (l2 + 1) HP.out).1, (HX.out.drewN _).setCell (p := ⟨g2, (n' - 1) * 2 + 1, none⟩) (by simp only; omega) _⟩, by simp [intOf]; omega⟩
              · have hd8 : decide (l2 < 8) = false := decide_eq_false h8
                have ES := Lib.hid (extStep_new (b := y) HLN.out HP.out (fun h => h8 h.2))
                clear hb
                go_wp2
                go_quiet (fail)
                go_wp2
                go_region_law (refine step_app _ rfl _ _ 63 rfl info_rex Try.underlying63 rfl (by decide) (eX_len) (eX_one) (HO.out.ext (((Ext.refl _).drewN _).alloc _)) rfl (Sl.laid (eX_len) _ [(y, 1)] _ 85 1 rfl rfl (by decide)) rfl (by simp only [List.length_singleton]; omega) (by simp only [List.length_singleton]; omega) (by exact Nat.le_trans hz (((Ext.refl wr).drewN _).alloc _).size) ?_; intro A2 n2 cap2 w2 hO2 hg2 hrow _; have hh := heap_grown ((((Ext.refl wr).drewN _).alloc _).heap HX1.out) hg2 (HO.out.row_ne HX1.out (by decide)); have z2 := cell_of_heap hh 2; have v2 := free_of_heap hh 2; simp only [List.getElem?_toArray, List.getElem?_cons_zero, List.getElem?_cons_succ] at z2; have HH := Lib.hid hh; have HO2 := Lib.hid hO2; have HG2 := Lib.hid hg2; clear hh hO2 hg2 hrow)
                all_goals go_wp2
                all_goals (obtain ⟨t1, t2, t3, t4⟩ := rof_step HX.out (((Ext.refl wr).drewN (nq + 1)).alloc _) HR.out HO.out HG2.out HH.out HO2.out; refine ⟨⟨k + 1, n2, cap2, A2, by omega, by go_num, t1, t2, by rw [extB_take HK.out, ES.out]; exact t3, t4⟩, by simp [intOf]; omega⟩)

            · have hb1 : (y == wrap64 (z + 1)) = false := by simpa using hb
              have ES := Lib.hid (extStep_new (b := y) HLN.out HP.out (fun h => hb (h.1.trans HW.out)))
              clear hb
              go_wp2
              go_quiet (fail)
              go_wp2
              go_region_law (refine step_app _ rfl _ _ 63 rfl info_rex Try.underlying63 rfl (by decide) (eX_len) (eX_one) (HO.out.ext (((Ext.refl _).drewN _).alloc _)) rfl (Sl.laid (eX_len) _ [(y, 1)] _ 85 1 rfl rfl (by decide)) rfl (by simp only [List.length_singleton]; omega) (by simp only [List.length_singleton]; omega) (by exact Nat.le_trans hz (((Ext.refl wr).drewN _).alloc _).size) ?_; intro A2 n2 cap2 w2 hO2 hg2 hrow _; have hh := heap_grown ((((Ext.refl wr).drewN _).alloc _).heap HX1.out) hg2 (HO.out.row_ne HX1.out (by decide)); have z2 := cell_of_heap hh 2; have v2 := free_of_heap hh 2; simp only [List.getElem?_toArray, List.getElem?_cons_zero, List.getElem?_cons_succ] at z2; have HH := Lib.hid hh; have HO2 := Lib.hid hO2; have HG2 := Lib.hid hg2; clear hh hO2 hg2 hrow)
              all_goals go_wp2
              all_goals (obtain ⟨t1, t2, t3, t4⟩ := rof_step HX.out (((Ext.refl wr).drewN (nq + 1)).alloc _) HR.out HO.out HG2.out HH.out HO2.out; refine ⟨⟨k + 1, n2, cap2, A2, by omega, by go_num, t1, t2, by rw [extB_take HK.out, ES.out]; exact t3, t4⟩, by simp [intOf]; omega⟩)
        · have hE : l.take k = l := List.take_of_length_le (by rw [← HL.out]; omega)
          have hO := HO.out
          rw [hE] at hO
          have HS := Lib.hid (hO.sl eX_len)
          clear hO hE
          by_cases hc : checkI (2, s, extB l) = 0
          · have E : ofI 2 s l = ((2, s, extB l), 0) := by unfold ofI; rw [if_neg hm, if_pos hc]
            have EE := Lib.hid E
            have HC := Lib.hid hc
            clear E hc hm
            go_wp2_with (go_at_call 54; refine (rcheck_ino _ _ _ _ _ _ _ _ HS.out (by omega)).mono ?_; rw [HC.out]; rintro e w2 ⟨rfl, he2⟩; have hb6 := he2.heap HR.out; have a0 := cell_of_heap hb6 0; have a1 := cell_of_heap hb6 1; have a2 := cell_of_heap hb6 2; have b0 := free_of_heap hb6 0; have b1 := free_of_heap hb6 1; have b2 := free_of_heap hb6 2; simp only [List.getElem?_toArray, List.getElem?_cons_zero, List.getElem?_cons_succ] at a0 a1 a2; have hb7 := he2.heap HX1.out; have q0 := cell_of_heap hb7 0; have q1 := cell_of_heap hb7 1; have q2 := cell_of_heap hb7 2; simp only [List.getElem?_toArray, List.getElem?_cons_zero, List.getElem?_cons_succ] at q0 q1 q2; have HE2 := Lib.hid he2; clear hb6 hb7)
            have hx2 := HX.out.trans HE2.out
            refine bodyPost_ret (v := .tuple #[.agg #[.int .i64 2, .int .i64 s, .slice A' n' cap'], .int .i64 0]) (by simp [results, Try.results36, go_sem, a0, a1, a2]) rfl ?_
            rw [EE.out]
            exact ⟨A', n', cap', rfl, (HS.out.mut (g := w.heap.size) ((((HE2.out.mut _).setCell 0 _).setCell 1 _).setCell 2 _) (fun k hk => by have := hk.1; omega)).mono (fun k hk => by have := hk.1; omega), ((hx2.setCell (Nat.le_refl _) _).setCell (Nat.le_refl _) _).setCell (Nat.le_refl _) _⟩
          · have E : ofI 2 s l = (zeroI, checkI (2, s, extB l)) := by unfold ofI; rw [if_neg hm, if_neg hc]
            have EE := Lib.hid E
            have cc : (checkI (2, s, extB l) != 0) = true := by simpa using hc
            clear E hc hm
            go_wp2_with (go_at_call 54; refine (rcheck_ino _ _ _ _ _ _ _ _ HS.out (by omega)).mono ?_; rintro e w2 ⟨rfl, he2⟩; have hb6 := he2.heap HR.out; have a0 := cell_of_heap hb6 0; have a1 := cell_of_heap hb6 1; have a2 := cell_of_heap hb6 2; have b0 := free_of_heap hb6 0; have b1 := free_of_heap hb6 1; have b2 := free_of_heap hb6 2; simp only [List.getElem?_toArray, List.getElem?_cons_zero, List.getElem?_cons_succ] at a0 a1 a2; have hb7 := he2.heap HX1.out; have q0 := cell_of_heap hb7 0; have q1 := cell_of_heap hb7 1; have q2 := cell_of_heap hb7 2; simp only [List.getElem?_toArray, List.getElem?_cons_zero, List.getElem?_cons_succ] at q0 q1 q2; have HE2 := Lib.hid he2; clear hb6 hb7)
            have hx2 := HX.out.trans HE2.out
            refine bodyPost_ret (v := .tuple #[.agg #[.int .i64 0, .int .i64 0, .slice none 0 0], .int .i64 (checkI (2, s, extB l))]) (by simp [results, Try.results36, go_sem, a0, a1, a2]) rfl ?_
            rw [EE.out]
            exact ⟨none, 0, 0, rfl, slX_nil _, ((hx2.setCell (Nat.le_refl _) _).setCell (Nat.le_refl _) _).setCell (Nat.le_refl _) _⟩
end Go.Proofs.Ytdocdppimpapiaa

namespace Go.Proofs.Ytdocdppimpapiaa
open Go.RowKit

set_option maxRecDepth 100000 in
set_option maxHeartbeats 3200000 in
theorem rgrow_any (m s size : Int) (A B : Option Addr) (n c k d : Nat) (xs : List Ex) (l : List Int) (Q R : Nat → Prop) (w : World) (h : Sl eX 2 Q w A n c xs) (h' : Sl (eI .i64) 1 R w B k d l) (hl : xs.length ≤ 100) (hl' : l.length ≤ 100) :
    Calls Try.prog 44 #[.agg #[.int .i64 m, .int .i64 s, .slice A n c], .int .i64 size, .slice B k d] w (RetIn (growI (m, s, xs) size l) w) := by
  have H := Lib.hid h
  have H' := Lib.hid h'
  clear h h'
  have box : ∀ (o1 o2 : Obj), Ext w ((w.alloc o1).alloc o2) := fun o1 o2 => ((Ext.refl w).alloc o1).alloc o2
  by_cases hc : checkI (m, s, xs) = 0
  · have HC := Lib.hid hc
    by_cases hm : m = 0 ∨ size < s
    · have E : growI (m, s, xs) size l = (zeroI, 12) := by unfold growI; rw [if_pos hc, if_pos hm]
      rw [E]
      have hm2 : m = 0 ∨ ((m == 0) = false ∧ size < s) := by
        by_cases h0 : m = 0
        · exact .inl h0
        · exact .inr ⟨by simpa using h0, hm.resolve_left h0⟩
      clear hc E hm
      rcases hm2 with rfl | ⟨m0, ms⟩
      · go_enter Try.func44, Try.ntmps44
        go_wp2_with (go_at_call 54; refine (rcheck_ino _ _ _ _ _ _ _ _ (H.out.ext (box _ _)) (by omega)).mono ?_; rw [HC.out]; rintro e w2 ⟨rfl, he2⟩; have hb := he2.heap (((Ext.refl _).alloc _).heap (heap_alloc_new w _)); have a0 := cell_of_heap hb 0; have a1 := cell_of_heap hb 1; have a2 := cell_of_heap hb 2; simp only [List.getElem?_toArray, List.getElem?_cons_zero, List.getElem?_cons_succ] at a0 a1 a2; have hr := he2.heap (heap_new2 w _ _); have r0 := cell_of_heap hr 0; have r1 := cell_of_heap hr 1; have r2 := cell_of_heap hr 2; simp only [List.getElem?_toArray, List.getElem?_cons_zero, List.getElem?_cons_succ] at r0 r1 r2; have f0 := free_of_heap hr 0; have f1 := free_of_heap hr 1; have f2 := free_of_heap hr 2; replace hb := Lib.hid hb; replace hr := Lib.hid hr; replace he2 := Lib.hid he2)
        refine bodyPost_ret (v := .tuple #[.agg #[.int .i64 0, .int .i64 0, .slice none 0 0], .int .i64 12]) (by simp [results, Try.results44, go_sem, r0, r1, r2]) rfl ⟨none, 0, 0, rfl, slX_nil _, (((((box _ _).trans he2.out).setCell (Nat.le_succ _) _).setCell (Nat.le_succ _) _).setCell (Nat.le_succ _) _)⟩
      · go_enter Try.func44, Try.ntmps44
        go_wp2_with (go_at_call 54; refine (rcheck_ino _ _ _ _ _ _ _ _ (H.out.ext (box _ _)) (by omega)).mono ?_; rw [HC.out]; rintro e w2 ⟨rfl, he2⟩; have hb := he2.heap (((Ext.refl _).alloc _).heap (heap_alloc_new w _)); have a0 := cell_of_heap hb 0; have a1 := cell_of_heap hb 1; have a2 := cell_of_heap hb 2; simp only [List.getElem?_toArray, List.getElem?_cons_zero, List.getElem?_cons_succ] at a0 a1 a2; have hr := he2.heap (heap_new2 w _ _); have r0 := cell_of_heap hr 0; have r1 := cell_of_heap hr 1; have r2 := cell_of_heap hr 2; simp only [List.getElem?_toArray, List.getElem?_cons_zero, List.getElem?_cons_succ] at r0 r1 r2; have f0 := free_of_heap hr 0; have f1 := free_of_heap hr 1; have f2 := free_of_heap hr 2; replace hb := Lib.hid hb; replace hr := Lib.hid hr; replace he2 := Lib.hid he2)
        refine bodyPost_ret (v := .tuple #[.agg #[.int .i64 0, .int .i64 0, .slice none 0 0], .int .i64 12]) (by simp [results, Try.results44, go_sem, r0, r1, r2]) rfl ⟨none, 0, 0, rfl, slX_nil _, (((((box _ _).trans he2.out).setCell (Nat.le_succ _) _).setCell (Nat.le_succ _) _).setCell (Nat.le_succ _) _)⟩
    · have E : growI (m, s, xs) size l = ofI m size (blkB xs ++ l) := by unfold growI; rw [if_pos hc, if_neg hm]
      rw [E]
      have m0 : (m == 0) = false := by simp; omega
      have ms : ¬ size < s := by omega
      clear hc E hm
      go_enter Try.func44, Try.ntmps44
      go_wp2_with (go_at_call 54; refine (rcheck_ino _ _ _ _ _ _ _ _ (H.out.ext (box _ _)) (by omega)).mono ?_; rw [HC.out]; rintro e w2 ⟨rfl, he2⟩; have hb := he2.heap (((Ext.refl _).alloc _).heap (heap_alloc_new w _)); have a0 := cell_of_heap hb 0; have a1 := cell_of_heap hb 1; have a2 := cell_of_heap hb 2; simp only [List.getElem?_toArray, List.getElem?_cons_zero, List.getElem?_cons_succ] at a0 a1 a2; have hr := he2.heap (heap_new2 w _ _); have r0 := cell_of_heap hr 0; have r1 := cell_of_heap hr 1; have r2 := cell_of_heap hr 2; simp only [List.getElem?_toArray, List.getElem?_cons_zero, List.getElem?_cons_succ] at r0 r1 r2; have f0 := free_of_heap hr 0; have f1 := free_of_heap hr 1; have f2 := free_of_heap hr 2; replace hb := Lib.hid hb; replace hr := Lib.hid hr; replace he2 := Lib.hid he2)
      have hbl := blkB_len xs
      have hlt0 : w.heap.size + 1 < w2.drew.heap.size := lt_of_heap hr.out
      have hX : Ext w w2 := (box _ _).trans he2.out
      go_region_held3 (fun W => W.cell? ⟨w.heap.size, 0, none⟩ = some (.int .i64 m) ∧ W.cell? ⟨w.heap.size, 1, none⟩ = some (.int .i64 s) ∧ W.cell? ⟨w.heap.size, 2, none⟩ = some (.slice A n c) ∧ W.frozen? ⟨w.heap.size + 1, 0, none⟩ = false ∧ W.frozen? ⟨w.heap.size + 1, 1, none⟩ = false ∧ W.frozen? ⟨w.heap.size + 1, 2, none⟩ = false ∧ W.cell? ⟨w.heap.size + 1, 0, none⟩ = some (rv W ⟨w.heap.size + 1, 0, none⟩) ∧ W.cell? ⟨w.heap.size + 1, 1, none⟩ = some (rv W ⟨w.heap.size + 1, 1, none⟩) ∧ W.cell? ⟨w.heap.size + 1, 2, none⟩ = some (rv W ⟨w.heap.size + 1, 2, none⟩) ∧ w.heap.size + 1 < W.heap.size ∧ Ext w W)
        (first
          | exact ⟨a0, a1, a2, f0, f1, f2, rv_of r0, rv_of r1, rv_of r2, lt_of_heap hr.out, hX.drew⟩
          | exact ⟨he3.at a0, he3.at a1, he3.at a2, he3.free' f0 hlt0, he3.free' f1 hlt0, he3.free' f2 hlt0, rv_of (he3.at r0), rv_of (he3.at r1), rv_of (he3.at r2), Nat.lt_of_lt_of_le hlt0 he3.size, hX.drew.trans he3⟩
          | (go_split_ands; refine ⟨he3.at (by assumption), he3.at (by assumption), he3.at (by assumption), he3.free' (by assumption) (by assumption), he3.free' (by assumption) (by assumption), he3.free' (by assumption) (by assumption), he3.rv (by assumption), he3.rv (by assumption), he3.rv (by assumption), Nat.lt_of_lt_of_le (by assumption) he3.size, Ext.trans (by assumption) he3⟩)
          | (go_split_ands; refine ⟨((Ext.refl _).alloc _).at (by assumption), ((Ext.refl _).alloc _).at (by assumption), ((Ext.refl _).alloc _).at (by assumption), ((Ext.refl _).alloc _).free' (by assumption) (by assumption), ((Ext.refl _).alloc _).free' (by assumption) (by assumption), ((Ext.refl _).alloc _).free' (by assumption) (by assumption), ((Ext.refl _).alloc _).rv (by assumption), ((Ext.refl _).alloc _).rv (by assumption), ((Ext.refl _).alloc _).rv (by assumption), Nat.lt_of_lt_of_le (by assumption) ((Ext.refl _).alloc _).size, Ext.alloc (by assumption) _⟩)
          | (go_split_ands; refine ⟨?_, ?_, ?_, ?_, ?_, ?_, rv_set (rv_set (rv_set (by assumption))), rv_set (rv_set (rv_set (by assumption))), rv_set (rv_set (rv_set (by assumption))), ?_, Ext.setCell (Ext.setCell (Ext.setCell (by assumption) (Nat.le_succ _) _) (Nat.le_succ _) _) (Nat.le_succ _) _⟩ <;> go_keep)
          | go_keep)
        (first
          | (go_at_call 47; go_must (refine (rblocks_any _ _ _ _ _ _ _ _ (H.out.ext (by (repeat (first | exact Ext.refl _ | assumption | refine Ext.alloc ?_ _ | refine Ext.drew ?_ | refine Ext.drewN ?_ _ | refine Ext.setCell ?_ (by simp) _ | (refine Ext.trans ?_ (by assumption)))))) (by omega)).mono ?_); rintro e w3 ⟨A3, n3, c3, rfl, hO3, he3⟩; replace hO3 := Lib.hid hO3; have hz3 := he3.size)
          | (go_at_call 36; go_must (refine (rof_any _ _ _ _ _ _ _ _ (((hO4.out.sl (eI_len _))).ext (by (repeat (first | exact Ext.refl _ | assumption | refine Ext.alloc ?_ _ | refine Ext.drew ?_ | refine Ext.drewN ?_ _ | refine Ext.setCell ?_ (by simp) _ | (refine Ext.trans ?_ (by assumption)))))) (by have := blkB_len xs; simp; omega)).mono ?_); rintro e w5 ⟨A5, n5, c5, rfl, hS5, he3⟩; replace hS5 := Lib.hid hS5)
          | (refine step_app _ rfl _ _ 57 rfl info_int Try.underlying57 rfl (by decide) (eI_len _) (eI_one _) hO3.out rfl (H'.out.ext (by (repeat (first | exact Ext.refl _ | assumption | refine Ext.alloc ?_ _ | refine Ext.drew ?_ | refine Ext.drewN ?_ _ | refine Ext.setCell ?_ (by simp) _ | (refine Ext.trans ?_ (by assumption)))))) rfl (by omega) (by omega) hz3 ?_; intro A4 n4 c4 w4 hO4 hg4 _ _; have he3 : Ext w2.drew w4 := Ext.grown (by assumption) hg4 (fun q hq => (hO3.out.lt q hq).1); replace hO4 := Lib.hid hO4))
      all_goals (rename_i hS; obtain ⟨-, -, -, -, -, -, -, -, -, s9, s10⟩ := hS; go_wp2)
      all_goals (
        have hE4 : Ext w2.drew w4 := by assumption
        have hq4 : w.heap.size + 1 < w4.heap.size := Nat.lt_of_lt_of_le hlt0 hE4.size
        have hr5 := he3.heap (hE4.heap (((Ext.refl w2).drew).heap hr.out))
        have p0 := cell_of_heap hr5 0; have p1 := cell_of_heap hr5 1; have p2 := cell_of_heap hr5 2; simp only [List.getElem?_toArray, List.getElem?_cons_zero, List.getElem?_cons_succ] at p0 p1 p2
        refine bodyPost_ret (v := .tuple #[.agg #[.int .i64 (ofI m size (blkB xs ++ l)).1.1, .int .i64 (ofI m size (blkB xs ++ l)).1.2.1, .slice A5 n5 c5], .int .i64 (ofI m size (blkB xs ++ l)).2]) (by simp [results, Try.results44, go_sem, p0, p1, p2]) rfl ⟨A5, n5, c5, rfl, (hS5.out.mut (g := w.heap.size + 1) ((((Mut.refl _ w5).setCell 0 _).setCell 1 _).setCell 2 _) (fun k hk => by omega)).mono (fun k hk => by omega), s10⟩)
  · have E : growI (m, s, xs) size l = (zeroI, checkI (m, s, xs)) := by unfold growI; rw [if_neg hc]
    rw [E]
    have e0 : (checkI (m, s, xs) != 0) = true := by simp [hc]
    clear hc E
    go_enter Try.func44, Try.ntmps44
    go_wp2_with (go_at_call 54; refine (rcheck_ino _ _ _ _ _ _ _ _ (H.out.ext (box _ _)) (by omega)).mono ?_; rintro e w2 ⟨rfl, he2⟩; have hb := he2.heap (((Ext.refl _).alloc _).heap (heap_alloc_new w _)); have a0 := cell_of_heap hb 0; have a1 := cell_of_heap hb 1; have a2 := cell_of_heap hb 2; simp only [List.getElem?_toArray, List.getElem?_cons_zero, List.getElem?_cons_succ] at a0 a1 a2; have hr := he2.heap (heap_new2 w _ _); have r0 := cell_of_heap hr 0; have r1 := cell_of_heap hr 1; have r2 := cell_of_heap hr 2; simp only [List.getElem?_toArray, List.getElem?_cons_zero, List.getElem?_cons_succ] at r0 r1 r2; have f0 := free_of_heap hr 0; have f1 := free_of_heap hr 1; have f2 := free_of_heap hr 2; replace hb := Lib.hid hb; replace hr := Lib.hid hr; replace he2 := Lib.hid he2)
    refine bodyPost_ret (v := .tuple #[.agg #[.int .i64 0, .int .i64 0, .slice none 0 0], .int .i64 (checkI (m, s, xs))]) (by simp [results, Try.results44, go_sem, r0, r1, r2]) rfl ⟨none, 0, 0, rfl, slX_nil _, (((((box _ _).trans he2.out).setCell (Nat.le_succ _) _).setCell (Nat.le_succ _) _).setCell (Nat.le_succ _) _)⟩
end Go.Proofs.Ytdocdppimpapiaa
