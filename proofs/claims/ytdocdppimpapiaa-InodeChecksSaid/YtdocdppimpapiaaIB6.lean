/-
  The reference's Cut.
-/
import Derived.Test.YtdocdppimpapiaaIB4
import Derived.Test.YtdocdppimpapiaaIB5
set_option linter.unusedSimpArgs false
set_option linter.unusedVariables false
namespace Go.Proofs.Ytdocdppimpapiaa
open Go.RowKit

set_option maxHeartbeats 3200000 in
theorem rcut_any (m s size : Int) (A : Option Addr) (n c : Nat) (xs : List Ex) (Q : Nat → Prop) (w : World) (h : Sl eX 2 Q w A n c xs) (hl : xs.length ≤ 100) :
    Calls Try.prog 46 #[.agg #[.int .i64 m, .int .i64 s, .slice A n c], .int .i64 size] w (RetCut (cutI (m, s, xs) size) w) := by
  have H := Lib.hid h
  clear h
  have box : ∀ (o1 o2 : Obj), Ext w ((w.alloc o1).alloc o2) := fun o1 o2 => ((Ext.refl w).alloc o1).alloc o2
  by_cases hc : checkI (m, s, xs) = 0
  · have HC := Lib.hid hc
    by_cases h0 : m = 0
    · subst h0
      rw [cutI_free hc rfl]
      clear hc
      go_enter Try.func46, Try.ntmps46
      go_wp2_with (go_at_call 54; refine (rcheck_ino _ _ _ _ _ _ _ _ (H.out.ext (box _ _)) (by omega)).mono ?_; rw [HC.out]; rintro e w2 ⟨rfl, he2⟩; have hb := he2.heap (((Ext.refl _).alloc _).heap (heap_alloc_new w _)); have a0 := cell_of_heap hb 0; have a1 := cell_of_heap hb 1; have a2 := cell_of_heap hb 2; simp only [List.getElem?_toArray, List.getElem?_cons_zero, List.getElem?_cons_succ] at a0 a1 a2; have hr := he2.heap (heap_new2 w _ _); have r0 := cell_of_heap hr 0; have r1 := cell_of_heap hr 1; have r2 := cell_of_heap hr 2; simp only [List.getElem?_toArray, List.getElem?_cons_zero, List.getElem?_cons_succ] at r0 r1 r2; have f0 := free_of_heap hr 0; have f1 := free_of_heap hr 1; have f2 := free_of_heap hr 2; replace hb := Lib.hid hb; replace hr := Lib.hid hr; replace he2 := Lib.hid he2)
      refine bodyPost_ret (v := .tuple #[.agg #[.int .i64 0, .int .i64 0, .slice none 0 0], .slice none 0 0, .int .i64 12]) (by simp [results, Try.results46, go_sem, r0, r1, r2]) rfl ⟨none, 0, 0, none, 0, 0, rfl, slX_nil _, Sl.nil _ _ _ _ (Nat.zero_le _), (((((box _ _).trans he2.out).setCell (Nat.le_succ _) _).setCell (Nat.le_succ _) _).setCell (Nat.le_succ _) _)⟩
    · have m0 : (m == 0) = false := by simpa using h0
      by_cases hs : size < 0
      · rw [cutI_range hc h0 (.inl hs)]
        clear hc h0
        go_enter Try.func46, Try.ntmps46
        go_wp2_with (go_at_call 54; refine (rcheck_ino _ _ _ _ _ _ _ _ (H.out.ext (box _ _)) (by omega)).mono ?_; rw [HC.out]; rintro e w2 ⟨rfl, he2⟩; have hb := he2.heap (((Ext.refl _).alloc _).heap (heap_alloc_new w _)); have a0 := cell_of_heap hb 0; have a1 := cell_of_heap hb 1; have a2 := cell_of_heap hb 2; simp only [List.getElem?_toArray, List.getElem?_cons_zero, List.getElem?_cons_succ] at a0 a1 a2; have hr := he2.heap (heap_new2 w _ _); have r0 := cell_of_heap hr 0; have r1 := cell_of_heap hr 1; have r2 := cell_of_heap hr 2; simp only [List.getElem?_toArray, List.getElem?_cons_zero, List.getElem?_cons_succ] at r0 r1 r2; have f0 := free_of_heap hr 0; have f1 := free_of_heap hr 1; have f2 := free_of_heap hr 2; replace hb := Lib.hid hb; replace hr := Lib.hid hr; replace he2 := Lib.hid he2)
        refine bodyPost_ret (v := .tuple #[.agg #[.int .i64 0, .int .i64 0, .slice none 0 0], .slice none 0 0, .int .i64 20]) (by simp [results, Try.results46, go_sem, r0, r1, r2]) rfl ⟨none, 0, 0, none, 0, 0, rfl, slX_nil _, Sl.nil _ _ _ _ (Nat.zero_le _), (((((box _ _).trans he2.out).setCell (Nat.le_succ _) _).setCell (Nat.le_succ _) _).setCell (Nat.le_succ _) _)⟩
      · by_cases hs2 : s < size
        · rw [cutI_range hc h0 (.inr hs2)]
          clear hc h0
          go_enter Try.func46, Try.ntmps46
          go_wp2_with (go_at_call 54; refine (rcheck_ino _ _ _ _ _ _ _ _ (H.out.ext (box _ _)) (by omega)).mono ?_; rw [HC.out]; rintro e w2 ⟨rfl, he2⟩; have hb := he2.heap (((Ext.refl _).alloc _).heap (heap_alloc_new w _)); have a0 := cell_of_heap hb 0; have a1 := cell_of_heap hb 1; have a2 := cell_of_heap hb 2; simp only [List.getElem?_toArray, List.getElem?_cons_zero, List.getElem?_cons_succ] at a0 a1 a2; have hr := he2.heap (heap_new2 w _ _); have r0 := cell_of_heap hr 0; have r1 := cell_of_heap hr 1; have r2 := cell_of_heap hr 2; simp only [List.getElem?_toArray, List.getElem?_cons_zero, List.getElem?_cons_succ] at r0 r1 r2; have f0 := free_of_heap hr 0; have f1 := free_of_heap hr 1; have f2 := free_of_heap hr 2; replace hb := Lib.hid hb; replace hr := Lib.hid hr; replace he2 := Lib.hid he2)
          refine bodyPost_ret (v := .tuple #[.agg #[.int .i64 0, .int .i64 0, .slice none 0 0], .slice none 0 0, .int .i64 20]) (by simp [results, Try.results46, go_sem, r0, r1, r2]) rfl ⟨none, 0, 0, none, 0, 0, rfl, slX_nil _, Sl.nil _ _ _ _ (Nat.zero_le _), (((((box _ _).trans he2.out).setCell (Nat.le_succ _) _).setCell (Nat.le_succ _) _).setCell (Nat.le_succ _) _)⟩
        · obtain ⟨q, hq⟩ : ∃ q : Nat, needB size = (q : Int) := ⟨(needB size).toNat, (Int.toNat_of_nonneg (needB_nn _)).symm⟩
          have hql : q ≤ (blkB xs).length := by have := cut_le (x := (m, s, xs)) hc (size := size) (by show size ≤ s; omega); rw [hq] at this; exact this
          rw [cutI_ok hc h0 (by show ¬ (size < 0 ∨ s < size); omega) hq]
          have sz : size ≤ 9223372036854775807 := by have := (checkI_ok hc).2.1; omega
          have HQ := Lib.hid hq
          clear hc h0 hq
          go_enter Try.func46, Try.ntmps46
          go_wp2_with (first
            | (go_at_call 54; refine (rcheck_ino _ _ _ _ _ _ _ _ (H.out.ext (box _ _)) (by omega)).mono ?_; rw [HC.out]; rintro e w2 ⟨rfl, he2⟩; have hb := he2.heap (((Ext.refl _).alloc _).heap (heap_alloc_new w _)); have a0 := cell_of_heap hb 0; have a1 := cell_of_heap hb 1; have a2 := cell_of_heap hb 2; simp only [List.getElem?_toArray, List.getElem?_cons_zero, List.getElem?_cons_succ] at a0 a1 a2; have hr := he2.heap (heap_new2 w _ _); have r0 := cell_of_heap hr 0; have r1 := cell_of_heap hr 1; have r2 := cell_of_heap hr 2; simp only [List.getElem?_toArray, List.getElem?_cons_zero, List.getElem?_cons_succ] at r0 r1 r2; have f0 := free_of_heap hr 0; have f1 := free_of_heap hr 1; have f2 := free_of_heap hr 2; replace hb := Lib.hid hb; replace hr := Lib.hid hr; replace he2 := Lib.hid he2)
            | (go_at_call 47; refine (rblocks_any _ _ _ _ _ _ _ _ (H.out.ext ((box _ _).trans he2.out)) (by omega)).mono ?_; rintro e w3 ⟨A3, n3, c3, rfl, hO3, he3⟩; have hn3 := hO3.len; replace hO3 := Lib.hid hO3; have b0 := he3.at a0; have b1 := he3.at a1; have b2 := he3.at a2; replace he3 := Lib.hid he3))
          have hS3 := hO3.out.sl (eI_len .i64)
          have hle3 : (blkB xs).length ≤ c3 := by have := hS3.le; omega
          have hmx3 := hS3.mx
          have hq3 : q ≤ c3 := by omega
          have hT := hS3.take q (by omega) c3 (by omega) hmx3
          have hD := hS3.drop q (by omega)
          rw [Nat.mul_one] at hD
          have hX4 : Ext w w3 := ((box _ _).trans he2.out).trans he3.out
          have htl : ((blkB xs).take q).length ≤ 1000 := by rw [List.length_take]; have := blkB_len xs; omega
          have hr4 := he3.out.heap hr.out
          replace hT := Lib.hid hT
          replace hD := Lib.hid hD
          replace hr4 := Lib.hid hr4
          clear hS3
          have hgl0 : w.heap.size + 1 < w3.heap.size := lt_of_heap hr4.out
          have hgl20 : w.heap.size + 1 < w2.heap.size := lt_of_heap hr.out
          have HGL := Lib.hid hgl0
          have HGL2 := Lib.hid hgl20
          clear hgl0 hgl20
          go_region_held3 (fun W => W.cell? ⟨w.heap.size, 0, none⟩ = some (.int .i64 m) ∧ Ext w W)
            (first
              | (refine ⟨Ext.at (a := w3) (by (repeat (first | exact Ext.refl _ | assumption | refine Ext.alloc ?_ _ | refine Ext.drew ?_ | refine Ext.drewN ?_ _ | refine Ext.setCell ?_ (by simp) _ | (refine Ext.trans ?_ (by assumption))))) b0, Ext.trans hX4 (by (repeat (first | exact Ext.refl _ | assumption | refine Ext.alloc ?_ _ | refine Ext.drew ?_ | refine Ext.drewN ?_ _ | refine Ext.setCell ?_ (by simp) _ | (refine Ext.trans ?_ (by assumption)))))⟩)
              | exact ⟨(he5.alloc _).at b0, (hX4.drew.trans he5).alloc _⟩
              | go_keep)
            (first
              | (go_at_call 39; go_must (refine (rneed_any _ sz _).mono ?_); rintro e w9 ⟨rfl, rfl⟩; rw [HQ.out])
              | (go_at_call 36; go_must (refine (rof_any _ _ _ _ _ _ _ _ (hT.out.ext (by (repeat (first | exact Ext.refl _ | assumption | refine Ext.alloc ?_ _ | refine Ext.drew ?_ | refine Ext.drewN ?_ _ | refine Ext.setCell ?_ (by simp) _ | (refine Ext.trans ?_ (by assumption)))))) htl).mono ?_); rintro e w5 ⟨A5, n5, c5, rfl, hS5, he5⟩; replace hS5 := Lib.hid hS5; (try (have hy := he5.heap (heap_alloc_new _ (.cells #[.int .i64 0, .int .i64 0, .slice none 0 0] 65)); have y0 := cell_of_heap hy 0; have y1 := cell_of_heap hy 1; have y2 := cell_of_heap hy 2; simp only [List.getElem?_toArray, List.getElem?_cons_zero, List.getElem?_cons_succ] at y0 y1 y2; have z0 := free_of_heap hy 0; have z1 := free_of_heap hy 1; have z2 := free_of_heap hy 2; replace hy := Lib.hid hy))))
          all_goals first
            | (
                have hgl := HGL.out
                have hgl2 := HGL2.out
                have hne1 : ¬ (w3.heap.size = w.heap.size + 1) := by omega
                have hr5 := he5.heap (((Ext.refl w3).drew).heap hr4.out)
                have u0 := cell_of_heap hr5 0; have u1 := cell_of_heap hr5 1; have u2 := cell_of_heap hr5 2; simp only [List.getElem?_toArray, List.getElem?_cons_zero, List.getElem?_cons_succ] at u0 u1 u2
                have v0 := free_of_heap hr5 0; have v1 := free_of_heap hr5 1; have v2 := free_of_heap hr5 2
                have hg5 := lt_of_heap hr5
                have T1 : ∀ (W : World) (o : Obj) (i : Nat), w.heap.size + 1 < W.heap.size → (W.alloc o).cell? ⟨w.heap.size + 1, i, none⟩ = W.cell? ⟨w.heap.size + 1, i, none⟩ := fun W o i h => ((Ext.refl W).alloc o).out.cell (p := ⟨w.heap.size + 1, i, none⟩) h
                have U0 := fun o => ((Ext.refl w5).alloc o).at u0
                have U1 := fun o => ((Ext.refl w5).alloc o).at u1
                have U2 := fun o => ((Ext.refl w5).alloc o).at u2
                have V0 := fun o => ((Ext.refl w5).alloc o).free' v0 hg5
                have V1 := fun o => ((Ext.refl w5).alloc o).free' v1 hg5
                have V2 := fun o => ((Ext.refl w5).alloc o).free' v2 hg5
                replace hr5 := Lib.hid hr5
                by_cases hck : c3 = q
                · have hD' := hD.out
                  rw [if_pos hck, hck, Nat.sub_self, hn3] at hD'
                  go_wp2
                  go_region_law (first | (go_simp; go_at_call 39; go_must (refine (rneed_any _ sz _).mono ?_); rintro e w9 ⟨rfl, rfl⟩; rw [HQ.out]))
                  all_goals (
                    go_wp2
                    refine bodyPost_ret (v := .tuple #[.agg #[.int .i64 (ofI m size ((blkB xs).take q)).1.1, .int .i64 (ofI m size ((blkB xs).take q)).1.2.1, .slice A5 n5 c5], .slice A3 ((blkB xs).length - q) 0, .int .i64 (ofI m size ((blkB xs).take q)).2]) (by simp [results, Try.results46, go_sem, u0, u1, u2, T1, hg5]) rfl ⟨A5, n5, c5, _, _, _, rfl, (hS5.out.kp ?_).mono (fun k hk => ?_), (hD'.kp ?_).mono (fun k hk => ?_), ?_⟩
                    · (repeat (first | with_reducible refine Kp.setCell ?_ _ ?_ | with_reducible refine Kp.drewN ?_ _ | with_reducible refine Kp.drew ?_ | with_reducible refine Kp.alloc ?_ _ | with_reducible exact Kp.refl _ _ | (intro k hk1 hk2; simp at hk1 hk2 ⊢; omega)))
                    · simp at hk; omega
                    · (repeat (first | with_reducible refine Kp.setCell ?_ _ ?_ | with_reducible refine Kp.drewN ?_ _ | with_reducible refine Kp.drew ?_ | with_reducible refine Kp.alloc ?_ _ | with_reducible exact Kp.ext (Kp.drew (Kp.refl _ _)) he5 | with_reducible exact Kp.ext (Kp.drew (Kp.alloc (Kp.refl _ _) _)) he5 | with_reducible exact Kp.ext (Kp.alloc (Kp.drew (Kp.refl _ _)) _) he5 | (intro k hk1 hk2; have hk3 := hk1.1; simp at hk2 hk3 ⊢; omega)))
                    · have hk3 := hk.1; omega
                    · (repeat (first | with_reducible refine Ext.setCell ?_ (by simp; try omega) _ | with_reducible refine Ext.drewN ?_ _ | with_reducible refine Ext.drew ?_ | with_reducible refine Ext.alloc ?_ _ | with_reducible exact hX4.drew.trans he5 | with_reducible exact ((hX4.alloc _).drew).trans he5 | with_reducible exact ((hX4.drew).alloc _).trans he5)))
                · have hD' := hD.out
                  rw [if_neg hck, hn3] at hD'
                  go_wp2
                  go_region_law (first | (go_simp; go_at_call 39; go_must (refine (rneed_any _ sz _).mono ?_); rintro e w9 ⟨rfl, rfl⟩; rw [HQ.out]))
                  all_goals (
                    go_wp2
                    refine bodyPost_ret (v := .tuple #[.agg #[.int .i64 (ofI m size ((blkB xs).take q)).1.1, .int .i64 (ofI m size ((blkB xs).take q)).1.2.1, .slice A5 n5 c5], .slice (A3.map (fun x => x.add q)) ((blkB xs).length - q) (c3 - q), .int .i64 (ofI m size ((blkB xs).take q)).2]) (by simp [results, Try.results46, go_sem, u0, u1, u2, T1, hg5]) rfl ⟨A5, n5, c5, _, _, _, rfl, (hS5.out.kp ?_).mono (fun k hk => ?_), (hD'.kp ?_).mono (fun k hk => ?_), ?_⟩
                    · (repeat (first | with_reducible refine Kp.setCell ?_ _ ?_ | with_reducible refine Kp.drewN ?_ _ | with_reducible refine Kp.drew ?_ | with_reducible refine Kp.alloc ?_ _ | with_reducible exact Kp.refl _ _ | (intro k hk1 hk2; simp at hk1 hk2 ⊢; omega)))
                    · simp at hk; omega
                    · (repeat (first | with_reducible refine Kp.setCell ?_ _ ?_ | with_reducible refine Kp.drewN ?_ _ | with_reducible refine Kp.drew ?_ | with_reducible refine Kp.alloc ?_ _ | with_reducible exact Kp.ext (Kp.drew (Kp.refl _ _)) he5 | with_reducible exact Kp.ext (Kp.drew (Kp.alloc (Kp.refl _ _) _)) he5 | with_reducible exact Kp.ext (Kp.alloc (Kp.drew (Kp.refl _ _)) _) he5 | (intro k hk1 hk2; have hk3 := hk1.1; simp at hk2 hk3 ⊢; omega)))
                    · have hk3 := hk.1; omega
                    · (repeat (first | with_reducible refine Ext.setCell ?_ (by simp; try omega) _ | with_reducible refine Ext.drewN ?_ _ | with_reducible refine Ext.drew ?_ | with_reducible refine Ext.alloc ?_ _ | with_reducible exact hX4.drew.trans he5 | with_reducible exact ((hX4.alloc _).drew).trans he5 | with_reducible exact ((hX4.drew).alloc _).trans he5))))
            | (
                have hgl := HGL.out
                have hgl2 := HGL2.out
                have hne1 : ¬ (w3.heap.size = w.heap.size + 1) := by omega
                have hr5 : w5.heap[w.heap.size + 1]? = some (.cells #[.int .i64 0, .int .i64 0, .slice none 0 0] 65 (0, 0)) := he5.heap (by first | exact (((Ext.refl w3).alloc _).drew).heap hr4.out | exact (((Ext.refl w3).drew).alloc _).heap hr4.out | exact ((Ext.refl w3).alloc _).heap hr4.out)
                have u0 := cell_of_heap hr5 0; have u1 := cell_of_heap hr5 1; have u2 := cell_of_heap hr5 2; simp only [List.getElem?_toArray, List.getElem?_cons_zero, List.getElem?_cons_succ] at u0 u1 u2
                have v0 := free_of_heap hr5 0; have v1 := free_of_heap hr5 1; have v2 := free_of_heap hr5 2
                replace hr5 := Lib.hid hr5
                have T0 : ∀ (W : World) (j i : Nat) (u : Value), (W.setCell ⟨w3.heap.size, j, none⟩ u).cell? ⟨w.heap.size + 1, i, none⟩ = W.cell? ⟨w.heap.size + 1, i, none⟩ := fun W j i u => World.cell?_setCell_other W _ _ u (fun h => hne1 (by injection h))
                by_cases hck : c3 = q
                · have hD' := hD.out
                  rw [if_pos hck, hck, Nat.sub_self, hn3] at hD'
                  go_wp2
                  go_region_law (first | (go_simp; go_at_call 39; go_must (refine (rneed_any _ sz _).mono ?_); rintro e w9 ⟨rfl, rfl⟩; rw [HQ.out]))
                  all_goals (
                    go_wp2
                    refine bodyPost_ret (v := .tuple #[.agg #[.int .i64 (ofI m size ((blkB xs).take q)).1.1, .int .i64 (ofI m size ((blkB xs).take q)).1.2.1, .slice A5 n5 c5], .slice A3 ((blkB xs).length - q) 0, .int .i64 (ofI m size ((blkB xs).take q)).2]) (by simp [results, Try.results46, go_sem, u0, u1, u2, T0]) rfl ⟨A5, n5, c5, _, _, _, rfl, (hS5.out.kp ?_).mono (fun k hk => ?_), (hD'.kp ?_).mono (fun k hk => ?_), ?_⟩
                    · (repeat (first | with_reducible refine Kp.setCell ?_ _ ?_ | with_reducible refine Kp.drewN ?_ _ | with_reducible refine Kp.drew ?_ | with_reducible refine Kp.alloc ?_ _ | with_reducible exact Kp.refl _ _ | (intro k hk1 hk2; simp at hk1 hk2 ⊢; omega)))
                    · simp at hk; omega
                    · (repeat (first | with_reducible refine Kp.setCell ?_ _ ?_ | with_reducible refine Kp.drewN ?_ _ | with_reducible refine Kp.drew ?_ | with_reducible refine Kp.alloc ?_ _ | with_reducible exact Kp.ext (Kp.drew (Kp.refl _ _)) he5 | with_reducible exact Kp.ext (Kp.drew (Kp.alloc (Kp.refl _ _) _)) he5 | with_reducible exact Kp.ext (Kp.alloc (Kp.drew (Kp.refl _ _)) _) he5 | (intro k hk1 hk2; have hk3 := hk1.1; simp at hk2 hk3 ⊢; omega)))
                    · have hk3 := hk.1; omega
                    · (repeat (first | with_reducible refine Ext.setCell ?_ (by simp; try omega) _ | with_reducible refine Ext.drewN ?_ _ | with_reducible refine Ext.drew ?_ | with_reducible refine Ext.alloc ?_ _ | with_reducible exact hX4.drew.trans he5 | with_reducible exact ((hX4.alloc _).drew).trans he5 | with_reducible exact ((hX4.drew).alloc _).trans he5)))
                · have hD' := hD.out
                  rw [if_neg hck, hn3] at hD'
                  go_wp2
                  go_region_law (first | (go_simp; go_at_call 39; go_must (refine (rneed_any _ sz _).mono ?_); rintro e w9 ⟨rfl, rfl⟩; rw [HQ.out]))
                  all_goals (
                    go_wp2
                    refine bodyPost_ret (v := .tuple #[.agg #[.int .i64 (ofI m size ((blkB xs).take q)).1.1, .int .i64 (ofI m size ((blkB xs).take q)).1.2.1, .slice A5 n5 c5], .slice (A3.map (fun x => x.add q)) ((blkB xs).length - q) (c3 - q), .int .i64 (ofI m size ((blkB xs).take q)).2]) (by simp [results, Try.results46, go_sem, u0, u1, u2, T0]) rfl ⟨A5, n5, c5, _, _, _, rfl, (hS5.out.kp ?_).mono (fun k hk => ?_), (hD'.kp ?_).mono (fun k hk => ?_), ?_⟩
                    · (repeat (first | with_reducible refine Kp.setCell ?_ _ ?_ | with_reducible refine Kp.drewN ?_ _ | with_reducible refine Kp.drew ?_ | with_reducible refine Kp.alloc ?_ _ | with_reducible exact Kp.refl _ _ | (intro k hk1 hk2; simp at hk1 hk2 ⊢; omega)))
                    · simp at hk; omega
                    · (repeat (first | with_reducible refine Kp.setCell ?_ _ ?_ | with_reducible refine Kp.drewN ?_ _ | with_reducible refine Kp.drew ?_ | with_reducible refine Kp.alloc ?_ _ | with_reducible exact Kp.ext (Kp.drew (Kp.refl _ _)) he5 | with_reducible exact Kp.ext (Kp.drew (Kp.alloc (Kp.refl _ _) _)) he5 | with_reducible exact Kp.ext (Kp.alloc (Kp.drew (Kp.refl _ _)) _) he5 | (intro k hk1 hk2; have hk3 := hk1.1; simp at hk2 hk3 ⊢; omega)))
                    · have hk3 := hk.1; omega
                    · (repeat (first | with_reducible refine Ext.setCell ?_ (by simp; try omega) _ | with_reducible refine Ext.drewN ?_ _ | with_reducible refine Ext.drew ?_ | with_reducible refine Ext.alloc ?_ _ | with_reducible exact hX4.drew.trans he5 | with_reducible exact ((hX4.alloc _).drew).trans he5 | with_reducible exact ((hX4.drew).alloc _).trans he5))))
  · rw [cutI_err hc]
    have e0 : (checkI (m, s, xs) != 0) = true := by simp [hc]
    clear hc
    go_enter Try.func46, Try.ntmps46
    go_wp2_with (go_at_call 54; refine (rcheck_ino _ _ _ _ _ _ _ _ (H.out.ext (box _ _)) (by omega)).mono ?_;  rintro e w2 ⟨rfl, he2⟩; have hb := he2.heap (((Ext.refl _).alloc _).heap (heap_alloc_new w _)); have a0 := cell_of_heap hb 0; have a1 := cell_of_heap hb 1; have a2 := cell_of_heap hb 2; simp only [List.getElem?_toArray, List.getElem?_cons_zero, List.getElem?_cons_succ] at a0 a1 a2; have hr := he2.heap (heap_new2 w _ _); have r0 := cell_of_heap hr 0; have r1 := cell_of_heap hr 1; have r2 := cell_of_heap hr 2; simp only [List.getElem?_toArray, List.getElem?_cons_zero, List.getElem?_cons_succ] at r0 r1 r2; have f0 := free_of_heap hr 0; have f1 := free_of_heap hr 1; have f2 := free_of_heap hr 2; replace hb := Lib.hid hb; replace hr := Lib.hid hr; replace he2 := Lib.hid he2)
    refine bodyPost_ret (v := .tuple #[.agg #[.int .i64 0, .int .i64 0, .slice none 0 0], .slice none 0 0, .int .i64 (checkI (m, s, xs))]) (by simp [results, Try.results46, go_sem, r0, r1, r2]) rfl ⟨none, 0, 0, none, 0, 0, rfl, slX_nil _, Sl.nil _ _ _ _ (Nat.zero_le _), (((((box _ _).trans he2.out).setCell (Nat.le_succ _) _).setCell (Nat.le_succ _) _).setCell (Nat.le_succ _) _)⟩
end Go.Proofs.Ytdocdppimpapiaa
