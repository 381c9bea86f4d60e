/-
  InodeMakes, the walk. InodeTurns, the walk. InodeBack, the walk. What a row hands over, as this seat's lemmas take it: bytes and numbers in slices. No function of the program. What a row hands over: an inode of the reference, by value. No function of the program.
-/
import Derived.ProofKit
import Derived.Carry
import Derived.Lib.SmallJoins
import Derived.Deep.Slices
import Derived.Test.YtdocdppimpapiaaIB1
import Derived.Test.YtdocdppimpapiaaIB4
import Derived.Test.YtdocdppimpapiaaIB5
import Derived.Test.YtdocdppimpapiaaIB6
import Derived.Test.YtdocdppimpapiaaIB7
set_option linter.unusedSimpArgs false
set_option linter.unusedVariables false
namespace Go.Proofs.Ytdocdppimpapiaa
open Go.RowKit

theorem ofI_len (m s : Int) (l : List Int) : (ofI m s l).1.2.2.length ≤ l.length := by
  unfold ofI
  split
  · exact Nat.zero_le _
  · split
    · exact extB_len l
    · exact Nat.zero_le _
theorem beq_int_self (x : Int) : (x == x) = true := by simp
theorem eqL_self (l : List Int) : eqL l l = true := by simp [eqL]

set_option maxRecDepth 100000 in
set_option maxHeartbeats 3200000 in
theorem inodeMakes_any (m s : Int) (A : Option Addr) (n c : Nat) (l : List Int) (Q : Nat → Prop) (w : World) (h : Sl (eI .i64) 1 Q w A n c l) (hs : s ≤ 9223372036854775807) :
    Calls Try.prog 6 #[.int .i64 m, .int .i64 s, .slice A n c] w fun e w' => e = .returned (.bool true) ∧ Ext w w' := by
  have HL := Lib.hid h.len
  have H := Lib.hid h
  have hn63 := Nat.le_trans h.le h.mx
  clear h
  by_cases h40 : 40 < n
  · go_enter Try.func6, Try.ntmps6
    go_wp2_with (go_at_call 34; refine (awake28_any _).mono ?_; rintro e w1 ⟨rfl, he1⟩)
    go_ret
    exact ⟨rfl, he1⟩
  · have hl : l.length ≤ 40 := by rw [← HL.out]; omega
    have hrl := ofI_len m s l
    have hok := fun h : (ofI m s l).2 = 0 => (ofI_ok h)
    obtain ⟨r, hr⟩ : ∃ r, ofI m s l = r := ⟨_, rfl⟩
    rw [hr] at hrl hok
    have HR := Lib.hid hr
    obtain ⟨⟨rm, rs, rx⟩, er⟩ := r
    simp only at hrl hok
    have hrx : rx.length ≤ 1000 := by omega
    have hlx : l.length ≤ 1000 := by omega
    have hee := beq_int_self er
    have hnn := beq_int_self (needB s)
    by_cases he0 : er = 0
    · subst he0
      have HB := Lib.hid (show blkB rx = l by have h1 := hok rfl; have h2 := h1.1; simp only [Prod.mk.injEq] at h2; rw [h2.1.2.2]; exact h1.2.2.2)
      clear hok hrl hr
      go_enter Try.func6, Try.ntmps6
      go_wp2_with (first
        | (go_at_call 35; go_must (refine (iof_any _ _ _ _ _ _ _ _ H.out hlx).mono ?_); rw [HR.out]; rintro e w1 ⟨A1, n1, c1, rfl, hs1, he1⟩; replace hs1 := Lib.hid hs1; replace he1 := Lib.hid he1)
        | (go_at_call 36; go_must (refine (rof_any _ _ _ _ _ _ _ _ (H.out.ext (he1.out.alloc _)) hlx).mono ?_); rw [HR.out]; rintro e w2 ⟨A2, n2, c2, rfl, hs2, he2⟩; have hy := he2.heap (heap_alloc_new w1 _); have y0 := cell_of_heap hy 0; have y1 := cell_of_heap hy 1; have y2 := cell_of_heap hy 2; simp only [List.getElem?_toArray, List.getElem?_cons_zero, List.getElem?_cons_succ] at y0 y1 y2; have y0a := fun o => ((Ext.refl w2).alloc o).at y0; have y1a := fun o => ((Ext.refl w2).alloc o).at y1; have y2a := fun o => ((Ext.refl w2).alloc o).at y2; replace hy := Lib.hid hy; replace hs2 := Lib.hid hs2; replace he2 := Lib.hid he2)
        | (go_at_call 37; go_must (refine (like28_any _ _ _ _ _ _ _ _ _ _ rx rx _ _ _ (hs1.out.ext ((((Ext.refl _).alloc _).trans he2.out).alloc _)) (hs2.out.ext ((Ext.refl _).alloc _)) hrx hrx).mono ?_); rw [eqIno_self]; rintro e w3 ⟨rfl, he3⟩; have hz := he3.heap (((Ext.refl w2).alloc _).heap hy.out); have z0 := cell_of_heap hz 0; have z1 := cell_of_heap hz 1; have z2 := cell_of_heap hz 2; simp only [List.getElem?_toArray, List.getElem?_cons_zero, List.getElem?_cons_succ] at z0 z1 z2; replace hz := Lib.hid hz; replace he3 := Lib.hid he3)
        | (go_at_call 38; go_must (refine (need_any _ hs _).mono ?_); rintro e w4 ⟨rfl, rfl⟩)
        | (go_at_call 39; go_must (refine (rneed_any _ hs _).mono ?_); rintro e w4 ⟨rfl, rfl⟩)
        | (go_at_call 41; go_must (refine (blocks_any _ _ _ _ _ _ _ _ (hs1.out.ext (((((Ext.refl _).alloc _).trans he2.out).alloc _).trans he3.out)) hrx).mono ?_); rw [HB.out]; rintro e w5 ⟨A5, n5, c5, rfl, hO5, he5⟩; replace hO5 := Lib.hid hO5; replace he5 := Lib.hid he5)
        | (go_at_call 40; go_must (refine (sameI_any _ _ _ _ _ _ l l _ _ _ (hO5.out.sl (eI_len _)) (H.out.ext (((((he1.out.alloc _).trans he2.out).alloc _).trans he3.out).trans he5.out))).mono ?_); rw [eqL_self]; rintro e w6 ⟨rfl, hd6⟩; replace hd6 := Lib.hid hd6)
        | (go_at_call 34; go_must (refine (awake28_any _).mono ?_); rintro e w7 ⟨rfl, he7⟩))
      go_ret
      exact ⟨rfl, ((((((he1.out.alloc _).trans he2.out).alloc _).trans he3.out).trans he5.out).trans hd6.out.ext).trans he7⟩
    · have he1' : (er != 0) = true := by simpa using he0
      clear hok hrl hr he0
      go_enter Try.func6, Try.ntmps6
      go_wp2_with (first
        | (go_at_call 35; go_must (refine (iof_any _ _ _ _ _ _ _ _ H.out hlx).mono ?_); rw [HR.out]; rintro e w1 ⟨A1, n1, c1, rfl, hs1, he1⟩; replace hs1 := Lib.hid hs1; replace he1 := Lib.hid he1)
        | (go_at_call 36; go_must (refine (rof_any _ _ _ _ _ _ _ _ (H.out.ext (he1.out.alloc _)) hlx).mono ?_); rw [HR.out]; rintro e w2 ⟨A2, n2, c2, rfl, hs2, he2⟩; have hy := he2.heap (heap_alloc_new w1 _); have y0 := cell_of_heap hy 0; have y1 := cell_of_heap hy 1; have y2 := cell_of_heap hy 2; simp only [List.getElem?_toArray, List.getElem?_cons_zero, List.getElem?_cons_succ] at y0 y1 y2; have y0a := fun o => ((Ext.refl w2).alloc o).at y0; have y1a := fun o => ((Ext.refl w2).alloc o).at y1; have y2a := fun o => ((Ext.refl w2).alloc o).at y2; replace hy := Lib.hid hy; replace hs2 := Lib.hid hs2; replace he2 := Lib.hid he2)
        | (go_at_call 37; go_must (refine (like28_any _ _ _ _ _ _ _ _ _ _ rx rx _ _ _ (hs1.out.ext ((((Ext.refl _).alloc _).trans he2.out).alloc _)) (hs2.out.ext ((Ext.refl _).alloc _)) hrx hrx).mono ?_); rw [eqIno_self]; rintro e w3 ⟨rfl, he3⟩; replace he3 := Lib.hid he3)
        | (go_at_call 38; go_must (refine (need_any _ hs _).mono ?_); rintro e w4 ⟨rfl, rfl⟩)
        | (go_at_call 39; go_must (refine (rneed_any _ hs _).mono ?_); rintro e w4 ⟨rfl, rfl⟩)
        | (go_at_call 34; go_must (refine (awake28_any _).mono ?_); rintro e w7 ⟨rfl, he7⟩))
      go_ret
      exact ⟨rfl, ((((he1.out.alloc _).trans he2.out).alloc _).trans he3.out).trans he7⟩
end Go.Proofs.Ytdocdppimpapiaa

namespace Go.Proofs.Ytdocdppimpapiaa
open Go.RowKit

theorem growI_len (x : Ino) (size : Int) (l : List Int) : (growI x size l).1.2.2.length ≤ 8 * x.2.2.length + l.length := by
  unfold growI
  split
  · split
    · exact Nat.zero_le _
    · have h1 := ofI_len x.1 size (blkB x.2.2 ++ l)
      have h2 := blkB_len x.2.2
      rw [List.length_append] at h1
      omega
  · exact Nat.zero_le _
theorem cutI_len (x : Ino) (size : Int) : (cutI x size).1.2.2.length ≤ 8 * x.2.2.length ∧ (cutI x size).2.1.length ≤ 8 * x.2.2.length := by
  have h2 := blkB_len x.2.2
  unfold cutI
  split
  · split
    · exact ⟨Nat.zero_le _, Nat.zero_le _⟩
    · split
      · exact ⟨Nat.zero_le _, Nat.zero_le _⟩
      · have h1 := ofI_len x.1 size ((blkB x.2.2).take (needB size).toNat)
        rw [List.length_take] at h1
        exact ⟨by simp only; omega, by simp only [List.length_drop]; omega⟩
  · exact ⟨Nat.zero_le _, Nat.zero_le _⟩

set_option maxRecDepth 100000 in
set_option maxHeartbeats 6400000 in
theorem inodeTurns_any (m s : Int) (A : Option Addr) (n c : Nat) (xs : List Ex) (size : Int) (B : Option Addr) (k d : Nat) (l : List Int) (Q R : Nat → Prop) (w : World) (h : Sl eX 2 Q w A n c xs) (h' : Sl (eI .i64) 1 R w B k d l) :
    Calls Try.prog 7 #[.agg #[.int .i64 m, .int .i64 s, .slice A n c], .int .i64 size, .slice B k d] w fun e w' => e = .returned (.bool true) ∧ Ext w w' := by
  have HL := Lib.hid h.len
  have HL' := Lib.hid h'.len
  have H := Lib.hid h
  have H' := Lib.hid h'
  have hn63 := Nat.le_trans h.le h.mx
  have hk63 := Nat.le_trans h'.le h'.mx
  clear h h'
  by_cases h40 : 40 < k
  · go_enter Try.func7, Try.ntmps7
    go_wp2_with (go_at_call 34; refine (awake28_any _).mono ?_; rintro e w1 ⟨rfl, he1⟩)
    go_ret
    exact ⟨rfl, ((Ext.refl _).alloc _).trans he1⟩
  by_cases h41 : 40 < n
  · go_enter Try.func7, Try.ntmps7
    go_wp2_with (go_at_call 34; refine (awake28_any _).mono ?_; rintro e w1 ⟨rfl, he1⟩)
    go_ret
    exact ⟨rfl, ((Ext.refl _).alloc _).trans he1⟩
  have hl : l.length ≤ 40 := by rw [← HL'.out]; omega
  have hx : xs.length ≤ 40 := by rw [← HL.out]; omega
  have hg := growI_len (m, s, xs) size l
  have hc := cutI_len (m, s, xs) size
  obtain ⟨r, hr⟩ : ∃ r, growI (m, s, xs) size l = r := ⟨_, rfl⟩
  obtain ⟨t, ht⟩ : ∃ t, cutI (m, s, xs) size = t := ⟨_, rfl⟩
  rw [hr] at hg
  rw [ht] at hc
  have HR := Lib.hid hr
  have HT := Lib.hid ht
  obtain ⟨⟨rm, rs, rx⟩, er⟩ := r
  obtain ⟨⟨tm, ts, tx⟩, tg, et⟩ := t
  simp only at hg hc
  have hrx : rx.length ≤ 1000 := by omega
  have htx : tx.length ≤ 1000 := by omega
  have hee := beq_int_self er
  have htt := beq_int_self et
  have hl1 : l.length ≤ 100 := by omega
  have hx1 : xs.length ≤ 100 := by omega
  have hx2 : xs.length ≤ 1000 := by omega
  clear hr ht hg hc
  have hb0 := heap_alloc_new w (.cells #[.int .i64 m, .int .i64 s, .slice A n c] 65)
  replace hb0 := Lib.hid hb0
  go_enter Try.func7, Try.ntmps7
  go_wp2_with fail
  refine (ours28_any _ _ _ _ _ _ _ _ (H.out.ext ((Ext.refl _).alloc _)) hx2).mono ?_
  rintro e w1 ⟨A1, n1, c1, rfl, hs1, he1⟩
  have hX1 : Ext w w1 := ((Ext.refl _).alloc _).trans he1
  have hb1 := he1.heap hb0.out
  replace hs1 := Lib.hid hs1
  replace hX1 := Lib.hid hX1
  replace hb1 := Lib.hid hb1
  clear he1
  go_wp2_with fail
  refine (igrow_any _ _ _ _ _ _ _ _ _ _ _ _ _ _ hs1.out (H'.out.ext hX1.out) hx1 hl1).mono ?_
  rw [HR.out]
  rintro e w2 ⟨A2, n2, c2, rfl, hs2, he2⟩
  have hX2 := hX1.out.trans he2
  have hb2 := he2.heap hb1.out
  have a0 := cell_of_heap hb2 0; have a1 := cell_of_heap hb2 1; have a2 := cell_of_heap hb2 2; simp only [List.getElem?_toArray, List.getElem?_cons_zero, List.getElem?_cons_succ] at a0 a1 a2
  have a0a := fun o => ((Ext.refl w2).alloc o).at a0; have a1a := fun o => ((Ext.refl w2).alloc o).at a1; have a2a := fun o => ((Ext.refl w2).alloc o).at a2
  replace hs2 := Lib.hid hs2
  replace hX2 := Lib.hid hX2
  replace hb2 := Lib.hid hb2
  clear he2
  go_wp2_with fail
  refine (rgrow_any _ _ _ _ _ _ _ _ _ _ _ _ _ _ (H.out.ext (hX2.out.alloc _)) (H'.out.ext (hX2.out.alloc _)) hx1 hl1).mono ?_
  rw [HR.out]
  rintro e w3 ⟨A3, n3, c3, rfl, hs3, he3⟩
  have hX3 := (hX2.out.alloc _).trans he3
  have hb3 := he3.heap (((Ext.refl w2).alloc _).heap hb2.out)
  have b0 := cell_of_heap hb3 0; have b1 := cell_of_heap hb3 1; have b2 := cell_of_heap hb3 2; simp only [List.getElem?_toArray, List.getElem?_cons_zero, List.getElem?_cons_succ] at b0 b1 b2
  have b0a := fun o => ((Ext.refl w3).alloc o).at b0; have b1a := fun o => ((Ext.refl w3).alloc o).at b1; have b2a := fun o => ((Ext.refl w3).alloc o).at b2
  have hy3 := he3.heap (heap_alloc_new w2 _)
  have hs23 := hs2.out.ext (((Ext.refl w2).alloc _).trans he3)
  replace hs23 := Lib.hid hs23
  replace hs3 := Lib.hid hs3
  replace hX3 := Lib.hid hX3
  replace hb3 := Lib.hid hb3
  replace hy3 := Lib.hid hy3
  clear he3
  go_wp2_with fail
  refine (ours28_any _ _ _ _ _ _ _ _ (H.out.ext (hX3.out.alloc _)) hx2).mono ?_
  rintro e w4 ⟨A4, n4, c4, rfl, hs4, he4⟩
  have hX4 := (hX3.out.alloc _).trans he4
  have hE34 := ((Ext.refl w3).alloc _).trans he4
  have hz4 := he4.heap (heap_alloc_new w3 _)
  replace hs4 := Lib.hid hs4
  replace hX4 := Lib.hid hX4
  replace hE34 := Lib.hid hE34
  replace hz4 := Lib.hid hz4
  clear he4
  go_wp2_with fail
  refine (icut_any _ _ _ _ _ _ _ _ _ hs4.out (by omega)).mono ?_
  rw [HT.out]
  rintro e w5 ⟨A5, n5, c5, B5, k5, d5, rfl, hs5, hp5, he5⟩
  have hX5 := hX4.out.trans he5
  have hE35 := hE34.out.trans he5
  have hb5 := hE35.heap hb3.out
  have u0 := cell_of_heap hb5 0; have u1 := cell_of_heap hb5 1; have u2 := cell_of_heap hb5 2; simp only [List.getElem?_toArray, List.getElem?_cons_zero, List.getElem?_cons_succ] at u0 u1 u2
  have u0a := fun o => ((Ext.refl w5).alloc o).at u0; have u1a := fun o => ((Ext.refl w5).alloc o).at u1; have u2a := fun o => ((Ext.refl w5).alloc o).at u2
  have hy5 := hE35.heap hy3.out
  have hz5 := he5.heap hz4.out
  have hs25 := hs23.out.ext hE35
  have hs35 := hs3.out.ext hE35
  replace hs5 := Lib.hid hs5
  replace hp5 := Lib.hid hp5
  replace hX5 := Lib.hid hX5
  replace hb5 := Lib.hid hb5
  replace hy5 := Lib.hid hy5
  replace hz5 := Lib.hid hz5
  replace hs25 := Lib.hid hs25
  replace hs35 := Lib.hid hs35
  clear he5 hE35
  go_wp2_with fail
  refine (rcut_any _ _ _ _ _ _ _ _ _ (H.out.ext (hX5.out.alloc _)) hx1).mono ?_
  rw [HT.out]
  rintro e w6 ⟨A6, n6, c6, B6, k6, d6, rfl, hs6, hp6, he6⟩
  have hE56 := ((Ext.refl w5).alloc _).trans he6
  have hX6 := (hX5.out.alloc _).trans he6
  have hy6 := hE56.heap hy5.out
  have hz6 := hE56.heap hz5.out
  have hv6 := he6.heap (heap_alloc_new w5 _)
  have y0 := cell_of_heap hy6 0; have y1 := cell_of_heap hy6 1; have y2 := cell_of_heap hy6 2; simp only [List.getElem?_toArray, List.getElem?_cons_zero, List.getElem?_cons_succ] at y0 y1 y2
  have y0a := fun o => ((Ext.refl w6).alloc o).at y0; have y1a := fun o => ((Ext.refl w6).alloc o).at y1; have y2a := fun o => ((Ext.refl w6).alloc o).at y2
  have z0 := cell_of_heap hz6 0; have z1 := cell_of_heap hz6 1; have z2 := cell_of_heap hz6 2; simp only [List.getElem?_toArray, List.getElem?_cons_zero, List.getElem?_cons_succ] at z0 z1 z2
  have z0a := fun o => ((Ext.refl w6).alloc o).at z0; have z1a := fun o => ((Ext.refl w6).alloc o).at z1; have z2a := fun o => ((Ext.refl w6).alloc o).at z2
  have hs26 := hs25.out.ext (hE56.alloc (.cells #[.int .i64 tm, .int .i64 ts, .slice A6 n6 c6] 65))
  have hs36 := hs35.out.ext (hE56.alloc (.cells #[.int .i64 tm, .int .i64 ts, .slice A6 n6 c6] 65))
  have hs56 := hs5.out.ext (hE56.alloc (.cells #[.int .i64 tm, .int .i64 ts, .slice A6 n6 c6] 65))
  have hp56 := hp5.out.ext (hE56.alloc (.cells #[.int .i64 tm, .int .i64 ts, .slice A6 n6 c6] 65))
  have hs66 := hs6.ext ((Ext.refl w6).alloc (.cells #[.int .i64 tm, .int .i64 ts, .slice A6 n6 c6] 65))
  have hp66 := hp6.ext ((Ext.refl w6).alloc (.cells #[.int .i64 tm, .int .i64 ts, .slice A6 n6 c6] 65))
  replace hs26 := Lib.hid hs26
  replace hs36 := Lib.hid hs36
  replace hs56 := Lib.hid hs56
  replace hp56 := Lib.hid hp56
  replace hs66 := Lib.hid hs66
  replace hp66 := Lib.hid hp66
  replace hX6 := Lib.hid hX6
  replace hv6 := Lib.hid hv6
  clear he6 hE56 hs6 hp6 hy6 hz6
  go_wp2_with fail
  refine (like28_any _ _ _ _ _ _ _ _ _ _ rx rx _ _ _ hs26.out hs36.out hrx hrx).mono ?_
  rw [eqIno_self]
  rintro e w7 ⟨rfl, he7⟩
  have hv7 := he7.heap (((Ext.refl w6).alloc _).heap hv6.out)
  have hu7 := he7.heap (heap_alloc_new w6 _)
  have p0 := cell_of_heap hv7 0; have p1 := cell_of_heap hv7 1; have p2 := cell_of_heap hv7 2; simp only [List.getElem?_toArray, List.getElem?_cons_zero, List.getElem?_cons_succ] at p0 p1 p2
  have q0 := cell_of_heap hu7 0; have q1 := cell_of_heap hu7 1; have q2 := cell_of_heap hu7 2; simp only [List.getElem?_toArray, List.getElem?_cons_zero, List.getElem?_cons_succ] at q0 q1 q2
  have hX7 := (hX6.out.alloc _).trans he7
  replace hX7 := Lib.hid hX7
  replace he7 := Lib.hid he7
  clear hv7 hu7
  go_wp2_with fail
  refine (like28_any _ _ _ _ _ _ _ _ _ _ tx tx _ _ _ (hs56.out.ext he7.out) (hs66.out.ext he7.out) htx htx).mono ?_
  rw [eqIno_self]
  rintro e w8 ⟨rfl, he8⟩
  have hX8 := hX7.out.trans he8
  have hE8 := he7.out.trans he8
  replace hX8 := Lib.hid hX8
  replace hE8 := Lib.hid hE8
  clear he8
  go_wp2_with fail
  refine (sameI_any _ _ _ _ _ _ tg tg _ _ _ (hp56.out.ext hE8.out) (hp66.out.ext hE8.out)).mono ?_
  rw [eqL_self]
  rintro e w9 ⟨rfl, hd9⟩
  replace hd9 := Lib.hid hd9
  go_wp2_with (go_at_call 34; refine (awake28_any _).mono ?_; rintro e w10 ⟨rfl, he10⟩)
  go_ret
  exact ⟨rfl, (hX8.out.trans hd9.out.ext).trans he10⟩
end Go.Proofs.Ytdocdppimpapiaa

namespace Go.Proofs.Ytdocdppimpapiaa
open Go.RowKit

theorem growI_err {x : Ino} {size : Int} {l : List Int} (h : (growI x size l).2 ≠ 0) : (growI x size l).1 = zeroI := by
  unfold growI at h ⊢
  split at h
  · rename_i hc
    rw [if_pos hc]
    split at h
    · rename_i hm
      rw [if_pos hm]
    · rename_i hm
      rw [if_neg hm]
      unfold ofI at h ⊢
      split at h
      · rename_i h1; rw [if_pos h1]
      · rename_i h1
        rw [if_neg h1]
        split at h
        · exact absurd rfl h
        · rename_i h2; rw [if_neg h2]
  · rename_i hc
    rw [if_neg hc]

def RetI (l : List Int) (w : World) (e : Ending) (w' : World) : Prop := ∃ A n c, e = .returned (.slice A n c) ∧ Sl (eI .i64) 1 (fun _ => True) w' A n c l ∧ Ext w w'
theorem sameI_self {A B : Option Addr} {n m c d : Nat} (a : List Int) {Q R : Nat → Prop} {w : World} (h : Sl (eI .i64) 1 Q w A n c a) (h' : Sl (eI .i64) 1 R w B m d a) :
    Calls Try.prog 40 #[.slice A n c, .slice B m d] w fun e w' => e = .returned (.bool true) ∧ Ext w w' := by
  have hh := sameI_any A B n m c d a a Q R w h h'
  rw [eqL_self] at hh
  exact hh.mono fun _ _ ⟨e, hd⟩ => ⟨e, hd.ext⟩

set_option maxRecDepth 100000 in
set_option maxHeartbeats 6400000 in
theorem inodeBack_any (m s : Int) (A : Option Addr) (n c : Nat) (xs : List Ex) (size : Int) (B : Option Addr) (k d : Nat) (l : List Int) (Q R : Nat → Prop) (w : World) (h : Sl eX 2 Q w A n c xs) (h' : Sl (eI .i64) 1 R w B k d l) :
    Calls Try.prog 8 #[.agg #[.int .i64 m, .int .i64 s, .slice A n c], .int .i64 size, .slice B k d] w fun e w' => e = .returned (.bool true) ∧ Ext w w' := by
  have HL := Lib.hid h.len
  have HL' := Lib.hid h'.len
  have H := Lib.hid h
  have H' := Lib.hid h'
  have hn63 := Nat.le_trans h.le h.mx
  have hk63 := Nat.le_trans h'.le h'.mx
  clear h h'
  by_cases h40 : 40 < k
  · go_enter Try.func8, Try.ntmps8
    go_wp2_with (go_at_call 34; refine (awake28_any _).mono ?_; rintro e w1 ⟨rfl, he1⟩)
    go_ret
    exact ⟨rfl, ((Ext.refl _).alloc _).trans he1⟩
  by_cases h41 : 40 < n
  · go_enter Try.func8, Try.ntmps8
    go_wp2_with (go_at_call 34; refine (awake28_any _).mono ?_; rintro e w1 ⟨rfl, he1⟩)
    go_ret
    exact ⟨rfl, ((Ext.refl _).alloc _).trans he1⟩
  have hl : l.length ≤ 40 := by rw [← HL'.out]; omega
  have hx : xs.length ≤ 40 := by rw [← HL.out]; omega
  have hl1 : l.length ≤ 100 := by omega
  have hx1 : xs.length ≤ 100 := by omega
  have hx2 : xs.length ≤ 1000 := by omega
  by_cases he : (growI (m, s, xs) size l).2 = 0
  · obtain ⟨b1, b2, b3, b4, _⟩ := back_law he
    have hlen1 := extB_len (blkB xs ++ l)
    have hlen2 := extB_len (blkB xs)
    have hblk := blkB_len xs
    rw [List.length_append] at hlen1
    obtain ⟨X1, hX1⟩ : ∃ X1, extB (blkB xs ++ l) = X1 := ⟨_, rfl⟩
    obtain ⟨X2, hX2⟩ : ∃ X2, extB (blkB xs) = X2 := ⟨_, rfl⟩
    obtain ⟨bx, hbx⟩ : ∃ bx, blkB xs = bx := ⟨_, rfl⟩
    rw [hX1] at b1 b2 b3 hlen1
    rw [hX2] at b3 b4 hlen2
    rw [hbx] at b2 b4 hblk hlen1 hlen2
    have hX1l : X1.length ≤ 1000 := by omega
    have hX1l' : X1.length ≤ 400 := by omega
    have hX2l : X2.length ≤ 1000 := by omega
    have hbl : bx.length ≤ 400 := by omega
    have K1 := Lib.hid b1
    have K2 := Lib.hid b2
    have K3 := Lib.hid b3
    have K4 := Lib.hid b4
    have HBX := Lib.hid hbx
    have hss := beq_int_self s
    clear he b1 b2 b3 b4 hX1 hX2 hbx hlen1 hlen2 hblk
    have hb0 := heap_alloc_new w (.cells #[.int .i64 m, .int .i64 s, .slice A n c] 65)
    replace hb0 := Lib.hid hb0
    go_enter Try.func8, Try.ntmps8
    go_wp2_with fail
    refine (ours28_any _ _ _ _ _ _ _ _ (H.out.ext ((Ext.refl _).alloc _)) hx2).mono ?_
    rintro e w1 ⟨A1, n1, c1, rfl, hs1, he1⟩
    have hX1 : Ext w w1 := ((Ext.refl _).alloc _).trans he1
    have hb1 := he1.heap hb0.out
    replace hs1 := Lib.hid hs1
    replace hX1 := Lib.hid hX1
    replace hb1 := Lib.hid hb1
    clear he1
    go_wp2_with fail
    refine (igrow_any _ _ _ _ _ _ _ _ _ _ _ _ _ _ hs1.out (H'.out.ext hX1.out) hx1 hl1).mono ?_
    rw [K1.out]
    rintro e w2 ⟨A2, n2, c2, rfl, hs2, he2⟩
    have hX2 := hX1.out.trans he2
    have hb2 := he2.heap hb1.out
    have a0 := cell_of_heap hb2 0; have a1 := cell_of_heap hb2 1; have a2 := cell_of_heap hb2 2; simp only [List.getElem?_toArray, List.getElem?_cons_zero, List.getElem?_cons_succ] at a0 a1 a2
    have a0a := fun o => ((Ext.refl w2).alloc o).at a0; have a1a := fun o => ((Ext.refl w2).alloc o).at a1; have a2a := fun o => ((Ext.refl w2).alloc o).at a2
    replace hs2 := Lib.hid hs2
    replace hX2 := Lib.hid hX2
    replace hb2 := Lib.hid hb2
    clear he2
    go_wp2_with fail
    refine (icut_any _ _ _ _ _ _ X1 _ _ (hs2.out.ext ((Ext.refl _).alloc _)) hX1l').mono ?_
    rw [K3.out]
    rintro e w3 ⟨A3, n3, c3, B3, k3, d3, rfl, hs3, hp3, he3⟩
    have hE23 := ((Ext.refl w2).alloc _).trans he3
    have hX3 := hX2.out.trans hE23
    have hb3 := hE23.heap hb2.out
    have hy3 := he3.heap (heap_alloc_new w2 _)
    have hs23 := hs2.out.ext hE23
    have hp3l := hp3.len
    replace hp3l := Lib.hid hp3l
    replace hs23 := Lib.hid hs23
    replace hs3 := Lib.hid hs3
    replace hp3 := Lib.hid hp3
    replace hX3 := Lib.hid hX3
    replace hb3 := Lib.hid hb3
    replace hy3 := Lib.hid hy3
    clear he3 hE23
    go_wp2_with fail
    refine (blocks_any _ _ _ _ _ X2 _ _ (hs3.out.ext ((Ext.refl _).alloc _)) hX2l).mono ?_
    rw [K4.out]
    rintro e w4 ⟨A4, n4, c4, rfl, hO4, he4⟩
    have hp34 := hp3.out.ext (((Ext.refl w3).alloc _).trans he4)
    have hz4 := he4.size
    replace hO4 := Lib.hid hO4
    replace he4 := Lib.hid he4
    replace hp34 := Lib.hid hp34
    go_wp2_with (at_builtin; refine wpList_app _ rfl _ _ 57 rfl info_int Try.underlying57 rfl (by decide) (eI_len _) (eI_one _) hO4.out rfl hp34.out rfl (by omega) (by omega) hz4 ?_; intro A5 n5 c5 w5 hO5 hg5 _ _)
    have hE35 : Ext (w3.alloc (.cells #[.int .i64 m, .int .i64 s, .slice A3 n3 c3] 60)) w5 := he4.out.grown hg5 (fun q hq => (hO4.out.lt q hq).1)
    have hE := ((Ext.refl w3).alloc _).trans hE35
    have hX5 := hX3.out.trans hE
    have hv5 := hE35.heap (heap_alloc_new w3 _)
    have hb5 := hE.heap hb3.out
    have hy5 := hE.heap hy3.out
    have b0 := cell_of_heap hb5 0; have b1 := cell_of_heap hb5 1; have b2 := cell_of_heap hb5 2; simp only [List.getElem?_toArray, List.getElem?_cons_zero, List.getElem?_cons_succ] at b0 b1 b2
    have y0 := cell_of_heap hy5 0; have y1 := cell_of_heap hy5 1; have y2 := cell_of_heap hy5 2; simp only [List.getElem?_toArray, List.getElem?_cons_zero, List.getElem?_cons_succ] at y0 y1 y2
    have v0 := cell_of_heap hv5 0; have v1 := cell_of_heap hv5 1; have v2 := cell_of_heap hv5 2; simp only [List.getElem?_toArray, List.getElem?_cons_zero, List.getElem?_cons_succ] at v0 v1 v2
    have hs35 := hs3.out.ext hE
    have hs25 := hs23.out.ext hE
    have hp35 := hp3.out.ext hE
    have hH5 := H.out.ext hX5
    have hH'5 := H'.out.ext hX5
    have hA5 := hO5.sl (eI_len _)
    replace hs35 := Lib.hid hs35
    replace hs25 := Lib.hid hs25
    replace hp35 := Lib.hid hp35
    replace hH5 := Lib.hid hH5
    replace hH'5 := Lib.hid hH'5
    replace hA5 := Lib.hid hA5
    replace hX5 := Lib.hid hX5
    have CBc := Lib.hid (fun (W : World) (hW : Ext w5 W) => show Calls Try.prog 41 #[.agg #[.int .i64 m, .int .i64 s, .slice A3 n3 c3]] W (RetI bx W) from by
      have hh := blocks_any m s A3 n3 c3 X2 _ W (hs35.out.ext hW) hX2l
      rw [K4.out] at hh
      exact hh.mono fun _ _ ⟨A', n', c', e, ho, he⟩ => ⟨A', n', c', e, (ho.sl (eI_len _)).mono fun _ _ => trivial, he⟩)
    have CBa := Lib.hid (fun (W : World) (hW : Ext w5 W) => show Calls Try.prog 41 #[.agg #[.int .i64 m, .int .i64 size, .slice A2 n2 c2]] W (RetI (bx ++ l) W) from by
      have hh := blocks_any m size A2 n2 c2 X1 _ W (hs25.out.ext hW) hX1l
      rw [K2.out] at hh
      exact hh.mono fun _ _ ⟨A', n', c', e, ho, he⟩ => ⟨A', n', c', e, (ho.sl (eI_len _)).mono fun _ _ => trivial, he⟩)
    have CRx := Lib.hid (fun (W : World) (hW : Ext w5 W) => show Calls Try.prog 47 #[.agg #[.int .i64 m, .int .i64 s, .slice A n c]] W (RetI bx W) from by
      have hh := rblocks_any m s A n c xs _ W (hH5.out.ext hW) hx2
      rw [HBX.out] at hh
      exact hh.mono fun _ _ ⟨A', n', c', e, ho, he⟩ => ⟨A', n', c', e, (ho.sl (eI_len _)).mono fun _ _ => trivial, he⟩)
    clear hE35 hE hv5 hb5 hy5 hO5 hg5 hz4
    go_wp2
    have tok1 : True := trivial
    have tok2 : True := trivial
    have tok3 : True := trivial
    go_region_held3 (fun W => W.cell? ⟨w.heap.size, 0, none⟩ = some (.int .i64 m) ∧ W.cell? ⟨w.heap.size, 1, none⟩ = some (.int .i64 s) ∧ W.cell? ⟨w.heap.size, 2, none⟩ = some (.slice A n c) ∧ W.cell? ⟨w2.heap.size, 0, none⟩ = some (.int .i64 m) ∧ W.cell? ⟨w2.heap.size, 1, none⟩ = some (.int .i64 size) ∧ W.cell? ⟨w2.heap.size, 2, none⟩ = some (.slice A2 n2 c2) ∧ W.cell? ⟨w3.heap.size, 0, none⟩ = some (.int .i64 m) ∧ W.cell? ⟨w3.heap.size, 1, none⟩ = some (.int .i64 s) ∧ W.cell? ⟨w3.heap.size, 2, none⟩ = some (.slice A3 n3 c3) ∧ Ext w5 W)
      (first
        | exact ⟨b0, b1, b2, y0, y1, y2, v0, v1, v2, (Ext.refl w5).drew⟩
        | (go_split_ands; refine ⟨he20.at (by assumption), he20.at (by assumption), he20.at (by assumption), he20.at (by assumption), he20.at (by assumption), he20.at (by assumption), he20.at (by assumption), he20.at (by assumption), he20.at (by assumption), Ext.trans (by assumption) he20⟩)
        | go_keep)
      (first
        | (go_at_call 41; have _t := tok1; refine Calls.mono (CBc.out _ (by (repeat (first | exact Ext.refl _ | assumption | refine Ext.alloc ?_ _ | refine Ext.drew ?_ | refine Ext.drewN ?_ _ | refine Ext.setCell ?_ (by simp) _ | (refine Ext.trans ?_ (by assumption)))))) ?_; clear tok1; rintro e w20 ⟨A20, n20, c20, rfl, hOc, he20⟩; replace hOc := Lib.hid hOc)
        | (go_at_call 41; refine Calls.mono (CBa.out _ (by (repeat (first | exact Ext.refl _ | assumption | refine Ext.alloc ?_ _ | refine Ext.drew ?_ | refine Ext.drewN ?_ _ | refine Ext.setCell ?_ (by simp) _ | (refine Ext.trans ?_ (by assumption)))))) ?_; rintro e w20 ⟨A21, n21, c21, rfl, hOa, he20⟩; replace hOa := Lib.hid hOa)
        | (go_at_call 47; refine Calls.mono (CRx.out _ (by (repeat (first | exact Ext.refl _ | assumption | refine Ext.alloc ?_ _ | refine Ext.drew ?_ | refine Ext.drewN ?_ _ | refine Ext.setCell ?_ (by simp) _ | (refine Ext.trans ?_ (by assumption)))))) ?_; rintro e w20 ⟨A22, n22, c22, rfl, hOr, he20⟩; replace hOr := Lib.hid hOr)
        | (go_at_call 40; have _t := tok2; refine Calls.mono (sameI_self bx (hOc.out.ext (by (repeat (first | exact Ext.refl _ | assumption | refine Ext.alloc ?_ _ | refine Ext.drew ?_ | refine Ext.drewN ?_ _ | refine Ext.setCell ?_ (by simp) _ | (refine Ext.trans ?_ (by assumption)))))) (hOr.out.ext (by (repeat (first | exact Ext.refl _ | assumption | refine Ext.alloc ?_ _ | refine Ext.drew ?_ | refine Ext.drewN ?_ _ | refine Ext.setCell ?_ (by simp) _ | (refine Ext.trans ?_ (by assumption))))))) ?_; clear tok2; rintro e w20 ⟨rfl, he20⟩)
        | (go_at_call 40; have _t := tok3; refine Calls.mono (sameI_self l (hp35.out.ext (by (repeat (first | exact Ext.refl _ | assumption | refine Ext.alloc ?_ _ | refine Ext.drew ?_ | refine Ext.drewN ?_ _ | refine Ext.setCell ?_ (by simp) _ | (refine Ext.trans ?_ (by assumption)))))) (hH'5.out.ext (by (repeat (first | exact Ext.refl _ | assumption | refine Ext.alloc ?_ _ | refine Ext.drew ?_ | refine Ext.drewN ?_ _ | refine Ext.setCell ?_ (by simp) _ | (refine Ext.trans ?_ (by assumption))))))) ?_; clear tok3; rintro e w20 ⟨rfl, he20⟩)
        | (go_at_call 40; refine Calls.mono (sameI_self (bx ++ l) (hA5.out.ext (by (repeat (first | exact Ext.refl _ | assumption | refine Ext.alloc ?_ _ | refine Ext.drew ?_ | refine Ext.drewN ?_ _ | refine Ext.setCell ?_ (by simp) _ | (refine Ext.trans ?_ (by assumption)))))) (hOa.out.ext (by (repeat (first | exact Ext.refl _ | assumption | refine Ext.alloc ?_ _ | refine Ext.drew ?_ | refine Ext.drewN ?_ _ | refine Ext.setCell ?_ (by simp) _ | (refine Ext.trans ?_ (by assumption))))))) ?_; rintro e w20 ⟨rfl, he20⟩)
        | (go_at_call 34; refine (awake28_any _).mono ?_; rintro e w20 ⟨rfl, he20⟩))
    all_goals (rename_i hS; obtain ⟨-, -, -, -, -, -, -, -, -, hZ⟩ := hS; go_wp2; go_ret; exact ⟨rfl, hX5.out.trans hZ⟩)
  · have hz := growI_err he
    obtain ⟨er, her⟩ : ∃ er, (growI (m, s, xs) size l).2 = er := ⟨_, rfl⟩
    rw [her] at he
    have hr : growI (m, s, xs) size l = (zeroI, er) := Prod.ext hz her
    have HR := Lib.hid hr
    have e0 : (er != 0) = true := by simpa using he
    clear he hz her hr
    have hb0 := heap_alloc_new w (.cells #[.int .i64 m, .int .i64 s, .slice A n c] 65)
    replace hb0 := Lib.hid hb0
    go_enter Try.func8, Try.ntmps8
    go_wp2_with fail
    refine (ours28_any _ _ _ _ _ _ _ _ (H.out.ext ((Ext.refl _).alloc _)) hx2).mono ?_
    rintro e w1 ⟨A1, n1, c1, rfl, hs1, he1⟩
    have hX1 : Ext w w1 := ((Ext.refl _).alloc _).trans he1
    replace hs1 := Lib.hid hs1
    replace hX1 := Lib.hid hX1
    clear he1
    go_wp2_with fail
    refine (igrow_any _ _ _ _ _ _ _ _ _ _ _ _ _ _ hs1.out (H'.out.ext hX1.out) hx1 hl1).mono ?_
    rw [HR.out]
    rintro e w2 ⟨A2, n2, c2, rfl, hs2, he2⟩
    have hX2 := hX1.out.trans he2
    replace hs2 := Lib.hid hs2
    replace hX2 := Lib.hid hX2
    clear he2
    go_wp2_with (first
      | (go_at_call 37; go_must (refine (like28_any 0 0 0 0 _ _ _ _ _ _ [] [] _ (fun _ => True) _ (hs2.out.ext ((Ext.refl _).alloc _)) (Sl.nil _ _ _ _ (Nat.zero_le _)) (Nat.zero_le _) (Nat.zero_le _)).mono ?_); rw [eqIno_self]; rintro e w3 ⟨rfl, he3⟩; replace he3 := Lib.hid he3)
      | (go_at_call 34; refine (awake28_any _).mono ?_; rintro e w4 ⟨rfl, he4⟩))
    go_ret
    exact ⟨rfl, ((hX2.out.alloc _).trans he3.out).trans he4⟩
end Go.Proofs.Ytdocdppimpapiaa

namespace Go.Proofs.Ytdocdppimpapiaa
open Go.ChangeShapes Go.WideShapes Go.ChangeAt Go.RowKit Go.Joins

theorem ints_sl {P : Program} {H : Type} {enc : TypeId × Value → H} {w : World} {base : Nat} {spare : Nat → Bool} {hb : Bool} {t e : TypeId} {k : IntKind} {A : Option Addr} {n c : Nat} {x : DataW H × List MemPlace}
    (ht : P.underlying t = some (.slice e)) (he : P.underlying e = some (.int k)) (hc : P.cellsOf e = 1)
    (h : ∃ fuel, DataW.trod enc P w base spare hb fuel t (Value.cells (.slice A n c)).toList = some x) :
    ∃ l, Sl (eI k) 1 (fun j => j < w.heap.size) w A n c l ∧ ∀ y ∈ l, (Lit.int k y).wf = true := by
  obtain ⟨fuel, hf⟩ := h
  rcases open_ints ht he hc hf with ⟨hcs, _⟩ | ⟨a, n', c', zs, hcs, _, hl, hm, hz, _, hcell, hwz⟩
  · simp [Value.cells] at hcs
    obtain ⟨rfl, rfl, rfl⟩ := hcs
    exact ⟨[], Sl.nil _ _ _ _ (Nat.zero_le _), fun y hy => by cases hy⟩
  · simp [Value.cells] at hcs
    obtain ⟨rfl, rfl, rfl⟩ := hcs
    have hzl : n ≤ zs.length := by rw [hz]; split <;> omega
    refine ⟨zs.take n, ⟨by rw [List.length_take]; omega, hl, Nat.le_trans hm (by decide), fun i y hy => ?_⟩, fun y hy => hwz y (List.mem_of_mem_take hy)⟩
    rw [List.getElem?_take] at hy
    split at hy
    · rename_i hi
      have h1 := hcell i (by omega)
      obtain ⟨b, off, spot⟩ := a
      have hs : spot = none := by simpa [Addr.add] using World.cell?_spot (hcell 0 (by omega))
      subst hs
      have h2 : w.cell? ⟨b, off + i, none⟩ = some (.int k y) := by
        have := h1
        rw [List.getD_eq_getElem?_getD, hy] at this
        by_cases h0 : i = 0
        · subst h0; simpa [Addr.add] using this
        · simpa [Addr.add, h0] using this
      refine ⟨b, off, rfl, World.block_lt_of_cell? w _ h2, fun j u hu => ?_⟩
      cases j with
      | zero =>
        simp only [eI, List.getElem?_cons_zero, Option.some.injEq] at hu
        subst hu
        simpa using h2
      | succ j => simp [eI] at hu
    · cases hy
theorem bt_wf {l : List Int} (h : ∀ y ∈ l, (Lit.int .u8 y).wf = true) : Bt l := fun y hy => by
  have := h y hy
  simp [Lit.wf, IntKind.min, IntKind.max, IntKind.signed, IntKind.bits] at this
  omega
end Go.Proofs.Ytdocdppimpapiaa

namespace Go.Proofs.Ytdocdppimpapiaa
open Go.ChangeShapes Go.WideShapes Go.ChangeAt Go.RowKit Go.Joins Go.Deep

theorem und_rex : ∃ f0 f1 : Field, Try.prog.underlying 85 = some (.struct #[f0, f1]) ∧ f0.type = 3 ∧ f1.type = 3 ∧ f0.offset = 0 ∧ f1.offset = 1 := ⟨_, _, Try.underlying85, rfl, rfl, rfl, rfl⟩
theorem cells_rex : Try.prog.cellsOf 85 = 2 := by kernel_rfl
theorem cells_int : Try.prog.cellsOf 3 = 1 := by kernel_rfl
theorem int_bd {x : Int} (h : (Lit.int .i64 x).wf = true) : -9223372036854775808 ≤ x ∧ x ≤ 9223372036854775807 := by
  simp [Lit.wf, IntKind.min, IntKind.max, IntKind.signed, IntKind.bits] at h; omega

set_option maxRecDepth 100000 in
theorem ex_open {H : Type} {enc : TypeId × Value → H} {w : World} {base fuel : Nat} {spare : Nat → Bool} {hb : Bool} {cs : List Value} {x : DataW H × List MemPlace}
    (h : DataW.trod enc Try.prog w base spare hb fuel 85 cs = some x) : ∃ e : Ex, cs = eX e ∧ (Lit.int .i64 e.1).wf = true ∧ (Lit.int .i64 e.2).wf = true := by
  obtain ⟨f0, f1, hu, t0, t1, o0, o1⟩ := und_rex
  obtain ⟨y0, y1, n, _, hl, h0, h1⟩ := trod_struct2 hu h
  rw [cells_rex] at hl
  match cs, hl with
  | [u, v], _ =>
    rw [t0, o0, cells_int] at h0
    rw [t1, o1, cells_int] at h1
    simp only [List.drop_zero, List.take_succ_cons, List.take_zero, List.drop_succ_cons] at h0 h1
    obtain ⟨a, e0, rfl, wa⟩ := DataW.trod_int Try.underlying3 h0
    obtain ⟨b, e1, rfl, wb⟩ := DataW.trod_int Try.underlying3 h1
    simp only [List.cons.injEq, and_true] at e0 e1
    subst e0 e1
    exact ⟨(a, b), rfl, wa, wb⟩

set_option maxRecDepth 100000 in
theorem exts_sl {H : Type} {enc : TypeId × Value → H} {w : World} {base fuel : Nat} {spare : Nat → Bool} {hb : Bool} {v : Value} {x : DataW H × List MemPlace}
    (h : DataW.trod enc Try.prog w base spare hb fuel 63 [v] = some x) :
    ∃ A n c l, v = .slice A n c ∧ Sl eX 2 (fun j => j < w.heap.size) w A n c l := by
  rcases open_slice Try.underlying63 h with ⟨hcs, _⟩ | ⟨a, len, cap, m, n, D, Pl, hcs, _, hl, hm, hmm, _, hcell⟩
  · simp only [List.cons.injEq, and_true] at hcs
    exact ⟨none, 0, 0, [], hcs, Sl.nil _ _ _ _ (Nat.zero_le _)⟩
  · simp only [List.cons.injEq, and_true] at hcs
    have hlm : len ≤ m := by rw [hmm]; split <;> omega
    have hm63 : cap ≤ 9223372036854775807 := Nat.le_trans hm (by decide)
    obtain ⟨V, hV⟩ := choose_lt (α := Ex) (n := len) (p := fun i e => ∀ j u, (eX e)[j]? = some u → w.cell? (a.add (i * 2 + j)) = some u) (fun i hi => by
      obtain ⟨cs', h1, h2⟩ := hcell i (by omega)
      obtain ⟨e, rfl, _, _⟩ := ex_open h2
      obtain ⟨_, hlen, hc⟩ := World.cells?_some h1
      rw [cells_rex] at hlen hc
      refine ⟨e, fun j u hu => ?_⟩
      have hj : j < 2 := by
        rcases Nat.lt_or_ge j (eX e).length with h3 | h3
        · exact h3
        · rw [List.getElem?_eq_none h3] at hu; cases hu
      have := hc j hj
      rw [Addr.add_add, hu] at this
      exact this)
    refine ⟨some a, len, cap, (List.range len).map V, hcs, ⟨by simp, hl, hm63, fun i x hx => ?_⟩⟩
    have hi : i < len := by
      rcases Nat.lt_or_ge i len with h3 | h3
      · exact h3
      · rw [List.getElem?_eq_none (by simpa using h3)] at hx; cases hx
    have hx' : x = V i := by simpa [List.getElem?_map, List.getElem?_range, hi] using hx.symm
    subst hx'
    obtain ⟨b, off, spot⟩ := a
    have hsp : spot = none := by
      have := World.cell?_spot (hV 0 (by omega) 0 _ rfl)
      simpa [Addr.add] using this
    subst hsp
    have hh : ∀ j u, (eX (V i))[j]? = some u → w.cell? ⟨b, off + i * 2 + j, none⟩ = some u := fun j u hu => by
      have := hV i hi j u hu
      rw [Addr.add_lit, ← Nat.add_assoc] at this
      exact this
    exact ⟨b, off, rfl, World.block_lt_of_cell? w _ (hh 0 _ rfl), hh⟩
theorem cells_rino : Try.prog.cellsOf 65 = 3 := by kernel_rfl
set_option maxRecDepth 100000 in
theorem ino_open {H : Type} {enc : TypeId × Value → H} {w : World} {base b0 : Nat} {spare : Nat → Bool} {hb : Bool} {r : Reach} {v : Value} {d : DataW H} {p : List MemPlace}
    (hv : Value.okWide Try.prog w r b0 65 v) (h : DataW.Trod enc Try.prog w base spare hb 65 v d p) :
    ∃ m s A n c l, v = .agg #[.int .i64 m, .int .i64 s, .slice A n c] ∧ Sl eX 2 (fun j => j < w.heap.size) w A n c l ∧ (-9223372036854775808 ≤ m ∧ m ≤ 9223372036854775807) ∧ (-9223372036854775808 ≤ s ∧ s ≤ 9223372036854775807) := by
  obtain ⟨c0, c1, c2, y0, y1, y2, m, rfl, _, _, hy0, hy1, hy2⟩ := open_agg3 Try.underlying65 (by kernel_rfl) cells_rino hv h
  obtain ⟨a, e0, rfl, wa⟩ := DataW.trod_int Try.underlying3 hy0
  obtain ⟨b, e1, rfl, wb⟩ := DataW.trod_int Try.underlying3 hy1
  simp only [List.cons.injEq, and_true] at e0 e1
  subst e0 e1
  obtain ⟨A, n, c, l, rfl, hS⟩ := exts_sl hy2
  exact ⟨a, b, A, n, c, l, rfl, hS, int_bd wa, int_bd wb⟩
end Go.Proofs.Ytdocdppimpapiaa
