/-
  The reference's Get: the intent of bytes.
-/
import Derived.Test.YtdocdppimpapiaaVolGet
namespace Go.Proofs.Ytdocdppimpapiaa
open Go.RowKit

/-- Where the reference's reading of patches stands. -/
structure RSt (base g : Nat) (W0 wr : World) (A : Option Addr) (n cap : Nat) (r : List Pa × List Int × Int) : Prop where
  ex : ∃ hs, Ow eP 3 114 base wr A n cap hs ∧ Each (PaR (fun q => q < W0.heap.size) wr) hs r.1
  inat : ∃ B m c, wr.heap[g]? = some (.cells #[.slice B m c, .int .i64 r.2.2] 108 (0, 0)) ∧ Sl (eI .u8) 1 (fun q => q < W0.heap.size) wr B m c r.2.1
  ext : Ext W0 wr
  base_le : base ≤ wr.heap.size
  g_lt : g < base
  W0_le : W0.heap.size ≤ g

theorem RSt.step {base g : Nat} {W0 wr w6 w7 : World} {A A7 B B' : Option Addr} {n cap n7 cap7 m c m' c' : Nat} {r : List Pa × List Int × Int} {hs : List PaH} {key ver : Int} {d l' : List Int} {er' : Int} {o : Obj}
    (h : RSt base g W0 wr A n cap r) (hO0 : Ow eP 3 114 base wr A n cap hs) (hE : Each (PaR (fun q => q < W0.heap.size) wr) hs r.1)
    (hm : Mut g wr w6) (hx : Ext W0 w6) (hgc : w6.heap[g]? = some (.cells #[.slice B' m' c', .int .i64 er'] 108 (0, 0))) (hin : Sl (eI .u8) 1 (fun q => q < W0.heap.size) w6 B' m' c' l')
    (hd : Sl (eI .u8) 1 (fun q => q < W0.heap.size) w6 B m c d)
    (hO : Ow eP 3 114 base w7 A7 n7 cap7 (hs ++ [(key, ver, B, m, c)])) (hg : (w6.alloc o).grownBy w7 (Value.slice A n cap).ownBlock) :
    RSt base g W0 w7 A7 n7 cap7 (r.1 ++ [(key, ver, d)], l', er') := by
  have rows : ∀ q, (Value.slice A n cap).ownBlock = some q → base ≤ q ∧ q < wr.heap.size := hO0.lt
  have hbw := h.base_le
  have hgb := h.g_lt
  have s6 := hm.size
  have s7 := hg.size
  have s67 : w6.heap.size < (w6.alloc o).heap.size := by simp
  have hx7 : Ext W0 w7 := (hx.alloc o).grown hg fun q hq => by have := (rows q hq).1; have := h.W0_le; omega
  refine ⟨⟨_, hO, ?_⟩, ⟨B', m', c', ?_, hin.old hx hx7⟩, hx7, by omega, hgb, h.W0_le⟩
  · refine ⟨by rw [List.length_append, List.length_append, hE.length]; rfl, fun i x y hx' hy => ?_⟩
    rw [List.getElem?_append] at hx' hy
    split at hx'
    · rename_i hi'
      rw [if_pos (by rw [← hE.length]; exact hi')] at hy
      have pr := hE.all i x y hx' hy
      exact ⟨pr.key, pr.ver, pr.dat.old h.ext hx7⟩
    · rename_i hi'
      rw [if_neg (by rw [← hE.length]; exact hi')] at hy
      have hil : i - hs.length = 0 := by
        rcases Nat.eq_zero_or_pos (i - hs.length) with h1 | h1
        · exact h1
        · rw [List.getElem?_eq_none (by simp; omega)] at hx'; cases hx'
      rw [hil] at hx'
      rw [← hE.length, hil] at hy
      simp only [List.getElem?_cons_zero, Option.some.injEq] at hx' hy
      subst hx' hy
      exact ⟨rfl, rfl, hd.old hx hx7⟩
  · have hne : (Value.slice A n cap).ownBlock ≠ some g := fun e => by have := (rows g e).1; omega
    exact heap_grown ((((Ext.refl w6).alloc o).heap hgc)) hg hne

set_option maxHeartbeats 3200000 in
theorem rget_any (n b : Int) (A : Option Addr) (m c : Nat) (bs : List Int) (Q : Nat → Prop) (w : World) (h : Sl (eI .u8) 1 Q w A m c bs) (hb : Bt bs) :
    Calls Try.prog 23 #[.agg #[.int .i64 n, .int .i64 b], .slice A m c] w (RetPE (getP n b bs) w) := by
  have HL := Lib.hid h.len
  have H := Lib.hid (h.in'.mono (Q' := fun q => q < w.heap.size) fun _ hk => hk.2)
  have HB := Lib.hid hb
  clear h hb
  by_cases h0 : bs = []
  · subst h0
    obtain rfl : m = 0 := HL.out
    rw [getP_nil]
    go_enter Try.func23, Try.ntmps23
    go_wp2
    go_ret2
    exact ⟨none, 0, 0, rfl, Pats.nil _ _ _, by (repeat (first | exact Ext.refl _ | assumption | refine Ext.alloc ?_ _ | refine Ext.drew ?_ | refine Ext.drewN ?_ _ | refine Ext.setCell ?_ (by simp) _ | (refine Ext.trans ?_ (by assumption))))⟩
  have hm0 : ((m : Int) == 0) = false := by
    have : m ≠ 0 := fun e => h0 (List.eq_nil_of_length_eq_zero (by rw [← HL.out]; exact e))
    simp; omega
  by_cases hr : rightB n b = true
  · obtain ⟨u, hu⟩ : ∃ u, uptoI bs 0 1 20 = u := ⟨_, rfl⟩
    have hub := uptoI_bd HB.out 0 1 (m := 20) (by decide)
    have hubt := uptoI_bt HB.out 0 1 20
    rw [hu] at hub hubt
    obtain ⟨k, hk⟩ : ∃ k : Nat, u.1 = (k : Int) := ⟨u.1.toNat, by omega⟩
    have hk20 : k ≤ 20 := by omega
    have HU := Lib.hid hu
    have HK := Lib.hid hk
    have HUB := Lib.hid hubt
    have H0 := Lib.hid h0
    clear hub hubt hu hk h0
    go_enter Try.func23, Try.ntmps23
    go_wp2_with (first
      | (go_at_call 15; refine (rright_any _ _ _).mono ?_; rintro e w1 ⟨rfl, he1⟩)
      | (go_at_call 65; refine (upto01_any _ _ _ _ _ 1 _ _ _ (H.out.ext (((Ext.refl _).alloc _).trans he1)) HB.out (by decide) (by decide)).mono ?_; rintro e w3 ⟨B3, m3, c3, rfl, hs3, he3⟩; rw [HU.out] at hs3 ⊢; rw [HK.out]))
    have hst : RSt (w3.heap.size + 1) w3.heap.size w (w3.alloc (.cells #[.slice B3 m3 c3, .int .i64 u.2.2] 108)) none 0 0 (readK u.2.1 u.2.2 0) :=
      ⟨⟨[], Ow.nil _, Each.nil _⟩, ⟨B3, m3, c3, heap_alloc_new w3 _, hs3.ext ((Ext.refl _).alloc _)⟩, by (repeat (first | exact Ext.refl _ | assumption | refine Ext.alloc ?_ _ | refine Ext.drew ?_ | refine Ext.drewN ?_ _ | refine Ext.setCell ?_ (by simp) _ | (refine Ext.trans ?_ (by assumption)))), by simp, by simp, Nat.le_trans (((Ext.refl w).alloc _).trans he1).size he3.size⟩
    have hbx : Ext (w.alloc (.cells #[.int .i64 n, .int .i64 b] 23)) (w3.alloc (.cells #[.slice B3 m3 c3, .int .i64 u.2.2] 108)) := by (repeat (first | exact Ext.refl _ | assumption | refine Ext.alloc ?_ _ | refine Ext.drew ?_ | refine Ext.drewN ?_ _ | refine Ext.setCell ?_ (by simp) _ | (refine Ext.trans ?_ (by assumption))))
    have hsz : (w.alloc (.cells #[.int .i64 n, .int .i64 b] 23)).heap.size ≤ w3.heap.size := (he1.trans he3).size
    have HST := Lib.hid hst
    have HBX := Lib.hid hbx
    have HSZ := Lib.hid hsz
    clear hst he1 he3 hbx hsz hs3
    go_loopw [8, 9] (fun v i wr => ∃ (j n' cap' : Nat) (A' : Option Addr), j ≤ k ∧ i = .int .u64 j ∧ v = .slice A' n' cap' ∧ RSt (w3.heap.size + 1) w3.heap.size w wr A' n' cap' (readK u.2.1 u.2.2 j) ∧ Ext (w.alloc (.cells #[.int .i64 n, .int .i64 b] 23)) wr) (fun _ i _ => k - (intOf i).toNat)
    case atStart => exact ⟨0, 0, 0, none, Nat.zero_le _, rfl, rfl, HST.out, HBX.out⟩
    case round =>
      clear HST HBX
      obtain ⟨j, n', cap', A', hj, rfl, rfl, hst, hbx⟩ := hrel
      obtain ⟨hrok, hrbt, hrlen⟩ := readK_ok HUB.out u.2.2 j
      have HST := Lib.hid hst
      have HBX := Lib.hid hbx
      have HRB := Lib.hid hrbt
      obtain ⟨B, m', c', hg, hin⟩ := hst.inat
      have HIN := Lib.hid hin
      have HG := Lib.hid hg
      clear hst hrok hrbt hbx hin
      by_cases hlt : j < k
      · obtain ⟨hs, hO, hE⟩ := HST.out.ex
        have hlen : hs.length = j := by rw [hE.length]; exact hrlen
        have HO := Lib.hid hO
        have HE := Lib.hid hE
        have HLN := Lib.hid hlen
        obtain ⟨r, hr2⟩ : ∃ r, readK u.2.1 u.2.2 j = r := ⟨_, rfl⟩
        have hstep : readK u.2.1 u.2.2 (j + 1) = stepP r := by rw [← hr2]; rfl
        have HSP := Lib.hid hstep
        have HR2 := Lib.hid hr2
        have g1 := getI_bt HRB.out (readK u.2.1 u.2.2 j).2.2 4
        have b1 := getI_bd HRB.out (readK u.2.1 u.2.2 j).2.2 4
        have gb := HRB.out
        rw [hr2] at g1 b1 gb
        have g2 := getI_bt g1 (getI r.2.1 r.2.2 4).2.2 8
        have G0 := Lib.hid gb
        have G1 := Lib.hid g1
        have G2 := Lib.hid g2
        have hin := HIN.out
        have hg := HG.out
        rw [hr2] at hin hg
        have HIN2 := Lib.hid hin
        have q0 := cell_of_heap hg 0
        have q1 := cell_of_heap hg 1
        simp only [List.getElem?_toArray, List.getElem?_cons_zero, List.getElem?_cons_succ] at q0 q1
        have HG2 := Lib.hid hg
        obtain ⟨b1l, b1h⟩ := b1
        have b1h := lt4 b1h
        clear hO hE hlen hrlen hstep hr2 g1 g2 gb hin hg
        go_wp2_with fail
        refine (get01_any _ _ _ _ _ 4 _ _ HIN2.out G0.out (by decide) (by decide)).mono ?_
        rintro e w4 ⟨B4, m4, c4, rfl, hs4, he4⟩
        have HS4 := Lib.hid hs4
        have HE4 := Lib.hid he4
        clear hs4 he4
        go_wp2_with fail
        refine (get01_any _ _ _ _ _ 8 _ _ (HS4.out.ext ((Ext.refl _).alloc _)) G1.out (by decide) (by decide)).mono ?_
        rintro e w5 ⟨B5, m5, c5, rfl, hs5, he5⟩
        have hb5 := he5.heap (heap_alloc_new w4 _)
        have p0 := cell_of_heap hb5 0
        have p1 := cell_of_heap hb5 1
        have f0 := free_of_heap hb5 0
        have f1 := free_of_heap hb5 1
        simp only [List.getElem?_toArray, List.getElem?_cons_zero, List.getElem?_cons_succ] at p0 p1
        have HS5 := Lib.hid hs5
        have HE5 := Lib.hid he5
        have HB5 := Lib.hid hb5
        clear hs5 he5 hb5
        have X4 : Ext w w4 := HST.out.ext.trans HE4.out
        have X5 : Ext w w5 := (X4.alloc _).trans HE5.out
        have Z4 := X4.size
        go_wp2_with fail
        have X5' : Ext w ((w5.setCell ⟨w4.heap.size, 0, none⟩ (.slice B5 m5 c5)).setCell ⟨w4.heap.size, 1, none⟩ (.int .i64 (getI (getI r.2.1 r.2.2 4).2.1 (getI r.2.1 r.2.2 4).2.2 8).2.2)) := (X5.setCell Z4 _).setCell Z4 _
        refine (read01_any _ _ _ _ _ 64 _ _ (HS5.out.old X5 X5') G2.out).mono ?_
        rintro e w6 ⟨B6, m6, c6, B7, m7, c7, rfl, hs6, hd6, he6⟩
        have hb6 := he6.heap (heap_set _ _ _ _ _ _ _ (heap_set _ _ _ _ _ _ _ HB5.out))
        have p2 := cell_of_heap hb6 0
        have p3 := cell_of_heap hb6 1
        have f2 := free_of_heap hb6 0
        have f3 := free_of_heap hb6 1
        simp only [List.getElem?_toArray, List.getElem?_cons_zero, List.getElem?_cons_succ, List.setIfInBounds_toArray, List.set_cons_zero, List.set_cons_succ] at p2 p3
        have X6 : Ext w w6 := X5'.trans he6
        have HS6 := Lib.hid hs6
        have HD6 := Lib.hid hd6
        have hgo : wr.heap.size ≤ w4.heap.size := HE4.out.size
        have gl := lt_of_heap HG2.out
        have hg6 : w6.heap[w3.heap.size]? = some (.cells #[.slice B m' c', .int .i64 r.2.2] 108 (0, 0)) := by
          have h5 : w5.heap[w3.heap.size]? = _ := ((HE4.out.alloc _).trans HE5.out).heap HG2.out
          refine he6.heap ?_
          rw [Below.heap_setCell _ _ _ _ (by show w3.heap.size ≠ w4.heap.size; omega), Below.heap_setCell _ _ _ _ (by show w3.heap.size ≠ w4.heap.size; omega)]
          exact h5
        have p4 := cell_of_heap hg6 0
        have p5 := cell_of_heap hg6 1
        have f4 := free_of_heap hg6 0
        have f5 := free_of_heap hg6 1
        simp only [List.getElem?_toArray, List.getElem?_cons_zero, List.getElem?_cons_succ] at p4 p5
        have HG6 := Lib.hid hg6
        have HX6 := Lib.hid X6
        have hne46 : w3.heap.size ≠ w4.heap.size := by omega
        clear hs6 hd6 hg6 hb6 X5 X5' X6
        have HM0 := Lib.hid ((((HE4.out.alloc (.cells #[.slice B4 m4 c4, .int .i64 (getI r.2.1 r.2.2 4).2.2] 108)).trans HE5.out).mut w3.heap.size).setNew (p := ⟨w4.heap.size, 0, none⟩) hgo (.slice B5 m5 c5))
        have HE6 := Lib.hid he6
        clear he6
        have hgl := HST.out.g_lt
        have hbl := HST.out.base_le
        have hm6 : Mut w3.heap.size wr w6 := (HM0.out.setNew (p := ⟨w4.heap.size, 1, none⟩) hgo _).trans (HE6.out.mut _)
        obtain ⟨tx, htx⟩ : ∃ tx, textI (getI (getI r.2.1 r.2.2 4).2.1 (getI r.2.1 r.2.2 4).2.2 8).2.1 (getI (getI r.2.1 r.2.2 4).2.1 (getI r.2.1 r.2.2 4).2.2 8).2.2 64 = tx := ⟨_, rfl⟩
        obtain ⟨W8, hW8⟩ : ∃ W8, (((w6.setCell ⟨w4.heap.size, 0, none⟩ (.slice B6 m6 c6)).setCell ⟨w4.heap.size, 1, none⟩ (.int .i64 (textI (getI (getI r.2.1 r.2.2 4).2.1 (getI r.2.1 r.2.2 4).2.2 8).2.1 (getI (getI r.2.1 r.2.2 4).2.1 (getI r.2.1 r.2.2 4).2.2 8).2.2 64).2.2)).setCell ⟨w3.heap.size, 0, none⟩ (.slice B6 m6 c6)).setCell ⟨w3.heap.size, 1, none⟩ (.int .i64 (textI (getI (getI r.2.1 r.2.2 4).2.1 (getI r.2.1 r.2.2 4).2.2 8).2.1 (getI (getI r.2.1 r.2.2 4).2.1 (getI r.2.1 r.2.2 4).2.2 8).2.2 64).2.2) = W8 := ⟨_, rfl⟩
        have hm8 : Mut w3.heap.size wr W8 := by rw [← hW8]; exact ((((hm6.setNew (p := ⟨w4.heap.size, 0, none⟩) hgo _).setNew (p := ⟨w4.heap.size, 1, none⟩) hgo _).setCell 0 _).setCell 1 _)
        have hx8 : Ext w W8 := Mut.ext HST.out.ext hm8 HST.out.W0_le
        have hg8 : W8.heap[w3.heap.size]? = some (.cells #[.slice B6 m6 c6, .int .i64 tx.2.2] 108 (0, 0)) := by
          have hi8 : ((w6.setCell ⟨w4.heap.size, 0, none⟩ (.slice B6 m6 c6)).setCell ⟨w4.heap.size, 1, none⟩ (.int .i64 tx.2.2)).heap[w3.heap.size]? = some (.cells #[.slice B m' c', .int .i64 r.2.2] 108 (0, 0)) := by
            rw [Below.heap_setCell _ _ _ _ (by show w3.heap.size ≠ w4.heap.size; omega), Below.heap_setCell _ _ _ _ (by show w3.heap.size ≠ w4.heap.size; omega)]
            exact HG6.out
          rw [← hW8, htx]
          exact (heap_set _ _ _ _ _ _ _ (heap_set _ _ _ _ _ _ _ hi8)).trans rfl
        have hs8 := HS6.out.old HX6.out hx8
        have hd8 := HD6.out.old HX6.out hx8
        have hO8 := (HO.out.mut hm8 hgl).alloc (.cells #[.int .u32 (getI r.2.1 r.2.2 4).1, .int .u64 (getI (getI r.2.1 r.2.2 4).2.1 (getI r.2.1 r.2.2 4).2.2 8).1, .slice B7 m7 c7] 114)
        have hbs : w3.heap.size + 1 ≤ W8.heap.size := Nat.le_trans hbl hm8.size
        have HM8 := Lib.hid hm8
        have HX8 := Lib.hid hx8
        have HG8 := Lib.hid hg8
        have HS8 := Lib.hid hs8
        have HD8 := Lib.hid hd8
        have HO8 := Lib.hid hO8
        have hz8 : W8.heap.size = w6.heap.size := by rw [← hW8]; simp
        have hsl := Sl.laid eP_len W8 [((getI r.2.1 r.2.2 4).1, (getI (getI r.2.1 r.2.2 4).2.1 (getI r.2.1 r.2.2 4).2.2 8).1, B7, m7, c7)] #[.int .u32 (getI r.2.1 r.2.2 4).1, .int .u64 (getI (getI r.2.1 r.2.2 4).2.1 (getI r.2.1 r.2.2 4).2.2 8).1, .slice B7 m7 c7] 114 1 rfl rfl (by decide)
        rw [hz8] at hsl
        have HSL := Lib.hid hsl
        clear hsl hz8
        have HW8 := Lib.hid hW8
        have HTX := Lib.hid htx
        clear hm6 hm8 hx8 hg8 hs8 hd8 hO8 hW8 htx
        go_wp2_with (at_builtin; rw [HW8.out]; refine wpList_app _ rfl _ _ 41 rfl info_pr Try.underlying41 rfl (by decide) eP_len eP_one HO8.out rfl HSL.out rfl (by rw [HLN.out]; simp; omega) (by rw [HLN.out]; simp; omega) (by simp; omega) ?_; intro A7 n7 cap7 w7 hO7 hg7 hrow7 _; have HO7 := Lib.hid hO7; have HG7 := Lib.hid hg7; clear hO7 hg7 hrow7)
        have hst := HST.out
        have hE := HE.out
        rw [HR2.out] at hst hE
        have hs9 := HS8.out
        have hd9 := HD8.out
        rw [HTX.out] at hs9 hd9
        have hfin := RSt.step hst HO.out hE HM8.out HX8.out HG8.out hs9 hd9 HO7.out HG7.out
        have hbx7 : Ext (w.alloc (.cells #[.int .i64 n, .int .i64 b] 23)) w7 :=
          ((Mut.ext HBX.out HM8.out HSZ.out).alloc _).grown HG7.out fun q hq => by
            have h1 := (HO.out.lt q hq).1
            have h2 := HSZ.out
            exact Nat.le_trans h2 (by omega)
        have HF := Lib.hid hfin
        clear hst hE hfin hs9 hd9
        refine ⟨⟨j + 1, n7, cap7, A7, by omega, by go_num, rfl, ?_, hbx7⟩, by simp [intOf]; omega⟩
        rw [HSP.out]
        unfold stepP
        rw [HTX.out]
        exact HF.out
      · obtain rfl : j = k := by omega
        obtain ⟨r, hr2⟩ : ∃ r, readK u.2.1 u.2.2 j = r := ⟨_, rfl⟩
        have hst := HST.out
        have hok := (readK_ok HUB.out u.2.2 j).1
        rw [hr2] at hst hok hrlen
        obtain ⟨hs, hO, hE⟩ := hst.ex
        have hP : Pats (fun _ => True) (fun _ => True) wr A' n' cap' r.1 := ⟨hs, (hO.sl eP_len).mono fun _ _ => trivial, hE.mono fun _ _ pr => pr.mono fun _ _ => trivial⟩
        have hn' : n' = r.1.length := hP.len
        have hbox0 := HBX.out.at (cell_new w #[.int .i64 n, .int .i64 b] 23 0 (0, 0) rfl)
        have hbox1 := HBX.out.at (cell_new w #[.int .i64 n, .int .i64 b] 23 1 (0, 0) rfl)
        have hex : Ext w wr := hst.ext
        obtain ⟨Bz, mz, cz, hgz, hinz⟩ := hst.inat
        have z0 := cell_of_heap hgz 0
        have z1 := cell_of_heap hgz 1
        simp only [List.getElem?_toArray, List.getElem?_cons_zero, List.getElem?_cons_succ] at z0 z1
        have HI := Lib.hid hinz
        have HP := Lib.hid hP
        have HOK := Lib.hid hok
        have HR2 := Lib.hid hr2
        have HX := Lib.hid hex
        have HN' := Lib.hid hn'
        have hkk : u.1.toNat = j := by rw [HK.out]; rfl
        have HKK := Lib.hid hkk
        clear hst hO hE hP hok hr2 hex hrlen HST HRB hkk hn' hgz hinz hg HG HIN
        obtain ⟨d, hd⟩ : ∃ d, doneI r.2.1 r.2.2 = d := ⟨_, rfl⟩
        have HD := Lib.hid hd
        clear hd
        by_cases hd0 : d = 0
        · subst hd0
          by_cases hn0 : n' = 0
          · have hn00 : ((n' : Int) == 0) = true := by simp [hn0]
            have hr1 : r.1 = [] := List.eq_nil_of_length_eq_zero (by rw [← HN'.out]; exact hn0)
            have E := getP_form (n := n) (b := b) H0.out hr HU.out HKK.out HR2.out HD.out (.inl hr1)
            have EE := Lib.hid E
            clear E hr1 hn0
            go_wp2_with (go_at_call 68; refine (done01_any _ _ _ _ _ _ _ HI.out).mono ?_; rintro e w9 ⟨rfl, he9⟩; rw [HD.out]; have s0 := he9.at hbox0; have s1 := he9.at hbox1)
            go_ret2
            rw [EE.out]
            exact ⟨none, 0, 0, rfl, Pats.nil _ _ _, HX.out.trans he9⟩
          · have hn00 : ((n' : Int) == 0) = false := by simp; omega
            have hr1 : ¬ r.1 = [] := fun e => hn0 (by rw [HN'.out, e]; rfl)
            by_cases hck : checkP n b r.1 = 0
            · have E := getP_ok (n := n) (b := b) H0.out hr HU.out HKK.out HR2.out HD.out (fun h => h.elim hr1 fun h => h hck)
              have EE := Lib.hid E
              have HC := Lib.hid hck
              clear E hr1 hn0 hck
              go_wp2_with (first
                | (go_at_call 68; refine (done01_any _ _ _ _ _ _ _ HI.out).mono ?_; rintro e w9 ⟨rfl, he9⟩; rw [HD.out]; have s0 := he9.at hbox0; have s1 := he9.at hbox1)
                | (go_at_call 30; refine (rcheck_any _ _ _ _ _ _ _ _ _ (HP.out.ext he9) HOK.out).mono ?_; rintro e w8 ⟨rfl, he8⟩; rw [HC.out]))
              go_ret2
              rw [EE.out]
              exact ⟨A', n', cap', rfl, (HP.out.ext he9).ext he8, (HX.out.trans he9).trans he8⟩
            · have E := getP_form (n := n) (b := b) H0.out hr HU.out HKK.out HR2.out HD.out (.inr hck)
              have EE := Lib.hid E
              have hcb : (checkP n b r.1 != 0) = true := by simp [hck]
              clear E hr1 hn0 hck
              go_wp2_with (first
                | (go_at_call 68; refine (done01_any _ _ _ _ _ _ _ HI.out).mono ?_; rintro e w9 ⟨rfl, he9⟩; rw [HD.out]; have s0 := he9.at hbox0; have s1 := he9.at hbox1)
                | (go_at_call 30; refine (rcheck_any _ _ _ _ _ _ _ _ _ (HP.out.ext he9) HOK.out).mono ?_; rintro e w8 ⟨rfl, he8⟩))
              go_ret2
              rw [EE.out]
              exact ⟨none, 0, 0, rfl, Pats.nil _ _ _, (HX.out.trans he9).trans he8⟩
        · have E := getP_err (n := n) (b := b) H0.out hr HU.out HKK.out HR2.out HD.out hd0
          have EE := Lib.hid E
          have hdb : (d != 0) = true := by simp [hd0]
          clear E hd0
          go_wp2_with (go_at_call 68; refine (done01_any _ _ _ _ _ _ _ HI.out).mono ?_; rintro e w9 ⟨rfl, he9⟩; rw [HD.out]; have s0 := he9.at hbox0; have s1 := he9.at hbox1)
          go_ret2
          rw [EE.out]
          exact ⟨none, 0, 0, rfl, Pats.nil _ _ _, HX.out.trans he9⟩
  · rw [getP_bad h0 hr]
    have hr' : rightB n b = false := by simpa using hr
    clear h0 hr
    go_enter Try.func23, Try.ntmps23
    go_wp2_with (go_at_call 15; refine (rright_any _ _ _).mono ?_; rintro e w' ⟨rfl, he⟩)
    go_ret2
    exact ⟨none, 0, 0, rfl, Pats.nil _ _ _, by (repeat (first | exact Ext.refl _ | assumption | refine Ext.alloc ?_ _ | refine Ext.drew ?_ | refine Ext.drewN ?_ _ | refine Ext.setCell ?_ (by simp) _ | (refine Ext.trans ?_ (by assumption))))⟩
end Go.Proofs.Ytdocdppimpapiaa
