/-
  catenaryref01.Num. The reference's Get at entries. DirsGets, the walk. What a row hands over: bytes. No function of the program.
-/
import Derived.Deep.RegionLaw
import Derived.Test.YtdocdppimpapiabDoorDB2
import Derived.Test.YtdocdppimpapiabDoorDB4
import Derived.Test.YtdocdppimpapiabDoorDB5
import Derived.Test.YtdocdppimpapiabDoorDB6
set_option linter.unusedSimpArgs false
set_option linter.unusedVariables false
namespace Go.Proofs.YtdocdppimpapiabDoor
open Go.RowKit

theorem mul_byte {a x : Int} (h0 : 0 ≤ a) (h1 : a < 72057594037927936) (h2 : 0 ≤ x) (h3 : x < 256) : IntKind.u64.wrap (IntKind.u64.wrap (a * 256) + IntKind.u64.wrap x) = a * 256 + x := by
  rw [wrap_u64 (x := a * 256) (by omega) (by omega), wrap_u64 (x := x) (by omega) (by omega), wrap_u64 (by omega) (by omega)]

theorem numB_next2 {l : List Int} (hb : Bt l) {k : Nat} {x : Int} (hx : l[k]? = some x) (hk : k ≤ 7) :
    IntKind.u64.wrap (IntKind.u64.wrap (numB (l.take k) * 256) + IntKind.u64.wrap x) = numB (l.take (k + 1)) := by
  have hkl : k < l.length := by
    rcases Nat.lt_or_ge k l.length with h1 | h1
    · exact h1
    · rw [List.getElem?_eq_none h1] at hx; cases hx
  have ht : Bt (l.take k) := fun y hy => hb y (List.mem_of_mem_take hy)
  have hxx := hb x (List.mem_of_getElem? hx)
  rw [mul_byte (numB_bd _ ht).1 (numB_lt ht (by rw [List.length_take]; omega)) hxx.1 hxx.2, List.take_add_one, hx, Option.toList_some, numB_snoc]

set_option maxHeartbeats 400000 in
theorem num01_any (A : Option Addr) (n cap : Nat) (l : List Int) (Q : Nat → Prop) (w : World) (h : Sl (eI .u8) 1 Q w A n cap l) (hl : l.length ≤ 8) (hb : Bt l) :
    Calls Tryd.prog 42 #[.slice A n cap] w fun e w' => e = .returned (.int .u64 (numB l)) ∧ w = w' := by
  have hn : n ≤ 8 := by rw [h.len]; exact hl
  have H := Lib.hid h
  have HB := Lib.hid hb
  clear h hb
  go_enter Tryd.func42, Tryd.ntmps42
  go_wp2
  go_loop [3, 4] (fun s i => ∃ k : Nat, k ≤ n ∧ i = .int .i64 k ∧ s = .int .u64 (numB (l.take k))) (fun _ i => n - (intOf i).toNat)
  case atStart => exact ⟨0, Nat.zero_le _, rfl, rfl⟩
  case round =>
    obtain ⟨k, hk, rfl, rfl⟩ := hrel
    by_cases hlt : k < n
    · obtain ⟨b, off, x, rfl, hx, _, hbl, hc⟩ := H.out.num k hlt
      have hX := Lib.hid hx
      clear hx
      go_wp2
      refine ⟨⟨k + 1, by omega, by go_num, ?_⟩, by simp [intOf]; omega⟩
      rw [numB_next2 HB.out hX.out (by omega)]
    · go_wp2
      go_ret
      have h := H.out
      exact ⟨ret_int (by rw [List.take_of_length_le (by rw [← h.len]; omega)]), rfl⟩

end Go.Proofs.YtdocdppimpapiabDoor

namespace Go.Proofs.YtdocdppimpapiabDoor
open Go.RowKit Go.Proofs.YtdocdppimpapiabDoorW.PrintWords

theorem conv_at {w : World} {b o n c : Nat} {l : List Int} (hl : l.length = n) (h : ∀ i x, l[i]? = some x → w.cell? ⟨b, o + i, none⟩ = some (.int .u8 x)) :
    (convert 29 9 (.slice (some ⟨b, o, none⟩) n c)).run Tryd.prog w = .ok (.string (strOfNums l)) w := by
  refine run_convert_bytes_arg w 29 5 Tryd.underlying29 Tryd.underlying5 b o n c l hl (fun i hi => ?_) 9 Tryd.underlying9
  have hi' : i < l.length := by rw [hl]; exact hi
  rw [h i _ (List.getElem?_eq_getElem hi'), List.getD_eq_getElem?_getD, List.getElem?_eq_getElem hi']
  rfl
theorem Sl.cell8 {Q : Nat → Prop} {w : World} {b o n c : Nat} {l : List Int} (h : Sl (eI .u8) 1 Q w (some ⟨b, o, none⟩) n c l) (i : Nat) (x : Int) (hx : l[i]? = some x) : w.cell? ⟨b, o + i, none⟩ = some (.int .u8 x) := by
  obtain ⟨b', o', e, _, hc⟩ := h.at_ i x hx
  simp only [Option.some.injEq, Addr.mk.injEq, and_true] at e
  obtain ⟨rfl, rfl⟩ := e
  have := hc 0 (.int .u8 x) rfl
  rw [Nat.mul_one, Nat.add_zero] at this
  exact this
/-- The name and the number of a block, as the reference takes them. -/
theorem decN_ref {l : List Int} {d : Nat} (hd : hdN l = (d : Int)) (h11 : d ≤ 11) (hl : 16 ≤ l.length) : decN l = (strOfNums ((l.drop 1).take d), numB ((l.drop 12).take 4)) := by
  unfold decN minN rawN
  rw [hd, Int.toNat_natCast, Nat.min_eq_left h11, extract_str _ _ _ (by rw [List.length_take, List.length_drop]; omega), List.drop_zero, Nat.sub_zero, List.take_take, Nat.min_eq_left h11]
theorem getD_bad {bs : List Int} {j j0 : Nat} (hlen : bs.length = 16 * j0) (h512 : bs.length ≤ 512) (hj : j < j0) (h : 11 < hdN (bs.drop (16 * j))) : getD bs = ([], 4) := by
  unfold getD
  rw [if_neg (by omega), if_neg (by omega), if_neg]
  rintro ⟨hg, _⟩
  have := gd_hd hg j (by omega)
  omega
theorem getD_form {bs : List Int} {j0 : Nat} (hb : Bt bs) (hlen : bs.length = 16 * j0) (h512 : bs.length ≤ 512) (h11 : ∀ i, i < j0 → hdN (bs.drop (16 * i)) ≤ 11) :
    getD bs = if checkE (outN bs j0) = 0 ∧ eqL (encsN (outN bs j0)) bs = true then (outN bs j0, 0) else ([], 4) := by
  have hq : bs.length / 16 = j0 := by omega
  have hbk := blocks_back hb j0 (by omega) h11
  rw [List.take_of_length_le (by omega)] at hbk
  unfold getD
  rw [if_neg (by omega), if_neg (by omega), hq]
  by_cases hc : checkE (outN bs j0) = 0
  · by_cases hg : gdN bs j0 = true
    · rw [if_pos ⟨hg, hc⟩, if_pos ⟨hc, decide_eq_true (hbk.2 hg)⟩]
    · rw [if_neg (fun h => hg h.1), if_neg (fun h => hg (hbk.1 (of_decide_eq_true h.2)))]
  · rw [if_neg (fun h => hc h.2), if_neg (fun h => hc h.1)]
theorem info_rn : (Tryd.prog.info? 45).map (fun i => (i.zero, i.size, i.bytes)) = some (some (.agg #[.string ⟨#[]⟩, .int .i64 0]), 2, 24) := by kernel_rfl

set_option maxRecDepth 100000 in
set_option maxHeartbeats 6400000 in
theorem rget29_any (A : Option Addr) (m c : Nat) (bs : List Int) (Q : Nat → Prop) (w : World) (h : Sl (eI .u8) 1 Q w A m c bs) (hb : Bt bs) :
    Calls Tryd.prog 19 #[.slice A m c] w (RetEn (getD bs) w) := by
  have HL := Lib.hid h.len
  have HC := Lib.hid h.le
  have H := Lib.hid h
  have HB := Lib.hid hb
  clear h hb
  by_cases h512 : 512 < m
  · have E : getD bs = ([], 17) := by unfold getD; rw [if_pos (by rw [← HL.out]; exact h512)]
    rw [E]
    go_enter Tryd.func19, Tryd.ntmps19
    go_wp2
    go_ret2
    exact ⟨none, 0, 0, rfl, Sl.nil _ _ none 0 (Nat.zero_le _), Ext.refl _⟩
  have hm5 : m ≤ 512 := by omega
  by_cases h16 : m % 16 = 0
  · obtain ⟨j0, hj0⟩ : ∃ j0, bs.length / 16 = j0 := ⟨_, rfl⟩
    have hlen : bs.length = 16 * j0 := by have := HL.out; omega
    have hmj : m = 16 * j0 := by have := HL.out; omega
    have hr : ((m : Int) % 16 != 0) = false := by simp; omega
    have HLEN := Lib.hid hlen
    have HMJ := Lib.hid hmj
    have hj32 : j0 ≤ 32 := by omega
    obtain ⟨gd, hgd⟩ : ∃ gd, getD bs = gd := ⟨_, rfl⟩
    rw [hgd]
    have HGD := Lib.hid hgd
    clear hj0 hlen h16 h512 hmj hgd
    go_enter Tryd.func19, Tryd.ntmps19
    go_wp2
    go_loopw [4, 5] (fun v i wr => ∃ (k q n' cap' : Nat) (A' : Option Addr), q = 16 * k ∧ k ≤ j0 ∧ v = .slice A' n' cap' ∧ i = .int .i64 (q : Int) ∧ Ow eE 2 45 w.heap.size wr A' n' cap' (outN bs k) ∧ (∀ i, i < k → hdN (bs.drop (16 * i)) ≤ 11) ∧ Ext w wr) (fun _ i _ => m - (intOf i).toNat)
    case atStart => exact ⟨0, 0, 0, 0, none, rfl, Nat.zero_le _, rfl, rfl, Ow.nil _, fun i h => by omega, Ext.refl _⟩
    case round =>
      obtain ⟨k, q, n', cap', A', hq, hk, rfl, rfl, ho, h11, hx⟩ := hrel
      have HQ := Lib.hid hq
      have HO := Lib.hid ho
      have H11 := Lib.hid h11
      have HX := Lib.hid hx
      clear hq ho h11 hx
      by_cases hlt : q < m
      · obtain ⟨b, o, x, rfl, hx, _, hbl, hc⟩ := H.out.num q hlt
        replace hc := HX.out.at hc
        have hx0 := HB.out x (List.mem_of_getElem? hx)
        have hdr : (bs.drop q).length = m - q := by rw [List.length_drop, ← HL.out]
        have hhd : hdN (bs.drop q) = x := by
          unfold hdN
          rw [List.drop_eq_getElem_cons (by rw [← HL.out]; exact hlt), List.take_succ_cons, List.take_zero, numB_one]
          rw [List.getElem?_eq_getElem (by rw [← HL.out]; exact hlt)] at hx
          injection hx
        have q0 : (0 : Int) ≤ (q : Int) := by omega
        have q9 : (q : Int) < (m : Int) := by omega
        obtain ⟨hx0, hx9⟩ := hx0
        have HHD := Lib.hid hhd
        have hw := Lib.hid (wrap_i64 hx0 (by omega))
        have hq16 : q + 16 ≤ m := by have := HQ.out; have := HMJ.out; omega
        have hkj : k < j0 := by have := HQ.out; have := HMJ.out; omega
        clear hx hhd hdr
        by_cases h11 : 11 < x
        · have HG := Lib.hid (show gd = ([], 4) by rw [← HGD.out]; exact getD_bad HLEN.out (by rw [← HL.out]; exact hm5) hkj (by rw [← HQ.out, HHD.out]; exact h11))
          go_wp2
          go_ret2
          rw [HG.out]
          exact ⟨none, 0, 0, rfl, Sl.nil _ _ none 0 (Nat.zero_le _), HX.out⟩
        · obtain ⟨d, rfl⟩ : ∃ d : Nat, x = (d : Int) := ⟨x.toNat, by omega⟩
          have hd11 : d ≤ 11 := by omega
          obtain ⟨bo, hbo⟩ : ∃ bo, outN bs k = bo := ⟨_, rfl⟩
          obtain ⟨nm, hnm⟩ : ∃ nm, strOfNums ((bs.drop (q + 1)).take d) = nm := ⟨_, rfl⟩
          obtain ⟨v, hv⟩ : ∃ v, numB ((bs.drop (q + 12)).take 4) = v := ⟨_, rfl⟩
          have hcap := HC.out
          have hcc : c ≤ 9223372036854775807 := H.out.mx
          have hS1 : Sl (eI .u8) 1 Q w (some ⟨b, o + (q + 1), none⟩) d (c - (q + 1)) ((bs.drop (q + 1)).take d) := by
            have h1 := H.out.drop (q + 1) (by omega)
            rw [if_neg (by omega), Nat.mul_one] at h1
            exact h1.take d (by omega) _ (by omega) (by omega)
          have hS2 : Sl (eI .u8) 1 Q w (some ⟨b, o + (q + 12), none⟩) 4 (c - (q + 12)) ((bs.drop (q + 12)).take 4) := by
            have h1 := H.out.drop (q + 12) (by omega)
            rw [if_neg (by omega), Nat.mul_one] at h1
            exact h1.take 4 (by omega) _ (by omega) (by omega)
          have hvb := numB_bd ((bs.drop (q + 12)).take 4) ((HB.out.drop _).take 4)
          rw [List.length_take, List.length_drop, ← HL.out, Nat.min_eq_left (by omega), hv] at hvb
          obtain ⟨hv0, hv1⟩ := hvb
          replace hv1 : v < 4294967296 := by simpa using hv1
          have hwv : IntKind.i64.wrap v = v := wrap_i64 hv0 (by omega)
          have hb4 : ((bs.drop (q + 12)).take 4).length ≤ 8 := by rw [List.length_take]; omega
          have HK : ∀ n, (convert 29 9 (.slice (some ⟨b, o + (q + 1), none⟩) d (c - (q + 1)))).run Tryd.prog (wr.drewN n) = .ok (.string nm) (wr.drewN n) := fun n => by
            rw [← hnm]
            exact conv_at hS1.len.symm ((hS1.ext (HX.out.drewN n)).cell8)
          have HK1 : (convert 29 9 (.slice (some ⟨b, o + (q + 1), none⟩) d (c - (q + 1)))).run Tryd.prog wr.drew = .ok (.string nm) wr.drew := by
            rw [← hnm]
            exact conv_at hS1.len.symm ((hS1.ext HX.out.drew).cell8)
          have e1 : (c = q + 1) = False := eq_false (by omega)
          have e2 : (c = q + 12) = False := eq_false (by omega)
          have HS2 := Lib.hid hS2
          have HV := Lib.hid hv
          have HB4 := Lib.hid hb4
          have HBO := Lib.hid hbo
          have HNM := Lib.hid hnm
          have w1 : IntKind.i64.wrap ((q : Int) + 1) = (q : Int) + 1 := wrap_i64 (by omega) (by omega)
          have w2 : IntKind.i64.wrap ((q : Int) + 1 + (d : Int)) = (q : Int) + 1 + (d : Int) := wrap_i64 (by omega) (by omega)
          have w3 : IntKind.i64.wrap ((q : Int) + 12) = (q : Int) + 12 := wrap_i64 (by omega) (by omega)
          have w4 : IntKind.i64.wrap ((q : Int) + 16) = (q : Int) + 16 := wrap_i64 (by omega) (by omega)
          have i1 : (0 : Int) ≤ (q : Int) + 1 := by omega
          have i2 : (q : Int) + 1 ≤ (q : Int) + 1 + (d : Int) := by omega
          have i3 : (q : Int) + 1 + (d : Int) ≤ (c : Int) := by omega
          have i4 : (0 : Int) ≤ (q : Int) + 12 := by omega
          have i5 : (q : Int) + 12 ≤ (q : Int) + 16 := by omega
          have i6 : (q : Int) + 16 ≤ (c : Int) := by omega
          have n1 : ((q : Int) + 1).toNat = q + 1 := by omega
          have n2 : ((q : Int) + 1 + (d : Int)).toNat = q + 1 + d := by omega
          have n3 : ((q : Int) + 12).toNat = q + 12 := by omega
          have n4 : ((q : Int) + 16).toNat = q + 16 := by omega
          clear hnm hv hb4 hbo hS1 hS2
          go_wp2
          go_region_law (first
            | (go_simp; go_at_call 42; go_must (refine (num01_any _ _ _ _ _ _ (HS2.out.ext HX.out.drew) HB4.out ((HB.out.drop _).take 4)).mono ?_); rintro e w5 ⟨rfl, rfl⟩; rw [HV.out])
            | (go_must (refine step_app _ rfl _ _ 22 rfl info_rn Tryd.underlying22 rfl (by decide) eE_len eE_one (base := w.heap.size) (HO.out.ext (((Ext.refl wr).alloc _).drew)) rfl ((Sl.laid eE_len wr [(nm, v)] #[.string nm, .int .i64 v] 45 1 rfl rfl (by decide)).ext ((Ext.refl _).drew)) rfl (by rw [outN_len, List.length_singleton]; omega) (by rw [outN_len, List.length_singleton]; omega) (Nat.le_trans HX.out.size (((Ext.refl wr).alloc _).drew).size) ?_); intro A7 n7 cap7 w7 hO7 hg7 _ _; replace hO7 := Lib.hid hO7; replace hg7 := Lib.hid hg7))
          all_goals go_wp2
          all_goals (
            have hlen7 := hO7.out.len
            have hdd := HHD.out
            have hEn : decN (bs.drop q) = (nm, v) := by
              rw [decN_ref HHD.out hd11 (by rw [List.length_drop, ← HL.out]; omega), List.drop_drop, List.drop_drop, HNM.out, HV.out]
            refine ⟨⟨k + 1, q + 16, n7, cap7, A7, by have := HQ.out; omega, by omega, rfl, by go_num, ?_, fun i hi => ?_, ?_⟩, by simp [intOf]; omega⟩
            · rw [outN_succ, ← HQ.out, hEn]; exact hO7.out
            · rcases Nat.lt_or_ge i k with h | h
              · exact H11.out i h
              · obtain rfl : i = k := by omega
                rw [← HQ.out, HHD.out]; omega
            · exact (HX.out.trans (((Ext.refl wr).alloc _).drew)).grown hg7.out fun j hj => (HO.out.lt j hj).1)
      · obtain rfl : k = j0 := by have := HQ.out; have := HMJ.out; omega
        have hS := HO.out.sl eE_len
        have HF := Lib.hid (getD_form HB.out HLEN.out (by rw [← HL.out]; exact hm5) H11.out)
        obtain ⟨out, hout⟩ : ∃ out, outN bs k = out := ⟨_, rfl⟩
        rw [hout] at hS HF
        have HS := Lib.hid hS
        obtain ⟨ce, hce⟩ : ∃ ce, checkE out = ce := ⟨_, rfl⟩
        have HCE := Lib.hid hce
        have HGW := Lib.hid (show ∀ j, (w.heap.size ≤ j ∧ (Value.slice A' n' cap').ownBlock = some j) → w.heap.size ≤ j from fun j h => h.1)
        clear hS hout
        by_cases hc0 : ce = 0
        · subst hc0
          obtain ⟨eq, heq⟩ : ∃ eq, eqL (encsN out) bs = eq := ⟨_, rfl⟩
          have HEQ := Lib.hid heq
          have HR := Lib.hid (show gd = if eq = true then (out, 0) else ([], 4) by
            rw [← HGD.out, HF.out, ← heq, hce]
            by_cases h : eqL (encsN out) bs = true
            · rw [if_pos ⟨rfl, h⟩, if_pos h]
            · rw [if_neg (fun x => h x.2), if_neg h])
          clear hce heq
          go_wp2_with fail
          refine (rcheck29_any _ _ _ _ _ _ HS.out).mono ?_
          rw [HCE.out]
          rintro e w2 ⟨rfl, h2⟩
          replace h2 := Lib.hid h2.ext
          go_wp2_with fail
          refine (rbytes29_any _ _ _ _ _ _ (HS.out.ext h2.out) HCE.out).mono ?_
          rintro e w3 ⟨A3, n3, c3, rfl, hs3, h3⟩
          replace hs3 := Lib.hid hs3
          have hX3 := Lib.hid (HX.out.trans (h2.out.trans h3))
          have hE3 := Lib.hid (h2.out.trans h3)
          clear h3
          go_wp2_with fail
          refine (same01_any _ _ _ _ _ _ _ _ _ _ _ hs3.out (H.out.ext hX3.out)).mono ?_
          rw [HEQ.out]
          rintro e w4 ⟨rfl, h4⟩
          replace h4 := Lib.hid h4.ext
          cases eq
          · go_wp2
            go_ret2
            rw [HR.out]
            exact ⟨none, 0, 0, rfl, Sl.nil _ _ none 0 (Nat.zero_le _), hX3.out.trans h4.out⟩
          · go_wp2
            go_ret2
            rw [HR.out]
            exact ⟨A', n', cap', rfl, (HS.out.ext (hE3.out.trans h4.out)).mono HGW.out, hX3.out.trans h4.out⟩
        · have HR := Lib.hid (show gd = ([], 4) by rw [← HGD.out, HF.out, hce, if_neg (fun x => hc0 x.1)])
          have hcb : (ce != 0) = true := by simpa using hc0
          clear hce hc0
          go_wp2_with fail
          refine (rcheck29_any _ _ _ _ _ _ HS.out).mono ?_
          rw [HCE.out]
          rintro e w2 ⟨rfl, h2⟩
          replace h2 := Lib.hid h2.ext
          go_wp2
          go_ret2
          rw [HR.out]
          exact ⟨none, 0, 0, rfl, Sl.nil _ _ none 0 (Nat.zero_le _), HX.out.trans h2.out⟩
  · have E : getD bs = ([], 3) := by unfold getD; rw [if_neg (by rw [← HL.out]; exact h512), if_pos (by rw [← HL.out]; exact h16)]
    rw [E]
    have hr : ((m : Int) % 16 != 0) = true := by simp; omega
    go_enter Tryd.func19, Tryd.ntmps19
    go_wp2
    go_ret2
    exact ⟨none, 0, 0, rfl, Sl.nil _ _ none 0 (Nat.zero_le _), Ext.refl _⟩
end Go.Proofs.YtdocdppimpapiabDoor

namespace Go.Proofs.YtdocdppimpapiabDoor
open Go.RowKit

theorem getD_len (bs : List Int) : (getD bs).1.length ≤ 32 := by
  unfold getD
  split
  · exact Nat.zero_le _
  · split
    · exact Nat.zero_le _
    · split
      · simp only [outN_len]; omega
      · exact Nat.zero_le _

set_option maxHeartbeats 3200000 in
set_option maxRecDepth 100000 in
theorem dirsGets_any (A : Option Addr) (n c : Nat) (l : List Int) (m : Int) (Q : Nat → Prop) (w : World) (h : Sl (eI .u8) 1 Q w A n c l) (hb : Bt l) (hm : w.cell? ⟨0, 0, none⟩ = some (.int .i64 m)) :
    Calls Tryd.prog 4 #[.slice A n c] w fun e w' => e = .returned (.bool true) ∧ Ext w w' := by
  have H := Lib.hid h
  have HM := Lib.hid hm
  obtain ⟨bs, hbs⟩ : ∃ bs, l.take 700 = bs := ⟨_, rfl⟩
  have HBS := Lib.hid hbs
  have HBT := Lib.hid (show Bt bs by rw [← hbs]; exact hb.take 700)
  obtain ⟨⟨es, er⟩, hg⟩ : ∃ r, getD bs = r := ⟨_, rfl⟩
  have HG := Lib.hid hg
  have hes : es.length ≤ 1000 := by have := getD_len bs; rw [hg] at this; simp only at this; omega
  have hself := beq_int_self er
  obtain ⟨pd, hpd⟩ : ∃ pd, putD es = pd := ⟨_, rfl⟩
  obtain ⟨ce, hce⟩ : ∃ ce, checkE es = ce := ⟨_, rfl⟩
  have HPD := Lib.hid hpd
  have HCE := Lib.hid hce
  clear h hb hm hbs hg hpd hce
  go_enter Tryd.func4, Tryd.ntmps4
  go_wp2_with fail
  refine (cut_any _ _ _ _ _ _ _ H.out).mono ?_
  rintro e w1 ⟨A1, m1, c1, rfl, S1, rfl⟩
  rw [HBS.out] at S1
  replace S1 := Lib.hid S1
  go_wp2_with fail
  refine (dget_any _ _ _ _ _ _ S1.out HBT.out).mono ?_
  rw [HG.out]
  rintro e w2 ⟨A2, m2, c2, rfl, S2, h2⟩
  replace S2 := Lib.hid S2
  replace h2 := Lib.hid h2
  go_wp2_with fail
  refine (rget29_any _ _ _ _ _ _ (S1.out.ext h2.out) HBT.out).mono ?_
  rw [HG.out]
  rintro e w3 ⟨A3, m3, c3, rfl, S3, h3⟩
  replace S3 := Lib.hid S3
  have S23 := Lib.hid (S2.out.ext h3)
  have X3 := Lib.hid (h2.out.trans h3)
  clear h3 S2
  go_wp2_with fail
  refine (dput_any _ _ _ _ _ _ S23.out).mono ?_
  rw [HCE.out, HPD.out]
  rintro e w4 ⟨A4, m4, c4, rfl, S4, h4⟩
  replace S4 := Lib.hid S4
  have S24 := Lib.hid (S23.out.ext h4)
  have S34 := Lib.hid (S3.out.ext h4)
  have X4 := Lib.hid (X3.out.trans h4)
  clear h4 S3 S23
  go_wp2_with fail
  refine (like29_any _ _ _ _ _ _ _ _ _ _ _ S24.out S34.out hes).mono ?_
  rw [eqE_self]
  rintro e w5 ⟨rfl, h5⟩
  have S45 := Lib.hid (S4.out.ext h5.ext)
  have X5 := Lib.hid (X4.out.trans h5.ext)
  clear h5 S24 S34
  by_cases he : er = 0
  · subst he
    have hpg := put_get HBT.out (show (getD bs).2 = 0 by rw [HG.out])
    rw [HG.out] at hpg
    have hz : ce = 0 := HCE.out.symm.trans hpg.1
    have hpb := Lib.hid (HPD.out.symm.trans hpg.2)
    subst hz
    clear hpg
    go_wp2_with fail
    refine (same01_any _ _ _ _ _ _ _ _ _ _ _ S45.out (S1.out.ext X5.out)).mono ?_
    rw [hpb.out, eqL_self]
    rintro e w6 ⟨rfl, h6⟩
    have X6 := Lib.hid (X5.out.trans h6.ext)
    clear h6
    go_wp2_with fail
    refine (awake29_any m _ (X6.out.at HM.out)).mono ?_
    rintro e w7 ⟨rfl, h7⟩
    replace h7 := Lib.hid h7
    go_wp2
    go_ret
    exact ⟨rfl, X6.out.trans h7.out⟩
  · have hne : (er != 0) = true := by simpa using he
    clear he
    go_wp2_with fail
    refine (awake29_any m _ (X5.out.at HM.out)).mono ?_
    rintro e w7 ⟨rfl, h7⟩
    replace h7 := Lib.hid h7
    go_wp2
    go_ret
    exact ⟨rfl, X5.out.trans h7.out⟩
end Go.Proofs.YtdocdppimpapiabDoor

namespace Go.Proofs.YtdocdppimpapiabDoor
open Go.ChangeShapes Go.WideShapes Go.ChangeAt Go.RowKit Go.Joins

theorem ints_sl {P : Program} {H : Type} {enc : TypeId × Value → H} {w : World} {base : Nat} {spare : Nat → Bool} {hb : Bool} {t e : TypeId} {k : IntKind} {A : Option Addr} {n c : Nat} {x : DataW H × List MemPlace}
    (ht : P.underlying t = some (.slice e)) (he : P.underlying e = some (.int k)) (hc : P.cellsOf e = 1)
    (h : ∃ fuel, DataW.trod enc P w base spare hb fuel t (Value.cells (.slice A n c)).toList = some x) :
    ∃ l, Sl (eI k) 1 (fun j => j < w.heap.size) w A n c l ∧ ∀ y ∈ l, (Lit.int k y).wf = true := by
  obtain ⟨fuel, hf⟩ := h
  rcases open_ints ht he hc hf with ⟨hcs, _⟩ | ⟨a, n', c', zs, hcs, _, hl, hm, hz, _, hcell, hwz⟩
  · simp [Value.cells] at hcs
    obtain ⟨rfl, rfl, rfl⟩ := hcs
    exact ⟨[], Sl.nil _ _ _ _ (Nat.zero_le _), fun y hy => by cases hy⟩
  · simp [Value.cells] at hcs
    obtain ⟨rfl, rfl, rfl⟩ := hcs
    have hzl : n ≤ zs.length := by rw [hz]; split <;> omega
    refine ⟨zs.take n, ⟨by rw [List.length_take]; omega, hl, Nat.le_trans hm (by decide), fun i y hy => ?_⟩, fun y hy => hwz y (List.mem_of_mem_take hy)⟩
    rw [List.getElem?_take] at hy
    split at hy
    · rename_i hi
      have h1 := hcell i (by omega)
      obtain ⟨b, off, spot⟩ := a
      have hs : spot = none := by simpa [Addr.add] using World.cell?_spot (hcell 0 (by omega))
      subst hs
      have h2 : w.cell? ⟨b, off + i, none⟩ = some (.int k y) := by
        have := h1
        rw [List.getD_eq_getElem?_getD, hy] at this
        by_cases h0 : i = 0
        · subst h0; simpa [Addr.add] using this
        · simpa [Addr.add, h0] using this
      refine ⟨b, off, rfl, World.block_lt_of_cell? w _ h2, fun j u hu => ?_⟩
      cases j with
      | zero =>
        simp only [eI, List.getElem?_cons_zero, Option.some.injEq] at hu
        subst hu
        simpa using h2
      | succ j => simp [eI] at hu
    · cases hy
theorem bt_wf {l : List Int} (h : ∀ y ∈ l, (Lit.int .u8 y).wf = true) : Bt l := fun y hy => by
  have := h y hy
  simp [Lit.wf, IntKind.min, IntKind.max, IntKind.signed, IntKind.bits] at this
  omega
end Go.Proofs.YtdocdppimpapiabDoor
