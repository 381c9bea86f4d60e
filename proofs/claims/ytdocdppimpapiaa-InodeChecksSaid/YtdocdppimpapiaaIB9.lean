/-
  inode.Get: the inode of bytes. The reference's Get: the inode of bytes. The plain law of inodes' bytes: what is put is got, what is got has these bytes. No walk. InodeGets, the walk. vol.Node, vol.Whole, and the reference's: contracts. InodeChecks, the walk. VolValues, the walk.
-/
import Derived.Laws.CopyOwn
import Derived.Test.YtdocdppimpapiaaPInodeChecksx15
import Derived.Test.YtdocdppimpapiaaIB2
import Derived.Test.YtdocdppimpapiaaIB4
import Derived.Test.YtdocdppimpapiaaIB6
import Derived.Test.YtdocdppimpapiaaIB7
import Derived.Test.YtdocdppimpapiaaIB8
set_option linter.unusedSimpArgs false
set_option linter.unusedVariables false
namespace Go.Proofs.Ytdocdppimpapiaa
open Go.RowKit

def stepE (r : List Ex × List Int × Int) : List Ex × List Int × Int :=
  (r.1 ++ [((getI r.2.1 r.2.2 2).1, (getI (getI r.2.1 r.2.2 2).2.1 (getI r.2.1 r.2.2 2).2.2 2).1)], (getI (getI r.2.1 r.2.2 2).2.1 (getI r.2.1 r.2.2 2).2.2 2).2.1, (getI (getI r.2.1 r.2.2 2).2.1 (getI r.2.1 r.2.2 2).2.2 2).2.2)
def readE (l : List Int) (er : Int) : Nat → List Ex × List Int × Int
  | 0 => ([], l, er)
  | k + 1 => stepE (readE l er k)
theorem readE_ok {l : List Int} (hb : Bt l) (er : Int) : ∀ k, Bt (readE l er k).2.1 ∧ (readE l er k).1.length = k
  | 0 => ⟨hb, rfl⟩
  | k + 1 => by
    obtain ⟨h1, h2⟩ := readE_ok hb er k
    have g1 := getI_bt h1 (readE l er k).2.2 2
    have g2 := getI_bt g1 (getI (readE l er k).2.1 (readE l er k).2.2 2).2.2 2
    exact ⟨g2, by show (stepE (readE l er k)).1.length = k + 1; simp [stepE, h2]⟩
/-- What is read: the mode, how many, the size, the extents, the rest. -/
structure Rd where
  u : Int × List Int × Int
  v : Int × List Int × Int
  s : Int × List Int × Int
  r : List Ex × List Int × Int
def rdX (bs : List Int) : Rd :=
  let u := uptoI bs 0 1 2
  let v := uptoI u.2.1 u.2.2 1 8
  let s := getI v.2.1 v.2.2 4
  ⟨u, v, s, readE s.2.1 s.2.2 v.1.toNat⟩
def getX (bs : List Int) : Ino × Int :=
  if bs = [] then (zeroI, 0) else
  if doneI (rdX bs).r.2.1 (rdX bs).r.2.2 = 0 then (if checkI ((rdX bs).u.1, (rdX bs).s.1, (rdX bs).r.1) = 0 then (((rdX bs).u.1, (rdX bs).s.1, (rdX bs).r.1), 0) else (zeroI, 4))
  else (zeroI, doneI (rdX bs).r.2.1 (rdX bs).r.2.2)
theorem getX_nil : getX [] = (zeroI, 0) := rfl
theorem getX_err {bs : List Int} (h0 : bs ≠ []) {d : Int} (hd : doneI (rdX bs).r.2.1 (rdX bs).r.2.2 = d) (h : d ≠ 0) : getX bs = (zeroI, d) := by
  unfold getX; rw [if_neg h0, hd, if_neg h]
theorem getX_form {bs : List Int} (h0 : bs ≠ []) (hd : doneI (rdX bs).r.2.1 (rdX bs).r.2.2 = 0) (h : checkI ((rdX bs).u.1, (rdX bs).s.1, (rdX bs).r.1) ≠ 0) : getX bs = (zeroI, 4) := by
  unfold getX; rw [if_neg h0, if_pos hd, if_neg h]
theorem getX_ok {bs : List Int} (h0 : bs ≠ []) (hd : doneI (rdX bs).r.2.1 (rdX bs).r.2.2 = 0) (h : checkI ((rdX bs).u.1, (rdX bs).s.1, (rdX bs).r.1) = 0) : getX bs = (((rdX bs).u.1, (rdX bs).s.1, (rdX bs).r.1), 0) := by
  unfold getX; rw [if_neg h0, if_pos hd, if_pos h]

/-- Where the reading of extents stands: the inode at xb, the reader at g. -/
structure XSt (R : Nat → Prop) (g xb : Nat) (m s : Int) (W0 wr : World) (A : Option Addr) (n cap : Nat) (r : List Ex × List Int × Int) : Prop where
  box : wr.heap[xb]? = some (.cells #[.int .i64 m, .int .i64 s, .slice A n cap] 60 (0, 0))
  ow : Ow eX 2 86 (xb + 1) wr A n cap r.1
  inat : InAt R wr g r.2.1 r.2.2
  ext : Ext W0 wr
  g_lt : g < xb
  r_lt : ∀ q, R q → q < g
  W0_le : W0.heap.size ≤ g
theorem wrap_i64 {x : Int} (h0 : 0 ≤ x) (h1 : x < 9223372036854775808) : IntKind.i64.wrap x = x := by
  simp [IntKind.wrap, IntKind.signed, IntKind.bits]; omega
theorem Mut.heap {g k : Nat} {a b : World} (h : Mut g a b) {o : Obj} (hh : a.heap[k]? = some o) (hk : k ≠ g) : b.heap[k]? = some o := (h.block k (lt_of_heap hh) (fun e => hk (by injection e))).trans hh
theorem XSt.step {R : Nat → Prop} {g xb : Nat} {m s : Int} {W0 wr w5 W w7 : World} {A A7 : Option Addr} {n cap n7 cap7 : Nat} {r : List Ex × List Int × Int} {e : Ex} {l' : List Int} {er' : Int}
    (h : XSt R g xb m s W0 wr A n cap r) (h5 : Mut g wr w5) (hi : InAt R w5 g l' er') (hW : Ext w5 W)
    (hO : Ow eX 2 86 (xb + 1) w7 A7 n7 cap7 (r.1 ++ [e])) (hg : W.grownBy w7 (Value.slice A n cap).ownBlock) :
    XSt R g xb m s W0 (w7.setCell ⟨xb, 2, none⟩ (.slice A7 n7 cap7)) A7 n7 cap7 (r.1 ++ [e], l', er') := by
  have rows : ∀ q, (Value.slice A n cap).ownBlock = some q → xb + 1 ≤ q ∧ q < wr.heap.size := h.ow.lt
  have hgb := h.g_lt
  have s5 := h5.size
  have keep : ∀ q, q ≤ xb → q < w5.heap.size → w7.heap[q]? = w5.heap[q]? := fun q h1 h2 =>
    (hg.block q (Nat.lt_of_lt_of_le h2 hW.size) fun e => by have := (rows q e.symm).1; omega).trans (hW.block q h2)
  have hb5 : w5.heap[xb]? = _ := h5.heap h.box (by omega)
  have hb7 : w7.heap[xb]? = _ := (keep xb (Nat.le_refl _) (lt_of_heap hb5)).trans hb5
  have hx7 : Ext W0 w7 := ((Mut.ext h.ext h5 h.W0_le).trans hW).grown hg fun q hq => by have := (rows q hq).1; have := h.W0_le; omega
  refine ⟨(heap_set _ _ _ _ _ _ _ hb7).trans rfl, hO.step fun q hq => Below.heap_setCell _ _ _ _ (by have := (hO.lt q hq).1; show q ≠ xb; omega), ?_, hx7.setCell (p := ⟨xb, 2, none⟩) (by have := h.W0_le; show W0.heap.size ≤ xb; omega) _, hgb, h.r_lt, h.W0_le⟩
  refine hi.mut ?_ fun q h1 h2 h3 => ?_
  · exact (Below.heap_setCell _ _ _ _ (by show g ≠ xb; omega)).trans (keep g (by omega) hi.lt)
  · have := h.r_lt q h2
    exact (Below.heap_setCell _ _ _ _ (by show q ≠ xb; omega)).trans (keep q (by omega) h3)
theorem XSt.more {R : Nat → Prop} {g xb : Nat} {m s : Int} {W0 wr w' : World} {A : Option Addr} {n cap : Nat} {r : List Ex × List Int × Int} (h : XSt R g xb m s W0 wr A n cap r) (he : Ext wr w') : XSt R g xb m s W0 w' A n cap r :=
  ⟨he.heap h.box, h.ow.ext he, h.inat.ext he, h.ext.trans he, h.g_lt, h.r_lt, h.W0_le⟩

set_option maxRecDepth 100000 in
set_option maxHeartbeats 6400000 in
theorem iget28_any (A : Option Addr) (m c : Nat) (bs : List Int) (Q : Nat → Prop) (w : World) (h : Sl (eI .u8) 1 Q w A m c bs) (hb : Bt bs) (hl : bs.length ≤ 1048576) :
    Calls Try.prog 57 #[.slice A m c] w (RetIn (getX bs) w) := by
  have HL := Lib.hid h.len
  have H := Lib.hid h
  have HB := Lib.hid hb
  clear h hb
  have hr0 := heap_alloc_new w (.cells #[.int .i64 0, .int .i64 0, .slice none 0 0] 60)
  have r0 := cell_of_heap hr0 0; have r1 := cell_of_heap hr0 1; have r2 := cell_of_heap hr0 2; simp only [List.getElem?_toArray, List.getElem?_cons_zero, List.getElem?_cons_succ] at r0 r1 r2
  by_cases h0 : bs = []
  · subst h0
    obtain rfl : m = 0 := HL.out
    rw [getX_nil]
    clear hr0
    go_enter Try.func57, Try.ntmps57
    go_wp2
    refine bodyPost_ret (v := .tuple #[.agg #[.int .i64 0, .int .i64 0, .slice none 0 0], .int .i64 0]) (by simp [results, Try.results57, go_sem, r0, r1, r2]) rfl ⟨none, 0, 0, rfl, slX_nil _, ?_⟩
    (repeat (first | exact Ext.refl _ | assumption | refine Ext.alloc ?_ _ | refine Ext.drew ?_ | refine Ext.drewN ?_ _ | refine Ext.setCell ?_ (by simp) _ | (refine Ext.trans ?_ (by assumption))))
  have hm0 : ((m : Int) == 0) = false := by
    have : m ≠ 0 := fun e => h0 (List.eq_nil_of_length_eq_zero (by rw [← HL.out]; exact e))
    simp; omega
  obtain ⟨u, hu⟩ : ∃ u, uptoI bs 0 1 2 = u := ⟨_, rfl⟩
  have hub := uptoI_bd HB.out 0 1 (m := 2) (by decide)
  have hubt := uptoI_bt HB.out 0 1 2
  rw [hu] at hub hubt
  obtain ⟨v, hv⟩ : ∃ v, uptoI u.2.1 u.2.2 1 8 = v := ⟨_, rfl⟩
  have hvb := uptoI_bd hubt u.2.2 1 (m := 8) (by decide)
  have hvbt := uptoI_bt hubt u.2.2 1 8
  rw [hv] at hvb hvbt
  obtain ⟨s, hs⟩ : ∃ s, getI v.2.1 v.2.2 4 = s := ⟨_, rfl⟩
  have hsb := getI_bd hvbt v.2.2 4
  have hsbt := getI_bt hvbt v.2.2 4
  rw [hs] at hsb hsbt
  obtain ⟨hsb0, hsb1⟩ := hsb
  have hsb1 := lt4 hsb1
  obtain ⟨k, hk⟩ : ∃ k : Nat, v.1 = (k : Int) := ⟨v.1.toNat, by omega⟩
  have hk8 : k ≤ 8 := by omega
  have hrd : rdX bs = ⟨u, v, s, readE s.2.1 s.2.2 k⟩ := by
    unfold rdX
    simp only
    rw [hu, hv, hs, hk, Int.toNat_natCast]
  have HU := Lib.hid hu
  have HV := Lib.hid hv
  have HS := Lib.hid hs
  have HK := Lib.hid hk
  have HSB := Lib.hid hsbt
  have H0 := Lib.hid h0
  have HRD := Lib.hid hrd
  obtain ⟨um, ul, ue⟩ := u
  obtain ⟨vm, vl, ve⟩ := v
  obtain ⟨sm, sl, se⟩ := s
  simp only at hub hvb hsb0 hsb1 HSB hk
  obtain ⟨hub0, hub1⟩ := hub
  clear hubt hvbt hsbt hu hv hs h0 hrd hvb hk hr0
  go_enter Try.func57, Try.ntmps57
  go_wp2_with fail
  refine (of_any _ _ _ _ _ _ (H.out.ext ((Ext.refl _).alloc _)) HB.out hl).mono ?_
  rintro e w2 ⟨g, rfl, hg2, hi2, he2⟩
  have hr2 := he2.heap (heap_alloc_new w _)
  have hX2 := ((Ext.refl w).alloc _).trans he2
  have hgs := hi2.lt
  replace hr2 := Lib.hid hr2
  replace hX2 := Lib.hid hX2
  replace hi2 := Lib.hid hi2
  replace he2 := Lib.hid he2
  go_wp2_with fail
  refine (upto_any _ _ _ 1 _ _ hi2.out (by decide) (by decide)).mono ?_
  rw [HU.out]
  rintro e w3 ⟨rfl, hi3, hm3⟩
  have hi3' := hi3.ext ((Ext.refl w3).alloc (.cells #[.int .i64 um, .int .i64 0, .slice none 0 0] 60))
  have hz3 := hm3.size
  replace hi3 := Lib.hid hi3'
  replace hm3 := Lib.hid hm3
  clear hi3'
  go_wp2_with fail
  refine (upto_any _ _ _ 1 _ _ hi3.out (by decide) (by decide)).mono ?_
  rw [HV.out, HK.out]
  rintro e w4 ⟨rfl, hi4, hm4⟩
  have hxg : w3.heap.size ≠ g := by omega
  have hb4 := hm4.heap (heap_alloc_new w3 _) hxg
  replace hb4 := Lib.hid hb4
  go_wp2_with fail
  refine (iget_any _ _ _ 4 _ hi4 (by decide) (by decide)).mono ?_
  rw [HS.out]
  rintro e w5 ⟨rfl, hi5, hm5⟩
  have hb5 := hm5.heap hb4.out hxg
  have b0 := cell_of_heap hb5 0; have b1 := cell_of_heap hb5 1; have b2 := cell_of_heap hb5 2; simp only [List.getElem?_toArray, List.getElem?_cons_zero, List.getElem?_cons_succ] at b0 b1 b2
  have f0 := free_of_heap hb5 0; have f1 := free_of_heap hb5 1; have f2 := free_of_heap hb5 2
  have hE5 : Ext (w.alloc (.cells #[.int .i64 0, .int .i64 0, .slice none 0 0] 60)) w5 := Mut.ext he2.out (((hm3.out.trans (((Ext.refl w3).alloc _).mut g)).trans hm4).trans hm5) hg2
  have hg2' : w.heap.size + 1 ≤ g := by simpa using hg2
  have hst : XSt (fun q => (w.alloc (.cells #[.int .i64 0, .int .i64 0, .slice none 0 0] 60)).heap.size ≤ q ∧ q < g) g w3.heap.size um sm (w.alloc (.cells #[.int .i64 0, .int .i64 0, .slice none 0 0] 60)) (w5.setCell ⟨w3.heap.size, 1, none⟩ (.int .i64 sm)) none 0 0 (readE sl se 0) := by
    refine ⟨(heap_set _ _ _ _ _ _ _ hb5).trans rfl, Ow.nil _, ?_, hE5.setCell (p := ⟨w3.heap.size, 1, none⟩) (by show _ ≤ w3.heap.size; omega) _, by omega, fun q hq => hq.2, hg2⟩
    refine hi5.mut (Below.heap_setCell _ _ _ _ (by show g ≠ w3.heap.size; omega)) fun q h1 h2 h3 => Below.heap_setCell _ _ _ _ (by have := h2.2; show q ≠ w3.heap.size; omega)
  have hgx : g < w3.heap.size + 1 := by omega
  replace hst := Lib.hid hst
  clear hb5 hi5 hm5 hE5 hi4 hm4 hi3 hm3 he2 hi2 hr2
  go_wp2
  go_loopw [25] (fun i wr => ∃ (j n' cap' : Nat) (A' : Option Addr), j ≤ k ∧ i = .int .u64 j ∧ XSt (fun q => (w.alloc (.cells #[.int .i64 0, .int .i64 0, .slice none 0 0] 60)).heap.size ≤ q ∧ q < g) g w3.heap.size um sm (w.alloc (.cells #[.int .i64 0, .int .i64 0, .slice none 0 0] 60)) wr A' n' cap' (readE sl se j)) (fun i _ => k - (intOf i).toNat)
  case atStart => exact ⟨0, 0, 0, none, Nat.zero_le _, rfl, hst.out⟩
  case round =>
    clear hst
    obtain ⟨j, n', cap', A', hj, rfl, hst⟩ := hrel
    obtain ⟨hrb, hrl⟩ := readE_ok HSB.out se j
    obtain ⟨r, hr⟩ : ∃ r, readE sl se j = r := ⟨_, rfl⟩
    have hstep : readE sl se (j + 1) = stepE r := by rw [← hr]; rfl
    rw [hr] at hst hrb hrl
    have HSP := Lib.hid hstep
    have HR := Lib.hid hr
    have HST := Lib.hid hst
    have hbx := hst.box
    have q0 := cell_of_heap hbx 0; have q1 := cell_of_heap hbx 1; have q2 := cell_of_heap hbx 2; simp only [List.getElem?_toArray, List.getElem?_cons_zero, List.getElem?_cons_succ] at q0 q1 q2
    have qf := free_of_heap hbx 2
    have hlen := hst.ow.len
    have hmxx := (hst.ow.sl eX_len).le
    have HBX := Lib.hid hbx
    have hrl8 : r.1.length ≤ 8 := by omega
    have hn8 : n' ≤ 8 := by omega
    clear hst hr hstep hbx
    by_cases hlt : j < k
    · obtain ⟨a1, ha1⟩ : ∃ a1, getI r.2.1 r.2.2 2 = a1 := ⟨_, rfl⟩
      have hb1 := getI_bd hrb r.2.2 2
      have hbt1 := getI_bt hrb r.2.2 2
      rw [ha1] at hb1 hbt1
      obtain ⟨a2, ha2⟩ : ∃ a2, getI a1.2.1 a1.2.2 2 = a2 := ⟨_, rfl⟩
      have hb2 := getI_bd hbt1 a1.2.2 2
      rw [ha2] at hb2
      have p1 : 0 ≤ a1.1 ∧ a1.1 < 65536 := ⟨hb1.1, by have := hb1.2; omega⟩
      have p2 : 0 ≤ a2.1 ∧ a2.1 < 65536 := ⟨hb2.1, by have := hb2.2; omega⟩
      have hse : stepE r = (r.1 ++ [(a1.1, a2.1)], a2.2.1, a2.2.2) := by unfold stepE; rw [ha1, ha2]
      have HSE := Lib.hid hse
      have HA1 := Lib.hid ha1
      have HA2 := Lib.hid ha2
      obtain ⟨e1, l1, er1⟩ := a1
      obtain ⟨e2, l2, er2⟩ := a2
      obtain ⟨p10, p11⟩ := p1
      obtain ⟨p20, p21⟩ := p2
      simp only at p10 p11 p20 p21
      have hO0 := Lib.hid HST.out.ow
      have hI0 := Lib.hid HST.out.inat
      have hxb0 : w3.heap.size + 1 ≤ wr.heap.size := lt_of_heap HBX.out
      clear hrb hb1 hbt1 hb2 hse ha1 ha2 hlen
      have HW1 := Lib.hid (wrap_i64 p10 (Int.lt_trans p11 (by decide)))
      have HW2 := Lib.hid (wrap_i64 p20 (Int.lt_trans p21 (by decide)))
      have tok1 : True := trivial
      go_wp2
      go_region_law
        (first
          | (have _t := tok1; go_simp; go_at_call 62; refine Calls.mono (iget_any _ _ _ 2 _ (hI0.out.ext (by (repeat (first | exact Ext.refl _ | assumption | refine Ext.alloc ?_ _ | refine Ext.drew ?_ | refine Ext.drewN ?_ _ | refine Ext.setCell ?_ (by simp) _ | (refine Ext.trans ?_ (by assumption)))))) (by decide) (by decide)) ?_; clear tok1; rw [HA1.out]; rintro e w6 ⟨rfl, hi6, hm6⟩; have hM6 : Mut g wr w6 := Mut.trans (Ext.mut g (by (repeat (first | exact Ext.refl _ | assumption | refine Ext.alloc ?_ _ | refine Ext.drew ?_ | refine Ext.drewN ?_ _ | refine Ext.setCell ?_ (by simp) _ | (refine Ext.trans ?_ (by assumption)))))) hm6; have hb6 := hM6.heap HBX.out hxg; have q26 := cell_of_heap hb6 2; have f26 := free_of_heap hb6 2; simp only [List.getElem?_toArray, List.getElem?_cons_zero, List.getElem?_cons_succ] at q26; have hO6 := Ow.mut hO0.out hM6 hgx; replace hO6 := Lib.hid hO6; replace hb6 := Lib.hid hb6; replace hM6 := Lib.hid hM6; replace hi6 := Lib.hid hi6; clear hm6)
          | (have _t := hO7; go_must (refine step_app _ rfl _ _ 58 rfl info_ex Try.underlying58 rfl (by decide) (eX_len) (eX_one) (hO7.out.ext (by (repeat (first | exact Ext.refl _ | assumption | refine Ext.alloc ?_ _ | refine Ext.drew ?_ | refine Ext.drewN ?_ _ | refine Ext.setCell ?_ (by simp) _ | (refine Ext.trans ?_ (by assumption)))))) rfl ((Sl.laid (eX_len) w7 [(IntKind.i64.wrap e1, IntKind.i64.wrap e2)] _ 86 1 rfl rfl (by decide)).ext (by (repeat (first | exact Ext.refl _ | assumption | refine Ext.alloc ?_ _ | refine Ext.drew ?_ | refine Ext.drewN ?_ _ | refine Ext.setCell ?_ (by simp) _ | (refine Ext.trans ?_ (by assumption)))))) rfl (by simp only [List.length_singleton]; omega) (by simp only [List.length_singleton]; omega) (by exact Nat.le_trans hz7 (Ext.size (by (repeat (first | exact Ext.refl _ | assumption | refine Ext.alloc ?_ _ | refine Ext.drew ?_ | refine Ext.drewN ?_ _ | refine Ext.setCell ?_ (by simp) _ | (refine Ext.trans ?_ (by assumption))))))) ?_); intro A8 n8 cap8 w8 hO8 hg8 _ _; have hb8 := heap_grown (Ext.heap (a := w7) (by (repeat (first | exact Ext.refl _ | assumption | refine Ext.alloc ?_ _ | refine Ext.drew ?_ | refine Ext.drewN ?_ _ | refine Ext.setCell ?_ (by simp) _ | (refine Ext.trans ?_ (by assumption))))) hb7.out) hg8 (fun e => by have := (hO7.out.lt _ e).1; omega); have q28 := cell_of_heap hb8 2; have f28 := free_of_heap hb8 2; simp only [List.getElem?_toArray, List.getElem?_cons_zero, List.getElem?_cons_succ] at q28; rw [HW1.out, HW2.out] at hO8; replace hO8 := Lib.hid hO8; replace hg8 := Lib.hid hg8; clear hb8)
          | (go_simp; go_at_call 62; refine Calls.mono (iget_any _ _ _ 2 _ (hi6.out.ext (by (repeat (first | exact Ext.refl _ | assumption | refine Ext.alloc ?_ _ | refine Ext.drew ?_ | refine Ext.drewN ?_ _ | refine Ext.setCell ?_ (by simp) _ | (refine Ext.trans ?_ (by assumption)))))) (by decide) (by decide)) ?_; rw [HA2.out]; rintro e w7 ⟨rfl, hi7, hm7⟩; have hM67 : Mut g w6 w7 := Mut.trans (Ext.mut g (by (repeat (first | exact Ext.refl _ | assumption | refine Ext.alloc ?_ _ | refine Ext.drew ?_ | refine Ext.drewN ?_ _ | refine Ext.setCell ?_ (by simp) _ | (refine Ext.trans ?_ (by assumption)))))) hm7; have hM7 := hM6.out.trans hM67; have hb7 := hM7.heap HBX.out hxg; have q27 := cell_of_heap hb7 2; have f27 := free_of_heap hb7 2; simp only [List.getElem?_toArray, List.getElem?_cons_zero, List.getElem?_cons_succ] at q27; have q27a := fun o => ((Ext.refl w7).alloc o).at q27; have hO7 := Ow.mut hO0.out hM7 hgx; have hz7 : w3.heap.size + 1 ≤ w7.heap.size := Nat.le_trans hxb0 hM7.size; replace hO7 := Lib.hid hO7; replace hb7 := Lib.hid hb7; replace hM7 := Lib.hid hM7; replace hi7 := Lib.hid hi7; clear hm7 hM67))
      all_goals go_wp2
      all_goals (
        have hfin := XSt.step HST.out hM7.out hi7.out (by (repeat (first | exact Ext.refl _ | assumption | refine Ext.alloc ?_ _ | refine Ext.drew ?_ | refine Ext.drewN ?_ _ | refine Ext.setCell ?_ (by simp) _ | (refine Ext.trans ?_ (by assumption))))) hO8.out hg8.out
        refine ⟨⟨j + 1, n8, cap8, A8, by omega, by go_num, ?_⟩, by simp [intOf]; omega⟩
        rw [HSP.out, HSE.out]
        exact hfin.more (by (repeat (first | exact Ext.refl _ | assumption | refine Ext.alloc ?_ _ | refine Ext.drew ?_ | refine Ext.drewN ?_ _ | refine Ext.setCell ?_ (by simp) _ | (refine Ext.trans ?_ (by assumption))))))
    · obtain rfl : j = k := by omega
      have hrd := HRD.out
      rw [HR.out] at hrd
      obtain ⟨d, hd⟩ : ∃ d, doneI r.2.1 r.2.2 = d := ⟨_, rfl⟩
      have hdx : doneI (rdX bs).r.2.1 (rdX bs).r.2.2 = d := by rw [hrd]; exact hd
      have hux : ((rdX bs).u.1, (rdX bs).s.1, (rdX bs).r.1) = (um, sm, r.1) := by rw [hrd]
      have hrr := HST.out.ext.heap (heap_alloc_new w _)
      have t0 := cell_of_heap hrr 0; have t1 := cell_of_heap hrr 1; have t2 := cell_of_heap hrr 2; simp only [List.getElem?_toArray, List.getElem?_cons_zero, List.getElem?_cons_succ] at t0 t1 t2
      have tf0 := free_of_heap hrr 0; have tf1 := free_of_heap hrr 1; have tf2 := free_of_heap hrr 2
      have hX : Ext w wr := ((Ext.refl w).alloc _).trans HST.out.ext
      have hS := (HST.out.ow.sl eX_len).mono (Q' := fun q => w3.heap.size + 1 ≤ q) fun q hq => hq.1
      have HS' := Lib.hid hS
      have HX := Lib.hid hX
      have HRR := Lib.hid hrr
      have HI := Lib.hid HST.out.inat
      have HD := Lib.hid hd
      have hwx : w.heap.size < w3.heap.size := by omega
      clear hS hX hrr hd hrd HST hlen hmxx
      by_cases hd0 : d = 0
      · subst hd0
        by_cases hck : checkI (um, sm, r.1) = 0
        · have E : getX bs = ((um, sm, r.1), 0) := by rw [getX_ok H0.out hdx (by rw [hux]; exact hck), hux]
          have EE := Lib.hid E
          have HC := Lib.hid hck
          clear E hck hdx hux
          go_wp2_with (first
            | (go_at_call 64; refine (idone_any _ _ _ _ HI.out).mono ?_; rintro e w9 ⟨rfl, rfl⟩; rw [HD.out])
            | (go_at_call 53; refine (check_ino _ _ _ _ _ r.1 _ _ HS'.out (by omega)).mono ?_; rw [HC.out]; rintro e w9 ⟨rfl, he9⟩; have hb9 := he9.heap HBX.out; have b90 := cell_of_heap hb9 0; have b91 := cell_of_heap hb9 1; have b92 := cell_of_heap hb9 2; simp only [List.getElem?_toArray, List.getElem?_cons_zero, List.getElem?_cons_succ] at b90 b91 b92; have hr9 := he9.heap HRR.out; have r90 := cell_of_heap hr9 0; have r91 := cell_of_heap hr9 1; have r92 := cell_of_heap hr9 2; simp only [List.getElem?_toArray, List.getElem?_cons_zero, List.getElem?_cons_succ] at r90 r91 r92; have s90 := free_of_heap hr9 0; have s91 := free_of_heap hr9 1; have s92 := free_of_heap hr9 2; replace he9 := Lib.hid he9; clear hb9 hr9))
          refine bodyPost_ret (v := .tuple #[.agg #[.int .i64 um, .int .i64 sm, .slice A' n' cap'], .int .i64 0]) (by simp [results, Try.results57, go_sem, r90, r91, r92]) rfl ?_
          rw [EE.out]
          refine ⟨A', n', cap', rfl, ((HS'.out.ext he9.out).kp ?_).mono (fun q hq => by omega), ((((HX.out.trans he9.out).setCell (Nat.le_refl _) _).setCell (Nat.le_refl _) _).setCell (Nat.le_refl _) _)⟩
          (repeat (first | with_reducible refine Kp.setCell ?_ _ ?_ | with_reducible refine Kp.drewN ?_ _ | with_reducible refine Kp.drew ?_ | with_reducible refine Kp.alloc ?_ _ | with_reducible exact Kp.refl _ _ | (intro k hk1 hk2; simp at hk1 hk2 ⊢; omega)))
        · have E : getX bs = (zeroI, 4) := getX_form H0.out hdx (by rw [hux]; exact hck)
          have EE := Lib.hid E
          have hcb : (checkI (um, sm, r.1) != 0) = true := by simpa using hck
          clear E hck hdx hux
          go_wp2_with (first
            | (go_at_call 64; refine (idone_any _ _ _ _ HI.out).mono ?_; rintro e w9 ⟨rfl, rfl⟩; rw [HD.out])
            | (go_at_call 53; refine (check_ino _ _ _ _ _ r.1 _ _ HS'.out (by omega)).mono ?_; rintro e w9 ⟨rfl, he9⟩; have hr9 := he9.heap HRR.out; have r90 := cell_of_heap hr9 0; have r91 := cell_of_heap hr9 1; have r92 := cell_of_heap hr9 2; simp only [List.getElem?_toArray, List.getElem?_cons_zero, List.getElem?_cons_succ] at r90 r91 r92; have s90 := free_of_heap hr9 0; have s91 := free_of_heap hr9 1; have s92 := free_of_heap hr9 2; replace he9 := Lib.hid he9; clear hr9))
          refine bodyPost_ret (v := .tuple #[.agg #[.int .i64 0, .int .i64 0, .slice none 0 0], .int .i64 4]) (by simp [results, Try.results57, go_sem, r90, r91, r92]) rfl ?_
          rw [EE.out]
          exact ⟨none, 0, 0, rfl, slX_nil _, ((((HX.out.trans he9.out).setCell (Nat.le_refl _) _).setCell (Nat.le_refl _) _).setCell (Nat.le_refl _) _)⟩
      · have E : getX bs = (zeroI, d) := getX_err H0.out hdx hd0
        have EE := Lib.hid E
        have hdb : (d != 0) = true := by simpa using hd0
        clear E hd0 hdx hux
        go_wp2_with (go_at_call 64; refine (idone_any _ _ _ _ HI.out).mono ?_; rintro e w9 ⟨rfl, rfl⟩; rw [HD.out])
        refine bodyPost_ret (v := .tuple #[.agg #[.int .i64 0, .int .i64 0, .slice none 0 0], .int .i64 d]) (by simp [results, Try.results57, go_sem, t0, t1, t2]) rfl ?_
        rw [EE.out]
        exact ⟨none, 0, 0, rfl, slX_nil _, (((HX.out.setCell (Nat.le_refl _) _).setCell (Nat.le_refl _) _).setCell (Nat.le_refl _) _)⟩
end Go.Proofs.Ytdocdppimpapiaa

namespace Go.Proofs.Ytdocdppimpapiaa
open Go.RowKit

structure RXSt (gi xb : Nat) (m s : Int) (W0 wr : World) (A : Option Addr) (n cap : Nat) (r : List Ex × List Int × Int) : Prop where
  box : wr.heap[xb]? = some (.cells #[.int .i64 m, .int .i64 s, .slice A n cap] 65 (0, 0))
  ow : Ow eX 2 85 (xb + 1) wr A n cap r.1
  inat : ∃ B m' c', wr.heap[gi]? = some (.cells #[.slice B m' c', .int .i64 r.2.2] 108 (0, 0)) ∧ Sl (eI .u8) 1 (fun q => q < W0.heap.size) wr B m' c' r.2.1
  ext : Ext W0 wr
  res : wr.heap[W0.heap.size]? = some (.cells #[.int .i64 0, .int .i64 0, .slice none 0 0] 65 (0, 0))
  g_lt : gi < xb
  W0_le : W0.heap.size < gi
theorem RXSt.step {gi xb : Nat} {m s : Int} {W0 wr W8 W w9 : World} {A A9 B' : Option Addr} {n cap n9 cap9 m' c' : Nat} {r : List Ex × List Int × Int} {e : Ex} {l' : List Int} {er' : Int}
    (h : RXSt gi xb m s W0 wr A n cap r) (hk : Kp (fun q => q ≠ gi) wr W8) (hx : Ext W0 W8) (hgi : W8.heap[gi]? = some (.cells #[.slice B' m' c', .int .i64 er'] 108 (0, 0)))
    (hin : Sl (eI .u8) 1 (fun q => q < W0.heap.size) W8 B' m' c' l') (hW : Ext W8 W)
    (hO : Ow eX 2 85 (xb + 1) w9 A9 n9 cap9 (r.1 ++ [e])) (hg : W.grownBy w9 (Value.slice A n cap).ownBlock) :
    RXSt gi xb m s W0 (w9.setCell ⟨xb, 2, none⟩ (.slice A9 n9 cap9)) A9 n9 cap9 (r.1 ++ [e], l', er') := by
  have rows : ∀ q, (Value.slice A n cap).ownBlock = some q → xb + 1 ≤ q ∧ q < wr.heap.size := h.ow.lt
  have hgb := h.g_lt
  have hwb := h.W0_le
  have keep : ∀ q, q ≤ xb → q < W8.heap.size → w9.heap[q]? = W8.heap[q]? := fun q h1 h2 =>
    (hg.block q (Nat.lt_of_lt_of_le h2 hW.size) fun e => by have := (rows q e.symm).1; omega).trans (hW.block q h2)
  have hb8 : W8.heap[xb]? = _ := (hk.block xb (by show xb ≠ gi; omega) (lt_of_heap h.box)).trans h.box
  have hb9 : w9.heap[xb]? = _ := (keep xb (Nat.le_refl _) (lt_of_heap hb8)).trans hb8
  have hr8 : W8.heap[W0.heap.size]? = _ := (hk.block W0.heap.size (by show W0.heap.size ≠ gi; omega) (lt_of_heap h.res)).trans h.res
  have hx9 : Ext W0 w9 := (hx.trans hW).grown hg fun q hq => by have := (rows q hq).1; omega
  refine ⟨(heap_set _ _ _ _ _ _ _ hb9).trans rfl, hO.step fun q hq => Below.heap_setCell _ _ _ _ (by have := (hO.lt q hq).1; show q ≠ xb; omega), ⟨B', m', c', ?_, ?_⟩, hx9.setCell (p := ⟨xb, 2, none⟩) (by show W0.heap.size ≤ xb; omega) _, ?_, hgb, hwb⟩
  · exact (Below.heap_setCell _ _ _ _ (by show gi ≠ xb; omega)).trans ((keep gi (by omega) (lt_of_heap hgi)).trans hgi)
  · exact hin.step fun q h1 h2 => (Below.heap_setCell _ _ _ _ (by show q ≠ xb; omega)).trans (keep q (by omega) h2)
  · exact (Below.heap_setCell _ _ _ _ (by show W0.heap.size ≠ xb; omega)).trans ((keep W0.heap.size (by omega) (lt_of_heap hr8)).trans hr8)

set_option maxRecDepth 100000 in
set_option maxHeartbeats 6400000 in
theorem rget28_any (A : Option Addr) (m c : Nat) (bs : List Int) (Q : Nat → Prop) (w : World) (h : Sl (eI .u8) 1 Q w A m c bs) (hb : Bt bs) :
    Calls Try.prog 59 #[.slice A m c] w (RetIn (getX bs) w) := by
  have HL := Lib.hid h.len
  have H := Lib.hid (h.in'.mono (Q' := fun q => q < w.heap.size) fun _ hk => hk.2)
  have HB := Lib.hid hb
  clear h hb
  have hr0 := heap_alloc_new w (.cells #[.int .i64 0, .int .i64 0, .slice none 0 0] 65)
  have r0 := cell_of_heap hr0 0; have r1 := cell_of_heap hr0 1; have r2 := cell_of_heap hr0 2; simp only [List.getElem?_toArray, List.getElem?_cons_zero, List.getElem?_cons_succ] at r0 r1 r2
  by_cases h0 : bs = []
  · subst h0
    obtain rfl : m = 0 := HL.out
    rw [getX_nil]
    clear hr0
    go_enter Try.func59, Try.ntmps59
    go_wp2
    refine bodyPost_ret (v := .tuple #[.agg #[.int .i64 0, .int .i64 0, .slice none 0 0], .int .i64 0]) (by simp [results, Try.results59, go_sem, r0, r1, r2]) rfl ⟨none, 0, 0, rfl, slX_nil _, ?_⟩
    (repeat (first | exact Ext.refl _ | assumption | refine Ext.alloc ?_ _ | refine Ext.drew ?_ | refine Ext.drewN ?_ _ | refine Ext.setCell ?_ (by simp) _ | (refine Ext.trans ?_ (by assumption))))
  have hm0 : ((m : Int) == 0) = false := by
    have : m ≠ 0 := fun e => h0 (List.eq_nil_of_length_eq_zero (by rw [← HL.out]; exact e))
    simp; omega
  obtain ⟨u, hu⟩ : ∃ u, uptoI bs 0 1 2 = u := ⟨_, rfl⟩
  have hub := uptoI_bd HB.out 0 1 (m := 2) (by decide)
  have hubt := uptoI_bt HB.out 0 1 2
  rw [hu] at hub hubt
  obtain ⟨v, hv⟩ : ∃ v, uptoI u.2.1 u.2.2 1 8 = v := ⟨_, rfl⟩
  have hvb := uptoI_bd hubt u.2.2 1 (m := 8) (by decide)
  have hvbt := uptoI_bt hubt u.2.2 1 8
  rw [hv] at hvb hvbt
  obtain ⟨s, hs⟩ : ∃ s, getI v.2.1 v.2.2 4 = s := ⟨_, rfl⟩
  have hsb := getI_bd hvbt v.2.2 4
  have hsbt := getI_bt hvbt v.2.2 4
  rw [hs] at hsb hsbt
  obtain ⟨hsb0, hsb1⟩ := hsb
  have hsb1 := lt4 hsb1
  obtain ⟨k, hk⟩ : ∃ k : Nat, v.1 = (k : Int) := ⟨v.1.toNat, by omega⟩
  have hk8 : k ≤ 8 := by omega
  have hrd : rdX bs = ⟨u, v, s, readE s.2.1 s.2.2 k⟩ := by
    unfold rdX
    simp only
    rw [hu, hv, hs, hk, Int.toNat_natCast]
  have HU := Lib.hid hu
  have HV := Lib.hid hv
  have HS := Lib.hid hs
  have HK := Lib.hid hk
  have HSB := Lib.hid hsbt
  have HUB := Lib.hid hubt
  have HVB := Lib.hid hvbt
  have H0 := Lib.hid h0
  have HRD := Lib.hid hrd
  obtain ⟨um, ul, ue⟩ := u
  obtain ⟨vm, vl, ve⟩ := v
  obtain ⟨sm, sl, se⟩ := s
  simp only at hub hvb hsb0 hsb1 HSB HUB HVB hk
  obtain ⟨hub0, hub1⟩ := hub
  clear hubt hvbt hsbt hu hv hs h0 hrd hvb hk
  replace hr0 := Lib.hid hr0
  go_enter Try.func59, Try.ntmps59
  go_wp2_with fail
  refine (upto01_any _ _ _ _ _ 1 _ _ _ (H.out.ext ((Ext.refl _).alloc _)) HB.out (by decide) (by decide)).mono ?_
  rw [HU.out]
  rintro e w2 ⟨B2, m2, c2, rfl, hs2, he2⟩
  have hX2 := ((Ext.refl w).alloc _).trans he2
  have hr2 := he2.heap hr0.out
  have hz2 := he2.size
  replace hs2 := Lib.hid hs2
  replace hX2 := Lib.hid hX2
  replace hr2 := Lib.hid hr2
  clear he2
  go_wp2_with fail
  refine (upto01_any _ _ _ _ _ 1 _ _ _ (hs2.out.ext ((Ext.refl _).alloc _)) HUB.out (by decide) (by decide)).mono ?_
  rw [HV.out, HK.out]
  rintro e w3 ⟨B3, m3, c3, rfl, hs3, he3⟩
  have hi3 := he3.heap (heap_alloc_new w2 _)
  have a0 := cell_of_heap hi3 0; have a1 := cell_of_heap hi3 1; simp only [List.getElem?_toArray, List.getElem?_cons_zero, List.getElem?_cons_succ] at a0 a1
  have f0 := free_of_heap hi3 0; have f1 := free_of_heap hi3 1
  have hX3 := (hX2.out.alloc _).trans he3
  have hr3 := he3.heap (((Ext.refl w2).alloc _).heap hr2.out)
  have hz3 := he3.size
  replace hs3 := Lib.hid hs3
  replace hX3 := Lib.hid hX3
  replace hr3 := Lib.hid hr3
  replace hi3 := Lib.hid hi3
  clear he3
  go_wp2_with fail
  have hw2 : w.heap.size ≤ w2.heap.size := hX2.out.size
  have hX3' : Ext w ((w3.setCell ⟨w2.heap.size, 0, none⟩ (.slice B3 m3 c3)).setCell ⟨w2.heap.size, 1, none⟩ (.int .i64 ve)) := (hX3.out.setCell hw2 _).setCell hw2 _
  refine (get01_any _ _ _ _ _ 4 _ _ (hs3.out.old hX3.out hX3') HVB.out (by decide) (by decide)).mono ?_
  rw [HS.out]
  rintro e w4 ⟨B4, m4, c4, rfl, hs4, he4⟩
  have hw0 : w.heap.size + 1 ≤ w2.heap.size := by simpa using hz2
  have hi4 := he4.heap (heap_set _ _ _ _ _ _ _ (heap_set _ _ _ _ _ _ _ hi3.out))
  simp only [List.setIfInBounds_toArray, List.set_cons_zero, List.set_cons_succ] at hi4
  have b0 := cell_of_heap hi4 0; have b1 := cell_of_heap hi4 1; simp only [List.getElem?_toArray, List.getElem?_cons_zero, List.getElem?_cons_succ] at b0 b1
  have g0 := free_of_heap hi4 0; have g1 := free_of_heap hi4 1
  have hX4 := hX3'.trans he4
  have hz4 := he4.size
  have hr4 : w4.heap[w.heap.size]? = some (.cells #[.int .i64 0, .int .i64 0, .slice none 0 0] 65 (0, 0)) := he4.heap ((Below.heap_setCell _ _ _ _ (by show w.heap.size ≠ w2.heap.size; omega)).trans ((Below.heap_setCell _ _ _ _ (by show w.heap.size ≠ w2.heap.size; omega)).trans hr3.out))
  have hw24 : w2.heap.size < w4.heap.size := lt_of_heap hi4
  obtain ⟨W4, hW4⟩ : ∃ W4, (w4.setCell ⟨w2.heap.size, 0, none⟩ (.slice B4 m4 c4)).setCell ⟨w2.heap.size, 1, none⟩ (.int .i64 se) = W4 := ⟨_, rfl⟩
  have hX4' : Ext w W4 := by rw [← hW4]; exact (hX4.setCell hw2 _).setCell hw2 _
  have hs4' := hs4.old hX4 hX4'
  have hsz4 : W4.heap.size = w4.heap.size := by rw [← hW4]; simp
  have hi4' : W4.heap[w2.heap.size]? = some (.cells #[.slice B4 m4 c4, .int .i64 se] 108 (0, 0)) := by rw [← hW4]; exact (heap_set _ _ _ _ _ _ _ (heap_set _ _ _ _ _ _ _ hi4)).trans rfl
  have hr4' : W4.heap[w.heap.size]? = some (.cells #[.int .i64 0, .int .i64 0, .slice none 0 0] 65 (0, 0)) := by
    rw [← hW4]
    exact (Below.heap_setCell _ _ _ _ (by show w.heap.size ≠ w2.heap.size; omega)).trans ((Below.heap_setCell _ _ _ _ (by show w.heap.size ≠ w2.heap.size; omega)).trans hr4)
  have hxn : (W4.alloc (.cells #[.int .i64 um, .int .i64 sm, .slice none 0 0] 65)).heap[w4.heap.size]? = some (.cells #[.int .i64 um, .int .i64 sm, .slice none 0 0] 65 (0, 0)) := by
    have := heap_alloc_new W4 (.cells #[.int .i64 um, .int .i64 sm, .slice none 0 0] 65)
    rwa [hsz4] at this
  have hal := (Ext.refl W4).alloc (.cells #[.int .i64 um, .int .i64 sm, .slice none 0 0] 65)
  have hst : RXSt w2.heap.size w4.heap.size um sm w (W4.alloc (.cells #[.int .i64 um, .int .i64 sm, .slice none 0 0] 65)) none 0 0 (readE sl se 0) :=
    ⟨hxn, Ow.nil _, ⟨B4, m4, c4, hal.heap hi4', hs4'.ext hal⟩, hX4'.trans hal, hal.heap hr4', hw24, by omega⟩
  replace hst := Lib.hid hst
  have HW4 := Lib.hid hW4
  have hgw : w.heap.size < w2.heap.size := by omega
  have hgx : w2.heap.size ≠ w4.heap.size := by omega
  clear hX3' hi4 hX4 hz4 hr4 hX4' hs4' hsz4 hi4' hr4' hxn hal hW4 hs4 he4 hw0
  go_wp2
  go_loopw [9] (fun i wr => ∃ (j n' cap' : Nat) (A' : Option Addr), j ≤ k ∧ i = .int .u64 j ∧ RXSt w2.heap.size w4.heap.size um sm w wr A' n' cap' (readE sl se j)) (fun i _ => k - (intOf i).toNat)
  case atStart => exact ⟨0, 0, 0, none, Nat.zero_le _, rfl, by rw [HW4.out]; exact hst.out⟩
  case round =>
    clear hst HW4
    obtain ⟨j, n', cap', A', hj, rfl, hst⟩ := hrel
    obtain ⟨hrb, hrl⟩ := readE_ok HSB.out se j
    obtain ⟨r, hr⟩ : ∃ r, readE sl se j = r := ⟨_, rfl⟩
    have hstep : readE sl se (j + 1) = stepE r := by rw [← hr]; rfl
    rw [hr] at hst hrb hrl
    have HSP := Lib.hid hstep
    have HR := Lib.hid hr
    have HST := Lib.hid hst
    have hbx := hst.box
    obtain ⟨B, m', c', hgc, hin⟩ := hst.inat
    have q0 := cell_of_heap hbx 0; have q1 := cell_of_heap hbx 1; have q2 := cell_of_heap hbx 2; simp only [List.getElem?_toArray, List.getElem?_cons_zero, List.getElem?_cons_succ] at q0 q1 q2
    have p0 := cell_of_heap hgc 0; have p1 := cell_of_heap hgc 1; simp only [List.getElem?_toArray, List.getElem?_cons_zero, List.getElem?_cons_succ] at p0 p1
    have HBX := Lib.hid hbx
    have HGC := Lib.hid hgc
    have HIN := Lib.hid hin
    have hlen := hst.ow.len
    have hrl8 : r.1.length ≤ 8 := by omega
    have hn8 : n' ≤ 8 := by omega
    clear hst hr hstep hbx hgc hin
    by_cases hlt : j < k
    · obtain ⟨a1, ha1⟩ : ∃ a1, getI r.2.1 r.2.2 2 = a1 := ⟨_, rfl⟩
      have hb1 := getI_bd hrb r.2.2 2
      have hbt1 := getI_bt hrb r.2.2 2
      rw [ha1] at hb1 hbt1
      obtain ⟨a2, ha2⟩ : ∃ a2, getI a1.2.1 a1.2.2 2 = a2 := ⟨_, rfl⟩
      have hb2 := getI_bd hbt1 a1.2.2 2
      rw [ha2] at hb2
      have p1 : 0 ≤ a1.1 ∧ a1.1 < 65536 := ⟨hb1.1, by have := hb1.2; omega⟩
      have p2 : 0 ≤ a2.1 ∧ a2.1 < 65536 := ⟨hb2.1, by have := hb2.2; omega⟩
      have hse : stepE r = (r.1 ++ [(a1.1, a2.1)], a2.2.1, a2.2.2) := by unfold stepE; rw [ha1, ha2]
      have HSE := Lib.hid hse
      have HA1 := Lib.hid ha1
      have HA2 := Lib.hid ha2
      obtain ⟨e1, l1, er1⟩ := a1
      obtain ⟨e2, l2, er2⟩ := a2
      obtain ⟨p10, p11⟩ := p1
      obtain ⟨p20, p21⟩ := p2
      simp only at p10 p11 p20 p21
      have HRB := Lib.hid hrb
      have HB1 := Lib.hid hbt1
      clear hrb hb1 hbt1 hb2 hse ha1 ha2 hlen
      go_wp2_with fail
      refine (get01_any _ _ _ _ _ 2 _ _ HIN.out HRB.out (by decide) (by decide)).mono ?_
      rw [HA1.out]
      rintro e w5 ⟨B5, m5, c5, rfl, hs5, he5⟩
      have HS5 := Lib.hid hs5
      have HE5 := Lib.hid he5
      have X5 : Ext w w5 := HST.out.ext.trans he5
      have Z5 := X5.size
      have Y5 := he5.size
      replace X5 := Lib.hid X5
      clear hs5 he5
      go_wp2_with fail
      refine (get01_any _ _ _ _ _ 2 _ _ (HS5.out.ext ((Ext.refl _).alloc _)) HB1.out (by decide) (by decide)).mono ?_
      rw [HA2.out]
      rintro e w6 ⟨B6, m6, c6, rfl, hs6, he6⟩
      have hj6 := he6.heap (heap_alloc_new w5 _)
      have x0 := cell_of_heap hj6 0; have x1 := cell_of_heap hj6 1; simp only [List.getElem?_toArray, List.getElem?_cons_zero, List.getElem?_cons_succ] at x0 x1
      have y0 := free_of_heap hj6 0; have y1 := free_of_heap hj6 1
      have hE6 : Ext wr w6 := (HE5.out.alloc _).trans he6
      have hg6 := hE6.heap HGC.out
      have z0 := cell_of_heap hg6 0; have z1 := cell_of_heap hg6 1; simp only [List.getElem?_toArray, List.getElem?_cons_zero, List.getElem?_cons_succ] at z0 z1
      have v0 := free_of_heap hg6 0; have v1 := free_of_heap hg6 1
      have X6 := (X5.out.alloc (.cells #[.slice B5 m5 c5, .int .i64 er1] 108)).trans he6
      have gl := lt_of_heap HGC.out
      have xl := lt_of_heap HBX.out
      have hne : w2.heap.size ≠ w5.heap.size := by omega
      obtain ⟨W8, hW8⟩ : ∃ W8, (((w6.setCell ⟨w5.heap.size, 0, none⟩ (.slice B6 m6 c6)).setCell ⟨w5.heap.size, 1, none⟩ (.int .i64 er2)).setCell ⟨w2.heap.size, 0, none⟩ (.slice B6 m6 c6)).setCell ⟨w2.heap.size, 1, none⟩ (.int .i64 er2) = W8 := ⟨_, rfl⟩
      have hk8 : Kp (fun q => q ≠ w2.heap.size) wr W8 := by
        rw [← hW8]
        refine Kp.setCell (Kp.setCell (Kp.setCell (Kp.setCell (Kp.ext (Kp.refl _ _) hE6) _ ?_) _ ?_) _ ?_) _ ?_
        · intro q h1 h2; show q ≠ w5.heap.size; omega
        · intro q h1 h2; show q ≠ w5.heap.size; omega
        · intro q h1 h2; exact h1
        · intro q h1 h2; exact h1
      have hgw' : w.heap.size ≤ w2.heap.size := Nat.le_of_lt hgw
      have hX8 : Ext w W8 := by rw [← hW8]; exact (((X6.setCell Z5 _).setCell Z5 _).setCell hgw' _).setCell hgw' _
      have hg8 : W8.heap[w2.heap.size]? = some (.cells #[.slice B6 m6 c6, .int .i64 er2] 108 (0, 0)) := by
        rw [← hW8]
        have hi8 : ((w6.setCell ⟨w5.heap.size, 0, none⟩ (.slice B6 m6 c6)).setCell ⟨w5.heap.size, 1, none⟩ (.int .i64 er2)).heap[w2.heap.size]? = some (.cells #[.slice B m' c', .int .i64 r.2.2] 108 (0, 0)) :=
          (Below.heap_setCell _ _ _ _ (by show w2.heap.size ≠ w5.heap.size; omega)).trans ((Below.heap_setCell _ _ _ _ (by show w2.heap.size ≠ w5.heap.size; omega)).trans hg6)
        exact (heap_set _ _ _ _ _ _ _ (heap_set _ _ _ _ _ _ _ hi8)).trans rfl
      have hs8 := hs6.old X6 hX8
      have hb8 : W8.heap[w4.heap.size]? = _ := (hk8.block w4.heap.size (fun e => hgx e.symm) xl).trans HBX.out
      have hz8 : W8.heap.size = w6.heap.size := by rw [← hW8]; simp
      have hO8 : Ow eX 2 85 (w4.heap.size + 1) W8 A' n' cap' r.1 := HST.out.ow.step fun q hq => hk8.block q (by have := (HST.out.ow.lt q hq).1; show q ≠ w2.heap.size; omega) (HST.out.ow.lt q hq).2
      have q8 := cell_of_heap hb8 2
      have f8 := free_of_heap hb8 2
      simp only [List.getElem?_toArray, List.getElem?_cons_zero, List.getElem?_cons_succ] at q8
      have q8w := q8
      rw [← hW8] at q8w
      have hO8a := hO8.alloc (.cells #[.int .i64 e1, .int .i64 e2] 85)
      have hsl := Sl.laid eX_len W8 [(e1, e2)] #[.int .i64 e1, .int .i64 e2] 85 1 rfl rfl (by decide)
      rw [hz8] at hsl
      have hxw : w4.heap.size + 1 ≤ W8.heap.size := by have := lt_of_heap hb8; omega
      have HW8 := Lib.hid hW8
      have HK8 := Lib.hid hk8
      have HX8 := Lib.hid hX8
      have HG8 := Lib.hid hg8
      have HS8 := Lib.hid hs8
      have HO8 := Lib.hid hO8a
      have HSL := Lib.hid hsl
      have HB8 := Lib.hid hb8
      clear hW8 hk8 hX8 hg8 hs8 hO8 hO8a hsl hb8 q8 hs6 he6 hj6 hg6 hE6 X6 hz8
      go_wp2_with (at_builtin; rw [HW8.out]; refine wpList_app _ rfl _ _ 63 rfl info_rex Try.underlying63 rfl (by decide) eX_len eX_one HO8.out rfl HSL.out rfl (by simp only [List.length_singleton]; omega) (by simp only [List.length_singleton]; omega) (by exact Nat.le_trans hxw ((Ext.refl W8).alloc _).size) ?_; intro A9 n9 cap9 w9 hO9 hg9 _ _; have hb9 := heap_grown (((Ext.refl W8).alloc _).heap HB8.out) hg9 (fun e => by have := (HO8.out.lt _ e).1; omega); have q9 := cell_of_heap hb9 2; have f9 := free_of_heap hb9 2; simp only [List.getElem?_toArray, List.getElem?_cons_zero, List.getElem?_cons_succ] at q9; have HO9 := Lib.hid hO9; have HG9 := Lib.hid hg9; clear hO9 hg9 hb9)
      have hfin := RXSt.step HST.out HK8.out HX8.out HG8.out HS8.out ((Ext.refl W8).alloc _) HO9.out HG9.out
      refine ⟨⟨j + 1, n9, cap9, A9, by omega, by go_num, ?_⟩, by simp [intOf]; omega⟩
      rw [HSP.out, HSE.out]
      exact hfin
    · obtain rfl : j = k := by omega
      have hrd := HRD.out
      rw [HR.out] at hrd
      obtain ⟨d, hd⟩ : ∃ d, doneI r.2.1 r.2.2 = d := ⟨_, rfl⟩
      have hdx : doneI (rdX bs).r.2.1 (rdX bs).r.2.2 = d := by rw [hrd]; exact hd
      have hux : ((rdX bs).u.1, (rdX bs).s.1, (rdX bs).r.1) = (um, sm, r.1) := by rw [hrd]
      have hrr := HST.out.res
      have t0 := cell_of_heap hrr 0; have t1 := cell_of_heap hrr 1; have t2 := cell_of_heap hrr 2; simp only [List.getElem?_toArray, List.getElem?_cons_zero, List.getElem?_cons_succ] at t0 t1 t2
      have tf0 := free_of_heap hrr 0; have tf1 := free_of_heap hrr 1; have tf2 := free_of_heap hrr 2
      have hX : Ext w wr := HST.out.ext
      have hS := (HST.out.ow.sl eX_len).mono (Q' := fun q => w4.heap.size + 1 ≤ q) fun q hq => hq.1
      have HS' := Lib.hid hS
      have HX := Lib.hid hX
      have HRR := Lib.hid hrr
      have HD := Lib.hid hd
      have hwx : w.heap.size < w4.heap.size := by omega
      clear hS hX hrr hd hrd HST hlen
      by_cases hd0 : d = 0
      · subst hd0
        by_cases hck : checkI (um, sm, r.1) = 0
        · have E : getX bs = ((um, sm, r.1), 0) := by rw [getX_ok H0.out hdx (by rw [hux]; exact hck), hux]
          have EE := Lib.hid E
          have HC := Lib.hid hck
          clear E hck hdx hux
          go_wp2_with (first
            | (go_at_call 68; refine (done01_any _ _ _ _ _ _ _ HIN.out).mono ?_; rintro e w8 ⟨rfl, he8⟩; rw [HD.out]; have hb8 := he8.heap HBX.out; have b80 := cell_of_heap hb8 0; have b81 := cell_of_heap hb8 1; have b82 := cell_of_heap hb8 2; simp only [List.getElem?_toArray, List.getElem?_cons_zero, List.getElem?_cons_succ] at b80 b81 b82; have hr8 := he8.heap HRR.out; have r80 := cell_of_heap hr8 0; have r81 := cell_of_heap hr8 1; have r82 := cell_of_heap hr8 2; simp only [List.getElem?_toArray, List.getElem?_cons_zero, List.getElem?_cons_succ] at r80 r81 r82; have s80 := free_of_heap hr8 0; have s81 := free_of_heap hr8 1; have s82 := free_of_heap hr8 2; replace he8 := Lib.hid he8; replace hb8 := Lib.hid hb8; replace hr8 := Lib.hid hr8)
            | (go_at_call 54; refine (rcheck_ino _ _ _ _ _ r.1 _ _ (HS'.out.ext he8.out) (by omega)).mono ?_; rw [HC.out]; rintro e w9 ⟨rfl, he9⟩; have hb9 := he9.heap hb8.out; have b90 := cell_of_heap hb9 0; have b91 := cell_of_heap hb9 1; have b92 := cell_of_heap hb9 2; simp only [List.getElem?_toArray, List.getElem?_cons_zero, List.getElem?_cons_succ] at b90 b91 b92; have hr9 := he9.heap hr8.out; have r90 := cell_of_heap hr9 0; have r91 := cell_of_heap hr9 1; have r92 := cell_of_heap hr9 2; simp only [List.getElem?_toArray, List.getElem?_cons_zero, List.getElem?_cons_succ] at r90 r91 r92; have s90 := free_of_heap hr9 0; have s91 := free_of_heap hr9 1; have s92 := free_of_heap hr9 2; replace he9 := Lib.hid he9; clear hb9 hr9))
          refine bodyPost_ret (v := .tuple #[.agg #[.int .i64 um, .int .i64 sm, .slice A' n' cap'], .int .i64 0]) (by simp [results, Try.results59, go_sem, r90, r91, r92]) rfl ?_
          rw [EE.out]
          refine ⟨A', n', cap', rfl, (((HS'.out.ext he8.out).ext he9.out).kp ?_).mono (fun q hq => by omega), (((((HX.out.trans he8.out).trans he9.out).setCell (Nat.le_refl _) _).setCell (Nat.le_refl _) _).setCell (Nat.le_refl _) _)⟩
          (repeat (first | with_reducible refine Kp.setCell ?_ _ ?_ | with_reducible refine Kp.drewN ?_ _ | with_reducible refine Kp.drew ?_ | with_reducible refine Kp.alloc ?_ _ | with_reducible exact Kp.refl _ _ | (intro k hk1 hk2; simp at hk1 hk2 ⊢; omega)))
        · have E : getX bs = (zeroI, 4) := getX_form H0.out hdx (by rw [hux]; exact hck)
          have EE := Lib.hid E
          have hcb : (checkI (um, sm, r.1) != 0) = true := by simpa using hck
          clear E hck hdx hux
          go_wp2_with (first
            | (go_at_call 68; refine (done01_any _ _ _ _ _ _ _ HIN.out).mono ?_; rintro e w8 ⟨rfl, he8⟩; rw [HD.out]; have hb8 := he8.heap HBX.out; have b80 := cell_of_heap hb8 0; have b81 := cell_of_heap hb8 1; have b82 := cell_of_heap hb8 2; simp only [List.getElem?_toArray, List.getElem?_cons_zero, List.getElem?_cons_succ] at b80 b81 b82; have hr8 := he8.heap HRR.out; have r80 := cell_of_heap hr8 0; have r81 := cell_of_heap hr8 1; have r82 := cell_of_heap hr8 2; simp only [List.getElem?_toArray, List.getElem?_cons_zero, List.getElem?_cons_succ] at r80 r81 r82; have s80 := free_of_heap hr8 0; have s81 := free_of_heap hr8 1; have s82 := free_of_heap hr8 2; replace he8 := Lib.hid he8; replace hb8 := Lib.hid hb8; replace hr8 := Lib.hid hr8)
            | (go_at_call 54; refine (rcheck_ino _ _ _ _ _ r.1 _ _ (HS'.out.ext he8.out) (by omega)).mono ?_; rintro e w9 ⟨rfl, he9⟩; have hr9 := he9.heap hr8.out; have r90 := cell_of_heap hr9 0; have r91 := cell_of_heap hr9 1; have r92 := cell_of_heap hr9 2; simp only [List.getElem?_toArray, List.getElem?_cons_zero, List.getElem?_cons_succ] at r90 r91 r92; have s90 := free_of_heap hr9 0; have s91 := free_of_heap hr9 1; have s92 := free_of_heap hr9 2; replace he9 := Lib.hid he9; clear hr9))
          refine bodyPost_ret (v := .tuple #[.agg #[.int .i64 0, .int .i64 0, .slice none 0 0], .int .i64 4]) (by simp [results, Try.results59, go_sem, r90, r91, r92]) rfl ?_
          rw [EE.out]
          exact ⟨none, 0, 0, rfl, slX_nil _, (((((HX.out.trans he8.out).trans he9.out).setCell (Nat.le_refl _) _).setCell (Nat.le_refl _) _).setCell (Nat.le_refl _) _)⟩
      · have E : getX bs = (zeroI, d) := getX_err H0.out hdx hd0
        have EE := Lib.hid E
        have hdb : (d != 0) = true := by simpa using hd0
        clear E hd0 hdx hux
        go_wp2_with (go_at_call 68; refine (done01_any _ _ _ _ _ _ _ HIN.out).mono ?_; rintro e w8 ⟨rfl, he8⟩; rw [HD.out]; have hr8 := he8.heap HRR.out; have r80 := cell_of_heap hr8 0; have r81 := cell_of_heap hr8 1; have r82 := cell_of_heap hr8 2; simp only [List.getElem?_toArray, List.getElem?_cons_zero, List.getElem?_cons_succ] at r80 r81 r82; have s80 := free_of_heap hr8 0; have s81 := free_of_heap hr8 1; have s82 := free_of_heap hr8 2; replace he8 := Lib.hid he8; clear hr8)
        refine bodyPost_ret (v := .tuple #[.agg #[.int .i64 0, .int .i64 0, .slice none 0 0], .int .i64 d]) (by simp [results, Try.results59, go_sem, r80, r81, r82]) rfl ?_
        rw [EE.out]
        exact ⟨none, 0, 0, rfl, slX_nil _, ((((HX.out.trans he8.out).setCell (Nat.le_refl _) _).setCell (Nat.le_refl _) _).setCell (Nat.le_refl _) _)⟩
end Go.Proofs.Ytdocdppimpapiaa

namespace Go.Proofs.Ytdocdppimpapiaa
open Go.RowKit

theorem take_beB (n : Int) (k : Nat) (r : List Int) : (beB n k ++ r).take k = beB n k := by
  have := List.take_left (l₁ := beB n k) (l₂ := r)
  rwa [beB_len] at this
theorem drop_beB (n : Int) (k : Nat) (r : List Int) : (beB n k ++ r).drop k = r := by
  have := List.drop_left (l₁ := beB n k) (l₂ := r)
  rwa [beB_len] at this
theorem getI_put {n : Int} {k : Nat} {r : List Int} (h0 : 0 ≤ n) (h1 : n < 256 ^ k) : getI (beB n k ++ r) 0 k = (n, r, 0) := by
  unfold getI
  rw [if_pos rfl, if_neg (by rw [List.length_append, beB_len]; omega), take_beB, drop_beB, numB_beB k n h0 h1]
theorem uptoI_put {n most : Int} {k : Nat} {r : List Int} (h0 : 0 ≤ n) (h1 : n < 256 ^ k) (hm : n ≤ most) : uptoI (beB n k ++ r) 0 k most = (n, r, 0) := by
  unfold uptoI
  rw [if_pos rfl, if_neg (by rw [List.length_append, beB_len]; omega), take_beB, drop_beB, numB_beB k n h0 h1, if_neg (by omega)]
theorem readE_put {xs : List Ex} (hx : ∀ e ∈ xs, okE e = true) : ∀ k, k ≤ xs.length → readE (xs.flatMap encE) 0 k = (xs.take k, (xs.drop k).flatMap encE, 0)
  | 0, _ => by simp [readE]
  | k + 1, hk => by
    have ih := readE_put hx k (by omega)
    have hxk : xs[k]? = some xs[k] := List.getElem?_eq_getElem (by omega)
    have hbd := okE_bd (hx xs[k] (List.getElem_mem _))
    have hd : xs.drop k = xs[k] :: xs.drop (k + 1) := List.drop_eq_getElem_cons (by omega)
    have e1 : getI ((xs.drop k).flatMap encE) 0 2 = (xs[k].1, beB xs[k].2 2 ++ (xs.drop (k + 1)).flatMap encE, 0) := by
      rw [hd, List.flatMap_cons, encE, List.append_assoc]
      exact getI_put (by omega) (p256_2 (by omega))
    have e2 : getI (beB xs[k].2 2 ++ (xs.drop (k + 1)).flatMap encE) 0 2 = (xs[k].2, (xs.drop (k + 1)).flatMap encE, 0) := getI_put (by omega) (p256_2 (by omega))
    show stepE (readE (xs.flatMap encE) 0 k) = _
    rw [ih]
    unfold stepE
    simp only
    rw [e1]
    simp only
    rw [e2]
    simp only
    rw [take_snoc hxk]
theorem encI_form (m s : Int) (xs : List Ex) : encI (m, s, xs) = beB m 1 ++ (beB xs.length 1 ++ (beB s 4 ++ xs.flatMap encE)) := by
  unfold encI putISt
  simp only
  rw [List.take_of_length_le (Nat.le_refl _)]
  simp [List.append_assoc]
theorem p256_8' {x : Int} (h : x ≤ 8) : x < 256 ^ 1 := by omega
theorem getX_put {m s : Int} {xs : List Ex} (hc : checkI (m, s, xs) = 0) : getX (encI (m, s, xs)) = ((m, s, xs), 0) := by
  obtain ⟨⟨m0, m2⟩, ⟨s0, s5⟩, x8, hf, _, _⟩ := checkI_ok hc
  have hx := fineB_mem hf
  have hne : encI (m, s, xs) ≠ [] := by
    intro e
    have := congrArg List.length e
    rw [encI_form, List.length_append, beB_len] at this
    simp at this
  have hrd : rdX (encI (m, s, xs)) = ⟨(m, beB xs.length 1 ++ (beB s 4 ++ xs.flatMap encE), 0), (xs.length, beB s 4 ++ xs.flatMap encE, 0), (s, xs.flatMap encE, 0), (xs, [], 0)⟩ := by
    unfold rdX
    rw [encI_form, uptoI_put m0 (p256_8' (by omega)) m2]
    simp only
    rw [uptoI_put (by omega) (p256_8' (by omega)) (by omega)]
    simp only
    rw [getI_put s0 (p256_4 (by omega))]
    simp only
    rw [Int.toNat_natCast, readE_put hx xs.length (Nat.le_refl _), List.take_of_length_le (Nat.le_refl _), List.drop_length]
    rfl
  have hd : doneI (rdX (encI (m, s, xs))).r.2.1 (rdX (encI (m, s, xs))).r.2.2 = 0 := by rw [hrd]; rfl
  have hu : ((rdX (encI (m, s, xs))).u.1, (rdX (encI (m, s, xs))).s.1, (rdX (encI (m, s, xs))).r.1) = (m, s, xs) := by rw [hrd]
  rw [getX_ok hne hd (by rw [hu]; exact hc), hu]
theorem encI_bt (x : Ino) : Bt (encI x) := by
  obtain ⟨m, s, xs⟩ := x
  rw [encI_form]
  intro y hy
  simp only [List.mem_append, List.mem_flatMap, encE] at hy
  rcases hy with hy | hy | hy | ⟨e, _, hy | hy⟩ <;> exact beB_bt _ _ y hy
theorem encI_len (x : Ino) : (encI x).length = 6 + x.2.2.length * 4 := by
  unfold encI
  rw [putISt_len, List.take_of_length_le (Nat.le_refl _)]

theorem beB_numB2 : ∀ (l : List Int), Bt l → beB (numB l) l.length = l := by
  refine snoc_ind (fun _ => rfl) fun l c ih h => ?_
  have h1 := ih (fun x hx => h x (by simp [hx]))
  have h2 := h c (by simp)
  rw [numB_snoc, List.length_append, List.length_singleton, beB, show (numB l * 256 + c) / 256 = numB l by omega, show (numB l * 256 + c) % 256 = c by omega, h1]
theorem getI_ok2 {l : List Int} (hb : Bt l) {er : Int} {k : Nat} (h : (getI l er k).2.2 = 0) : er = 0 ∧ l = beB (getI l er k).1 k ++ (getI l er k).2.1 := by
  unfold getI at h ⊢
  split at h
  · rename_i he
    split at h
    · exact absurd h (by decide)
    · rename_i hk
      refine ⟨he, ?_⟩
      rw [if_pos he, if_neg hk]
      have h1 := beB_numB2 (l.take k) (hb.take k)
      rw [show (l.take k).length = k by rw [List.length_take]; omega] at h1
      show l = beB (numB (l.take k)) k ++ l.drop k
      rw [h1, List.take_append_drop]
  · rename_i he
    exact absurd h he
theorem uptoI_ok2 {l : List Int} (hb : Bt l) {er most : Int} {k : Nat} (h : (uptoI l er k most).2.2 = 0) : er = 0 ∧ l = beB (uptoI l er k most).1 k ++ (uptoI l er k most).2.1 := by
  unfold uptoI at h ⊢
  split at h
  · rename_i he
    split at h
    · exact absurd h (by decide)
    · rename_i hk
      split at h
      · exact absurd h (by decide)
      · rename_i hm
        refine ⟨he, ?_⟩
        rw [if_pos he, if_neg hk, if_neg hm]
        have h1 := beB_numB2 (l.take k) (hb.take k)
        rw [show (l.take k).length = k by rw [List.length_take]; omega] at h1
        show l = beB (numB (l.take k)) k ++ l.drop k
        rw [h1, List.take_append_drop]
  · rename_i he
    exact absurd h he
theorem doneI_zero2 {l : List Int} {er : Int} (h : doneI l er = 0) : er = 0 ∧ l = [] := by
  unfold doneI at h
  split at h
  · split at h
    · exact ⟨by assumption, by assumption⟩
    · exact absurd h (by decide)
  · rename_i he
    exact absurd h he
theorem readE_back {l : List Int} (hb : Bt l) {er : Int} : ∀ k, (readE l er k).2.2 = 0 → er = 0 ∧ l = (readE l er k).1.flatMap encE ++ (readE l er k).2.1
  | 0, h => ⟨h, rfl⟩
  | k + 1, h => by
    have hbt := (readE_ok hb er k).1
    have ih := readE_back hb (er := er) k
    have e : readE l er (k + 1) = stepE (readE l er k) := rfl
    rw [e] at h ⊢
    generalize readE l er k = r at *
    have g1 := getI_bt hbt r.2.2 2
    obtain ⟨e2, h2⟩ := getI_ok2 g1 h
    obtain ⟨e1, h1⟩ := getI_ok2 hbt e2
    obtain ⟨e0, h0⟩ := ih e1
    refine ⟨e0, ?_⟩
    have : (stepE r).1.flatMap encE ++ (stepE r).2.1 = r.1.flatMap encE ++ (beB (getI r.2.1 r.2.2 2).1 2 ++ (beB (getI (getI r.2.1 r.2.2 2).2.1 (getI r.2.1 r.2.2 2).2.2 2).1 2 ++ (getI (getI r.2.1 r.2.2 2).2.1 (getI r.2.1 r.2.2 2).2.2 2).2.1)) := by
      simp [stepE, encE, List.flatMap_append, List.append_assoc]
    rw [this, ← h2, ← h1]
    exact h0
/-- What is got may be; put, it has these bytes, if there were any. -/
theorem getX_back {bs : List Int} (hb : Bt bs) (h : (getX bs).2 = 0) : checkI (getX bs).1 = 0 ∧ (bs ≠ [] → encI (getX bs).1 = bs) := by
  by_cases h0 : bs = []
  · subst h0
    exact ⟨by rw [getX_nil]; exact of_decide_eq_true (by kernel_rfl), fun h => absurd rfl h⟩
  by_cases hd : doneI (rdX bs).r.2.1 (rdX bs).r.2.2 = 0
  · by_cases hc : checkI ((rdX bs).u.1, (rdX bs).s.1, (rdX bs).r.1) = 0
    · rw [getX_ok h0 hd hc]
      refine ⟨hc, fun _ => ?_⟩
      obtain ⟨hd1, hd2⟩ := doneI_zero2 hd
      obtain ⟨u, hu⟩ : ∃ u, uptoI bs 0 1 2 = u := ⟨_, rfl⟩
      have hubt := uptoI_bt hb 0 1 2
      have k1 := uptoI_ok2 hb (er := 0) (most := 2) (k := 1)
      rw [hu] at hubt k1
      obtain ⟨v, hv⟩ : ∃ v, uptoI u.2.1 u.2.2 1 8 = v := ⟨_, rfl⟩
      have hvbt := uptoI_bt hubt u.2.2 1 8
      have hvb := uptoI_bd hubt u.2.2 1 (m := 8) (by decide)
      have k2 := uptoI_ok2 hubt (er := u.2.2) (most := 8) (k := 1)
      rw [hv] at hvbt k2 hvb
      obtain ⟨s, hs⟩ : ∃ s, getI v.2.1 v.2.2 4 = s := ⟨_, rfl⟩
      have hsbt := getI_bt hvbt v.2.2 4
      have k3 := getI_ok2 hvbt (er := v.2.2) (k := 4)
      rw [hs] at hsbt k3
      have hrd : rdX bs = ⟨u, v, s, readE s.2.1 s.2.2 v.1.toNat⟩ := by
        unfold rdX
        simp only
        rw [hu, hv, hs]
      rw [hrd] at hd1 hd2 ⊢
      simp only at hd1 hd2 ⊢
      have k4 := readE_back hsbt (er := s.2.2) v.1.toNat hd1
      have hlen := (readE_ok hsbt s.2.2 v.1.toNat).2
      rw [hd2, List.append_nil] at k4
      obtain ⟨q3, q4⟩ := k4
      obtain ⟨q5, q6⟩ := k3 q3
      obtain ⟨q7, q8⟩ := k2 q5
      obtain ⟨_, q9⟩ := k1 q7
      rw [encI_form, hlen, Int.toNat_of_nonneg (by omega), ← q4, ← q6, ← q8, ← q9]
    · rw [getX_form h0 hd hc] at h
      exact absurd h (by decide)
  · rw [getX_err h0 rfl hd] at h
    exact absurd h hd
theorem getX_zero {bs : List Int} (h : (getX bs).2 ≠ 0) : (getX bs).1 = zeroI := by
  by_cases h0 : bs = []
  · subst h0; rfl
  by_cases hd : doneI (rdX bs).r.2.1 (rdX bs).r.2.2 = 0
  · by_cases hc : checkI ((rdX bs).u.1, (rdX bs).s.1, (rdX bs).r.1) = 0
    · rw [getX_ok h0 hd hc] at h; exact absurd rfl h
    · rw [getX_form h0 hd hc]
  · rw [getX_err h0 rfl hd]
theorem getX_len {bs : List Int} : (getX bs).1.2.2.length ≤ 8 := by
  by_cases h : (getX bs).2 = 0
  · by_cases h0 : bs = []
    · subst h0; exact Nat.zero_le _
    by_cases hd : doneI (rdX bs).r.2.1 (rdX bs).r.2.2 = 0
    · by_cases hc : checkI ((rdX bs).u.1, (rdX bs).s.1, (rdX bs).r.1) = 0
      · rw [getX_ok h0 hd hc]; exact (checkI_ok hc).2.2.1
      · rw [getX_form h0 hd hc] at h; exact absurd h (by decide)
    · rw [getX_err h0 rfl hd] at h; exact absurd h hd
  · rw [getX_zero h]; exact Nat.zero_le _
end Go.Proofs.Ytdocdppimpapiaa

namespace Go.Proofs.Ytdocdppimpapiaa
open Go.RowKit

set_option maxRecDepth 100000 in
set_option maxHeartbeats 6400000 in
theorem inodeGets_any (A : Option Addr) (m c : Nat) (l : List Int) (Q : Nat → Prop) (w : World) (h : Sl (eI .u8) 1 Q w A m c l) (hb : Bt l) :
    Calls Try.prog 11 #[.slice A m c] w fun e w' => e = .returned (.bool true) ∧ Ext w w' := by
  have H := Lib.hid h
  have HB := Lib.hid (hb.take 100)
  have hlen : (l.take 100).length ≤ 1048576 := by rw [List.length_take]; omega
  clear h hb
  obtain ⟨bs, hbs⟩ : ∃ bs, l.take 100 = bs := ⟨_, rfl⟩
  rw [hbs] at HB hlen
  have HBS := Lib.hid hbs
  clear hbs
  have BK := fun h => getX_back HB.out h
  have hxl := getX_len (bs := bs)
  obtain ⟨r, hr⟩ : ∃ r, getX bs = r := ⟨_, rfl⟩
  rw [hr] at BK hxl
  have HR := Lib.hid hr
  clear hr
  obtain ⟨⟨xm, xs, xx⟩, er⟩ := r
  simp only at BK hxl
  have hx1 : xx.length ≤ 1000 := by omega
  have hee := beq_int_self er
  obtain ⟨ck, hck⟩ : ∃ ck, checkI (xm, xs, xx) = ck := ⟨_, rfl⟩
  have HCK := Lib.hid hck
  obtain ⟨pb, hpb⟩ : ∃ pb, putI (xm, xs, xx) = pb := ⟨_, rfl⟩
  have HPB := Lib.hid hpb
  by_cases he0 : er = 0
  · subst he0
    obtain ⟨k1, k2⟩ := BK rfl
    rw [hck] at k1
    subst k1
    have hpe : pb = encI (xm, xs, xx) := by rw [← hpb]; unfold putI; rw [if_pos hck]
    by_cases hb0 : bs = []
    · subst hb0
      have hF : eqL pb [] = false := eqL_ne (by rw [hpe, encI_len]; simp)
      have HF := Lib.hid hF
      clear BK k2 hpe hF hck hpb
      go_enter Try.func11, Try.ntmps11
      go_wp2_with (first
        | (go_at_call 21; refine (cut_any _ _ _ _ _ _ _ H.out).mono ?_; rintro e w1 ⟨A1, m1, c1, rfl, S1, rfl⟩; rw [HBS.out] at S1; obtain rfl : m1 = 0 := S1.len; replace S1 := Lib.hid S1)
        | (go_at_call 57; refine (iget28_any _ _ _ [] _ _ S1.out HB.out hlen).mono ?_; rw [HR.out]; rintro e w2 ⟨A2, n2, c2, rfl, hs2, he2⟩; replace hs2 := Lib.hid hs2; replace he2 := Lib.hid he2)
        | (go_at_call 59; refine (rget28_any _ _ _ [] _ _ (S1.out.ext (he2.out.alloc _)) HB.out).mono ?_; rw [HR.out]; rintro e w3 ⟨A3, n3, c3, rfl, hs3, he3⟩; have hy := he3.heap (heap_alloc_new w2 _); have y0 := cell_of_heap hy 0; have y1 := cell_of_heap hy 1; have y2 := cell_of_heap hy 2; simp only [List.getElem?_toArray, List.getElem?_cons_zero, List.getElem?_cons_succ] at y0 y1 y2; have y0a := fun o => ((Ext.refl w3).alloc o).at y0; have y1a := fun o => ((Ext.refl w3).alloc o).at y1; have y2a := fun o => ((Ext.refl w3).alloc o).at y2; replace hy := Lib.hid hy; replace hs3 := Lib.hid hs3; replace he3 := Lib.hid he3)
        | (go_at_call 50; refine (iput_any _ _ _ _ _ xx _ _ (hs2.out.ext ((((Ext.refl _).alloc _).trans he3.out).alloc _)) hx1).mono ?_; rw [HPB.out, HCK.out]; rintro e w4 ⟨A4, n4, c4, rfl, hs4, he4⟩; have hy4 := he4.heap (((Ext.refl w3).alloc _).heap hy.out); have hz4 := he4.heap (heap_alloc_new w3 _); have u0 := cell_of_heap hy4 0; have u1 := cell_of_heap hy4 1; have u2 := cell_of_heap hy4 2; simp only [List.getElem?_toArray, List.getElem?_cons_zero, List.getElem?_cons_succ] at u0 u1 u2; have z0 := cell_of_heap hz4 0; have z1 := cell_of_heap hz4 1; have z2 := cell_of_heap hz4 2; simp only [List.getElem?_toArray, List.getElem?_cons_zero, List.getElem?_cons_succ] at z0 z1 z2; replace hs4 := Lib.hid hs4; replace he4 := Lib.hid he4; clear hy4 hz4)
        | (go_at_call 37; refine (like28_any _ _ _ _ _ _ _ _ _ _ xx xx _ _ _ (hs2.out.ext (((((Ext.refl _).alloc _).trans he3.out).alloc _).trans he4.out)) (hs3.out.ext (((Ext.refl _).alloc _).trans he4.out)) hx1 hx1).mono ?_; rw [eqIno_self]; rintro e w5 ⟨rfl, he5⟩; replace he5 := Lib.hid he5)
        | (go_at_call 26; refine (same01_any _ _ _ _ _ _ pb [] _ _ _ (hs4.out.ext he5.out) (S1.out.ext (((((he2.out.alloc _).trans he3.out).alloc _).trans he4.out).trans he5.out))).mono ?_; rw [HF.out]; rintro e w6 ⟨rfl, hd6⟩; replace hd6 := Lib.hid hd6)
        | (go_at_call 34; refine (awake28_any _).mono ?_; rintro e w7 ⟨rfl, he7⟩))
      go_ret
      exact ⟨rfl, (((((((he2.out.alloc _).trans he3.out).alloc _).trans he4.out).trans he5.out).trans hd6.out.ext).trans he7)⟩
    · have hpe2 : pb = bs := hpe.trans (k2 hb0)
      subst hpe2
      clear BK k2 hpe hck hpb hb0
      go_enter Try.func11, Try.ntmps11
      go_wp2_with (first
        | (go_at_call 21; refine (cut_any _ _ _ _ _ _ _ H.out).mono ?_; rintro e w1 ⟨A1, m1, c1, rfl, S1, rfl⟩; rw [HBS.out] at S1; replace S1 := Lib.hid S1)
        | (go_at_call 57; refine (iget28_any _ _ _ pb _ _ S1.out HB.out hlen).mono ?_; rw [HR.out]; rintro e w2 ⟨A2, n2, c2, rfl, hs2, he2⟩; replace hs2 := Lib.hid hs2; replace he2 := Lib.hid he2)
        | (go_at_call 59; refine (rget28_any _ _ _ pb _ _ (S1.out.ext (he2.out.alloc _)) HB.out).mono ?_; rw [HR.out]; rintro e w3 ⟨A3, n3, c3, rfl, hs3, he3⟩; have hy := he3.heap (heap_alloc_new w2 _); have y0 := cell_of_heap hy 0; have y1 := cell_of_heap hy 1; have y2 := cell_of_heap hy 2; simp only [List.getElem?_toArray, List.getElem?_cons_zero, List.getElem?_cons_succ] at y0 y1 y2; have y0a := fun o => ((Ext.refl w3).alloc o).at y0; have y1a := fun o => ((Ext.refl w3).alloc o).at y1; have y2a := fun o => ((Ext.refl w3).alloc o).at y2; replace hy := Lib.hid hy; replace hs3 := Lib.hid hs3; replace he3 := Lib.hid he3)
        | (go_at_call 50; refine (iput_any _ _ _ _ _ xx _ _ (hs2.out.ext ((((Ext.refl _).alloc _).trans he3.out).alloc _)) hx1).mono ?_; rw [HPB.out, HCK.out]; rintro e w4 ⟨A4, n4, c4, rfl, hs4, he4⟩; have hy4 := he4.heap (((Ext.refl w3).alloc _).heap hy.out); have hz4 := he4.heap (heap_alloc_new w3 _); have u0 := cell_of_heap hy4 0; have u1 := cell_of_heap hy4 1; have u2 := cell_of_heap hy4 2; simp only [List.getElem?_toArray, List.getElem?_cons_zero, List.getElem?_cons_succ] at u0 u1 u2; have z0 := cell_of_heap hz4 0; have z1 := cell_of_heap hz4 1; have z2 := cell_of_heap hz4 2; simp only [List.getElem?_toArray, List.getElem?_cons_zero, List.getElem?_cons_succ] at z0 z1 z2; replace hs4 := Lib.hid hs4; replace he4 := Lib.hid he4; clear hy4 hz4)
        | (go_at_call 37; refine (like28_any _ _ _ _ _ _ _ _ _ _ xx xx _ _ _ (hs2.out.ext (((((Ext.refl _).alloc _).trans he3.out).alloc _).trans he4.out)) (hs3.out.ext (((Ext.refl _).alloc _).trans he4.out)) hx1 hx1).mono ?_; rw [eqIno_self]; rintro e w5 ⟨rfl, he5⟩; replace he5 := Lib.hid he5)
        | (go_at_call 26; refine (same01_any _ _ _ _ _ _ pb pb _ _ _ (hs4.out.ext he5.out) (S1.out.ext (((((he2.out.alloc _).trans he3.out).alloc _).trans he4.out).trans he5.out))).mono ?_; rw [eqL_self]; rintro e w6 ⟨rfl, hd6⟩; replace hd6 := Lib.hid hd6)
        | (go_at_call 34; refine (awake28_any _).mono ?_; rintro e w7 ⟨rfl, he7⟩))
      go_ret
      exact ⟨rfl, (((((((he2.out.alloc _).trans he3.out).alloc _).trans he4.out).trans he5.out).trans hd6.out.ext).trans he7)⟩
  · have he1 : (er != 0) = true := by simpa using he0
    clear BK hck hpb he0
    go_enter Try.func11, Try.ntmps11
    go_wp2_with (first
      | (go_at_call 21; refine (cut_any _ _ _ _ _ _ _ H.out).mono ?_; rintro e w1 ⟨A1, m1, c1, rfl, S1, rfl⟩; rw [HBS.out] at S1; replace S1 := Lib.hid S1)
      | (go_at_call 57; refine (iget28_any _ _ _ bs _ _ S1.out HB.out hlen).mono ?_; rw [HR.out]; rintro e w2 ⟨A2, n2, c2, rfl, hs2, he2⟩; replace hs2 := Lib.hid hs2; replace he2 := Lib.hid he2)
      | (go_at_call 59; refine (rget28_any _ _ _ bs _ _ (S1.out.ext (he2.out.alloc _)) HB.out).mono ?_; rw [HR.out]; rintro e w3 ⟨A3, n3, c3, rfl, hs3, he3⟩; have hy := he3.heap (heap_alloc_new w2 _); have y0 := cell_of_heap hy 0; have y1 := cell_of_heap hy 1; have y2 := cell_of_heap hy 2; simp only [List.getElem?_toArray, List.getElem?_cons_zero, List.getElem?_cons_succ] at y0 y1 y2; have y0a := fun o => ((Ext.refl w3).alloc o).at y0; have y1a := fun o => ((Ext.refl w3).alloc o).at y1; have y2a := fun o => ((Ext.refl w3).alloc o).at y2; replace hy := Lib.hid hy; replace hs3 := Lib.hid hs3; replace he3 := Lib.hid he3)
      | (go_at_call 50; refine (iput_any _ _ _ _ _ xx _ _ (hs2.out.ext ((((Ext.refl _).alloc _).trans he3.out).alloc _)) hx1).mono ?_; rw [HPB.out, HCK.out]; rintro e w4 ⟨A4, n4, c4, rfl, hs4, he4⟩; have hy4 := he4.heap (((Ext.refl w3).alloc _).heap hy.out); have hz4 := he4.heap (heap_alloc_new w3 _); have u0 := cell_of_heap hy4 0; have u1 := cell_of_heap hy4 1; have u2 := cell_of_heap hy4 2; simp only [List.getElem?_toArray, List.getElem?_cons_zero, List.getElem?_cons_succ] at u0 u1 u2; have z0 := cell_of_heap hz4 0; have z1 := cell_of_heap hz4 1; have z2 := cell_of_heap hz4 2; simp only [List.getElem?_toArray, List.getElem?_cons_zero, List.getElem?_cons_succ] at z0 z1 z2; replace hs4 := Lib.hid hs4; replace he4 := Lib.hid he4; clear hy4 hz4)
      | (go_at_call 37; refine (like28_any _ _ _ _ _ _ _ _ _ _ xx xx _ _ _ (hs2.out.ext (((((Ext.refl _).alloc _).trans he3.out).alloc _).trans he4.out)) (hs3.out.ext (((Ext.refl _).alloc _).trans he4.out)) hx1 hx1).mono ?_; rw [eqIno_self]; rintro e w5 ⟨rfl, he5⟩; replace he5 := Lib.hid he5)
      | (go_at_call 34; refine (awake28_any _).mono ?_; rintro e w7 ⟨rfl, he7⟩))
    go_ret
    exact ⟨rfl, ((((((he2.out.alloc _).trans he3.out).alloc _).trans he4.out).trans he5.out).trans he7)⟩
end Go.Proofs.Ytdocdppimpapiaa

namespace Go.Proofs.Ytdocdppimpapiaa
open Go.RowKit

def nodeX (i : Int) (bs : List Int) : Ino × Int := if i = 1 ∧ bs = [] then ((2, 0, []), 0) else getX bs

set_option maxRecDepth 100000 in
set_option maxHeartbeats 3200000 in
theorem node_any (i : Int) (A : Option Addr) (m c : Nat) (bs : List Int) (Q : Nat → Prop) (w : World) (h : Sl (eI .u8) 1 Q w A m c bs) (hb : Bt bs) (hl : bs.length ≤ 1048576) :
    Calls Try.prog 48 #[.int .i64 i, .slice A m c] w (RetIn (nodeX i bs) w) := by
  have HL := Lib.hid h.len
  have H := Lib.hid h
  have HB := Lib.hid hb
  clear h hb
  have hr0 := heap_alloc_new w (.cells #[.int .i64 0, .int .i64 0, .slice none 0 0] 60)
  have r0 := cell_of_heap hr0 0; have r1 := cell_of_heap hr0 1; have r2 := cell_of_heap hr0 2; simp only [List.getElem?_toArray, List.getElem?_cons_zero, List.getElem?_cons_succ] at r0 r1 r2
  replace hr0 := Lib.hid hr0
  by_cases h1 : i = 1 ∧ bs = []
  · obtain ⟨rfl, rfl⟩ := h1
    obtain rfl : m = 0 := HL.out
    have E : nodeX 1 [] = ((2, 0, []), 0) := rfl
    rw [E]
    clear E
    go_enter Try.func48, Try.ntmps48
    go_wp2
    refine bodyPost_ret (v := .tuple #[.agg #[.int .i64 2, .int .i64 0, .slice none 0 0], .int .i64 0]) (by simp [results, Try.results48, go_sem, r0, r1, r2]) rfl ⟨none, 0, 0, rfl, slX_nil _, ?_⟩
    (repeat (first | exact Ext.refl _ | assumption | refine Ext.alloc ?_ _ | refine Ext.drew ?_ | refine Ext.drewN ?_ _ | refine Ext.setCell ?_ (by simp) _ | (refine Ext.trans ?_ (by assumption))))
  · have E : nodeX i bs = getX bs := by unfold nodeX; rw [if_neg h1]
    rw [E]
    have hi : (i == 1) = false ∨ ((i == 1) = true ∧ ((m : Int) == 0) = false) := by
      by_cases hi : i = 1
      · refine .inr ⟨by simpa using hi, ?_⟩
        have : m ≠ 0 := fun e => h1 ⟨hi, List.eq_nil_of_length_eq_zero (by rw [← HL.out]; exact e)⟩
        simp; omega
      · exact .inl (by simpa using hi)
    clear E h1 r0 r1 r2
    obtain ⟨r, hr⟩ : ∃ r, getX bs = r := ⟨_, rfl⟩
    have HR := Lib.hid hr
    rw [hr]
    clear hr
    obtain ⟨⟨xm, xs, xx⟩, er⟩ := r
    rcases hi with hi | ⟨hi, hm⟩
    · go_enter Try.func48, Try.ntmps48
      go_wp2_with (go_at_call 57; refine (iget28_any _ _ _ bs _ _ (H.out.ext ((Ext.refl _).alloc _)) HB.out hl).mono ?_; rw [HR.out]; rintro e w2 ⟨A2, n2, c2, rfl, hs2, he2⟩; have hr2 := he2.heap hr0.out; have t0 := cell_of_heap hr2 0; have t1 := cell_of_heap hr2 1; have t2 := cell_of_heap hr2 2; simp only [List.getElem?_toArray, List.getElem?_cons_zero, List.getElem?_cons_succ] at t0 t1 t2; have f0 := free_of_heap hr2 0; have f1 := free_of_heap hr2 1; have f2 := free_of_heap hr2 2; replace hs2 := Lib.hid hs2; replace he2 := Lib.hid he2; clear hr2)
      refine bodyPost_ret (v := .tuple #[.agg #[.int .i64 xm, .int .i64 xs, .slice A2 n2 c2], .int .i64 er]) (by simp [results, Try.results48, go_sem, t0, t1, t2]) rfl ⟨A2, n2, c2, rfl, (hs2.out.kp ?_).mono (fun q hq => by simp at hq; omega), ((((((Ext.refl _).alloc _).trans he2.out).setCell (Nat.le_refl _) _).setCell (Nat.le_refl _) _).setCell (Nat.le_refl _) _)⟩
      (repeat (first | with_reducible refine Kp.setCell ?_ _ ?_ | with_reducible refine Kp.drewN ?_ _ | with_reducible refine Kp.drew ?_ | with_reducible refine Kp.alloc ?_ _ | with_reducible exact Kp.refl _ _ | (intro k hk1 hk2; simp at hk1 hk2 ⊢; omega)))
    · go_enter Try.func48, Try.ntmps48
      go_wp2_with (go_at_call 57; refine (iget28_any _ _ _ bs _ _ (H.out.ext ((Ext.refl _).alloc _)) HB.out hl).mono ?_; rw [HR.out]; rintro e w2 ⟨A2, n2, c2, rfl, hs2, he2⟩; have hr2 := he2.heap hr0.out; have t0 := cell_of_heap hr2 0; have t1 := cell_of_heap hr2 1; have t2 := cell_of_heap hr2 2; simp only [List.getElem?_toArray, List.getElem?_cons_zero, List.getElem?_cons_succ] at t0 t1 t2; have f0 := free_of_heap hr2 0; have f1 := free_of_heap hr2 1; have f2 := free_of_heap hr2 2; replace hs2 := Lib.hid hs2; replace he2 := Lib.hid he2; clear hr2)
      refine bodyPost_ret (v := .tuple #[.agg #[.int .i64 xm, .int .i64 xs, .slice A2 n2 c2], .int .i64 er]) (by simp [results, Try.results48, go_sem, t0, t1, t2]) rfl ⟨A2, n2, c2, rfl, (hs2.out.kp ?_).mono (fun q hq => by simp at hq; omega), ((((((Ext.refl _).alloc _).trans he2.out).setCell (Nat.le_refl _) _).setCell (Nat.le_refl _) _).setCell (Nat.le_refl _) _)⟩
      (repeat (first | with_reducible refine Kp.setCell ?_ _ ?_ | with_reducible refine Kp.drewN ?_ _ | with_reducible refine Kp.drew ?_ | with_reducible refine Kp.alloc ?_ _ | with_reducible exact Kp.refl _ _ | (intro k hk1 hk2; simp at hk1 hk2 ⊢; omega)))

set_option maxRecDepth 100000 in
set_option maxHeartbeats 3200000 in
theorem rnode_any (i : Int) (A : Option Addr) (m c : Nat) (bs : List Int) (Q : Nat → Prop) (w : World) (h : Sl (eI .u8) 1 Q w A m c bs) (hb : Bt bs) :
    Calls Try.prog 49 #[.int .i64 i, .slice A m c] w (RetIn (nodeX i bs) w) := by
  have HL := Lib.hid h.len
  have H := Lib.hid h
  have HB := Lib.hid hb
  clear h hb
  have hr0 := heap_alloc_new w (.cells #[.int .i64 0, .int .i64 0, .slice none 0 0] 65)
  have r0 := cell_of_heap hr0 0; have r1 := cell_of_heap hr0 1; have r2 := cell_of_heap hr0 2; simp only [List.getElem?_toArray, List.getElem?_cons_zero, List.getElem?_cons_succ] at r0 r1 r2
  replace hr0 := Lib.hid hr0
  by_cases h1 : i = 1 ∧ bs = []
  · obtain ⟨rfl, rfl⟩ := h1
    obtain rfl : m = 0 := HL.out
    have E : nodeX 1 [] = ((2, 0, []), 0) := rfl
    rw [E]
    clear E
    go_enter Try.func49, Try.ntmps49
    go_wp2
    refine bodyPost_ret (v := .tuple #[.agg #[.int .i64 2, .int .i64 0, .slice none 0 0], .int .i64 0]) (by simp [results, Try.results49, go_sem, r0, r1, r2]) rfl ⟨none, 0, 0, rfl, slX_nil _, ?_⟩
    (repeat (first | exact Ext.refl _ | assumption | refine Ext.alloc ?_ _ | refine Ext.drew ?_ | refine Ext.drewN ?_ _ | refine Ext.setCell ?_ (by simp) _ | (refine Ext.trans ?_ (by assumption))))
  · have E : nodeX i bs = getX bs := by unfold nodeX; rw [if_neg h1]
    rw [E]
    have hi : ((m : Int) == 0) = false ∨ (((m : Int) == 0) = true ∧ (i == 1) = false) := by
      by_cases hm : m = 0
      · refine .inr ⟨by simpa using hm, ?_⟩
        have : i ≠ 1 := fun e => h1 ⟨e, List.eq_nil_of_length_eq_zero (by rw [← HL.out]; exact hm)⟩
        simpa using this
      · exact .inl (by simp; omega)
    clear E h1 r0 r1 r2
    obtain ⟨r, hr⟩ : ∃ r, getX bs = r := ⟨_, rfl⟩
    have HR := Lib.hid hr
    rw [hr]
    clear hr
    obtain ⟨⟨xm, xs, xx⟩, er⟩ := r
    rcases hi with hi | ⟨hi, hm⟩
    · go_enter Try.func49, Try.ntmps49
      go_wp2_with (go_at_call 59; refine (rget28_any _ _ _ bs _ _ (H.out.ext ((Ext.refl _).alloc _)) HB.out).mono ?_; rw [HR.out]; rintro e w2 ⟨A2, n2, c2, rfl, hs2, he2⟩; have hr2 := he2.heap hr0.out; have t0 := cell_of_heap hr2 0; have t1 := cell_of_heap hr2 1; have t2 := cell_of_heap hr2 2; simp only [List.getElem?_toArray, List.getElem?_cons_zero, List.getElem?_cons_succ] at t0 t1 t2; have f0 := free_of_heap hr2 0; have f1 := free_of_heap hr2 1; have f2 := free_of_heap hr2 2; replace hs2 := Lib.hid hs2; replace he2 := Lib.hid he2; clear hr2)
      refine bodyPost_ret (v := .tuple #[.agg #[.int .i64 xm, .int .i64 xs, .slice A2 n2 c2], .int .i64 er]) (by simp [results, Try.results49, go_sem, t0, t1, t2]) rfl ⟨A2, n2, c2, rfl, (hs2.out.kp ?_).mono (fun q hq => by simp at hq; omega), ((((((Ext.refl _).alloc _).trans he2.out).setCell (Nat.le_refl _) _).setCell (Nat.le_refl _) _).setCell (Nat.le_refl _) _)⟩
      (repeat (first | with_reducible refine Kp.setCell ?_ _ ?_ | with_reducible refine Kp.drewN ?_ _ | with_reducible refine Kp.drew ?_ | with_reducible refine Kp.alloc ?_ _ | with_reducible exact Kp.refl _ _ | (intro k hk1 hk2; simp at hk1 hk2 ⊢; omega)))
    · go_enter Try.func49, Try.ntmps49
      go_wp2_with (go_at_call 59; refine (rget28_any _ _ _ bs _ _ (H.out.ext ((Ext.refl _).alloc _)) HB.out).mono ?_; rw [HR.out]; rintro e w2 ⟨A2, n2, c2, rfl, hs2, he2⟩; have hr2 := he2.heap hr0.out; have t0 := cell_of_heap hr2 0; have t1 := cell_of_heap hr2 1; have t2 := cell_of_heap hr2 2; simp only [List.getElem?_toArray, List.getElem?_cons_zero, List.getElem?_cons_succ] at t0 t1 t2; have f0 := free_of_heap hr2 0; have f1 := free_of_heap hr2 1; have f2 := free_of_heap hr2 2; replace hs2 := Lib.hid hs2; replace he2 := Lib.hid he2; clear hr2)
      refine bodyPost_ret (v := .tuple #[.agg #[.int .i64 xm, .int .i64 xs, .slice A2 n2 c2], .int .i64 er]) (by simp [results, Try.results49, go_sem, t0, t1, t2]) rfl ⟨A2, n2, c2, rfl, (hs2.out.kp ?_).mono (fun q hq => by simp at hq; omega), ((((((Ext.refl _).alloc _).trans he2.out).setCell (Nat.le_refl _) _).setCell (Nat.le_refl _) _).setCell (Nat.le_refl _) _)⟩
      (repeat (first | with_reducible refine Kp.setCell ?_ _ ?_ | with_reducible refine Kp.drewN ?_ _ | with_reducible refine Kp.drew ?_ | with_reducible refine Kp.alloc ?_ _ | with_reducible exact Kp.refl _ _ | (intro k hk1 hk2; simp at hk1 hk2 ⊢; omega)))

/-- A block's data, all of it. -/
def wholeB (l : List Int) : List Int := l.take 64 ++ List.replicate (64 - (l.take 64).length) 0
theorem wholeB_len (l : List Int) : (wholeB l).length = 64 := by
  unfold wholeB
  rw [List.length_append, List.length_replicate, List.length_take]
  omega
theorem wholeB_lo {l : List Int} {i : Nat} {x : Int} (hi : i < 64) (h : l[i]? = some x) : (wholeB l)[i]? = some x := by
  have hl : i < l.length := by
    rcases Nat.lt_or_ge i l.length with h1 | h1
    · exact h1
    · rw [List.getElem?_eq_none h1] at h; cases h
  unfold wholeB
  rw [List.getElem?_append_left (by rw [List.length_take]; omega), List.getElem?_take, if_pos hi]
  exact h
theorem wholeB_hi {l : List Int} {i : Nat} (hi : i < 64) (h : l.length ≤ i) : (wholeB l)[i]? = some 0 := by
  unfold wholeB
  rw [List.getElem?_append_right (by rw [List.length_take]; omega), List.getElem?_replicate, if_pos (by rw [List.length_take]; omega)]

set_option maxHeartbeats 1600000 in
theorem rwhole_any (A : Option Addr) (m c : Nat) (l : List Int) (Q : Nat → Prop) (w : World) (h : Sl (eI .u8) 1 Q w A m c l) :
    Calls Try.prog 52 #[.slice A m c] w (RetSl (eI .u8) 1 (wholeB l) w) := by
  have HL := Lib.hid h.len
  have hm := Nat.le_trans h.le h.mx
  have H := Lib.hid h
  clear h
  go_enter Try.func52, Try.ntmps52
  go_wp2
  go_loopw [3, 4] (fun v i wr => ∃ (k n' cap' : Nat) (A' : Option Addr), k ≤ 64 ∧ i = .int .i64 k ∧ v = .slice A' n' cap' ∧ Ow (eI .u8) 1 5 w.heap.size wr A' n' cap' ((wholeB l).take k) ∧ Ext w wr) (fun _ i _ => 64 - (intOf i).toNat)
  case atStart => exact ⟨0, 0, 0, none, Nat.zero_le _, rfl, rfl, Ow.nil _, Ext.refl _⟩
  case round =>
    obtain ⟨k, n', cap', A', hk, rfl, rfl, hO, he⟩ := hrel
    have HO := Lib.hid hO
    have HX := Lib.hid he
    have hz := he.size
    have htl : ((wholeB l).take k).length ≤ 64 := by rw [List.length_take]; omega
    clear hO he
    by_cases hlt : k < 64
    · by_cases hlm : k < m
      · obtain ⟨b, off, x, rfl, hx, _, _, hc⟩ := H.out.num k hlm
        have hc := HX.out.at hc
        have HW := Lib.hid (take_snoc (wholeB_lo hlt hx))
        have k0 : (0 : Int) ≤ (k : Int) := by omega
        clear hx
        go_wp2_with (at_builtin; refine wpList_app _ rfl _ _ 35 rfl info_u8 Try.underlying35 rfl (by decide) (eI_len _) (eI_one _) (HO.out.ext ((Ext.refl _).alloc _)) rfl (Sl.laid (eI_len _) wr [x] _ 5 1 rfl rfl (by decide)) rfl (by simp only [List.length_singleton]; omega) (by simp only [List.length_singleton]; omega) (by exact Nat.le_trans hz ((Ext.refl _).alloc _).size) ?_; intro A2 n2 cap2 w2 hO2 hg2 _ _)
        exact ⟨⟨k + 1, n2, cap2, A2, by omega, by go_num, rfl, by rw [HW.out]; exact hO2, Ext.grown (HX.out.alloc _) hg2 fun q hq => (HO.out.lt q hq).1⟩, by simp [intOf]; omega⟩
      · have HW := Lib.hid (take_snoc (wholeB_hi (l := l) hlt (by rw [← HL.out]; omega)))
        go_wp2_with (at_builtin; refine wpList_app _ rfl _ _ 35 rfl info_u8 Try.underlying35 rfl (by decide) (eI_len _) (eI_one _) (HO.out.ext ((Ext.refl _).alloc _)) rfl (Sl.laid (eI_len _) wr [0] _ 5 1 rfl rfl (by decide)) rfl (by simp only [List.length_singleton]; omega) (by simp only [List.length_singleton]; omega) (by exact Nat.le_trans hz ((Ext.refl _).alloc _).size) ?_; intro A2 n2 cap2 w2 hO2 hg2 _ _)
        exact ⟨⟨k + 1, n2, cap2, A2, by omega, by go_num, rfl, by rw [HW.out]; exact hO2, Ext.grown (HX.out.alloc _) hg2 fun q hq => (HO.out.lt q hq).1⟩, by simp [intOf]; omega⟩
    · obtain rfl : k = 64 := by omega
      have hO := HO.out
      rw [List.take_of_length_le (by rw [wholeB_len]; exact Nat.le_refl _)] at hO
      have HS := Lib.hid (hO.sl (eI_len _))
      clear hO
      go_wp2
      go_ret
      exact ⟨A', n', cap', rfl, HS.out.mono fun _ hk => hk.1, HX.out⟩

theorem mk_fact {base g : Nat} {w : World} (hO : Ow (eI .u8) 1 5 base w (some ⟨g, 0, none⟩) 64 64 (List.replicate 64 (0 : Int))) :
    w.heap[g]? = some (.cells (List.replicate 64 (Value.int .u8 0)).toArray 5 (0, 0)) := by
  rcases hO.own.2 with ⟨hv, _⟩ | ⟨g', cap, cur, hv, _, hh, _, _, hsz, htk⟩
  · cases hv
  · simp only [Value.slice.injEq, Option.some.injEq, Addr.mk.injEq, and_true, true_and] at hv
    obtain ⟨rfl, rfl⟩ := hv
    have hcur : cur = (List.replicate 64 (Value.int .u8 0)).toArray := by
      apply Array.toList_inj.1
      rw [List.take_of_length_le (by rw [Array.length_toList]; omega), eI_flat, List.map_replicate] at htk
      exact htk
    rw [← hcur]
    exact hh
theorem src_at {Q : Nat → Prop} {w1 : World} {A : Option Addr} {m c : Nat} {l : List Int} (hS : Sl (eI .u8) 1 Q w1 A m c l) (j : Nat) (v : Value) (hj : ((l.take 64).map (Value.int .u8))[j]? = some v) : ∃ ad, A = some ad ∧ w1.cell? (ad.add j) = some v := by
  rw [List.getElem?_map, List.getElem?_take] at hj
  split at hj
  · cases hx : l[j]? with
    | none => rw [hx] at hj; cases hj
    | some x =>
      rw [hx] at hj
      simp only [Option.map_some, Option.some.injEq] at hj
      subst hj
      have hjm : j < m := by
        rw [hS.len]
        rcases Nat.lt_or_ge j l.length with h1 | h1
        · exact h1
        · rw [List.getElem?_eq_none h1] at hx; cases hx
      obtain ⟨b, off, y, hA, hy, _, _, hc⟩ := hS.num j hjm
      rw [hx] at hy
      injection hy with hy
      subst hy
      exact ⟨⟨b, off, none⟩, hA, by rw [Addr.add_lit]; exact hc⟩
  · cases hj
theorem src_pos {Q : Nat → Prop} {w1 : World} {A : Option Addr} {m c g : Nat} {l : List Int} (hS : Sl (eI .u8) 1 Q w1 A m c l) : 0 < ((l.take 64).map (Value.int .u8)).length → (some (⟨g, 0, none⟩ : Addr)) = some ⟨g, 0, none⟩ ∧ ∃ ad, A = some ad ∧ ∀ j v, ((l.take 64).map (Value.int .u8))[j]? = some v → w1.cell? (ad.add j) = some v := by
  intro hp
  obtain ⟨ad, hA, _⟩ := src_at hS 0 _ (List.getElem?_eq_getElem hp)
  refine ⟨rfl, ad, hA, fun j v hj => ?_⟩
  obtain ⟨ad', hA', hc⟩ := src_at hS j v hj
  rw [hA] at hA'
  injection hA' with hA'
  rw [hA']; exact hc
theorem src_len {m : Nat} {l : List Int} (h : m = l.length) : ((l.take 64).map (Value.int .u8)).length = Nat.min m 64 := by rw [List.length_map, List.length_take, h]; exact Nat.min_comm _ _
theorem src_fit (l : List Int) : 0 + ((l.take 64).map (Value.int .u8)).length ≤ (List.replicate 64 (Value.int .u8 0)).length := by
  rw [List.length_replicate, List.length_map, List.length_take]; omega
theorem src_one (l : List Int) : ∀ v ∈ (l.take 64).map (Value.int .u8), v.oneCell' = true := by
  intro v hv
  obtain ⟨x, _, rfl⟩ := List.mem_map.1 hv
  rfl

set_option maxRecDepth 100000 in
set_option maxHeartbeats 1600000 in
theorem whole_any (A : Option Addr) (m c : Nat) (l : List Int) (Q : Nat → Prop) (w : World) (h : Sl (eI .u8) 1 Q w A m c l) :
    Calls Try.prog 51 #[.slice A m c] w (RetSl (eI .u8) 1 (wholeB l) w) := by
  have HL := Lib.hid h.len
  have H := Lib.hid h
  obtain ⟨cs, hcs⟩ : ∃ cs, (l.take 64).map (Value.int .u8) = cs := ⟨_, rfl⟩
  have hcl := src_len h.len
  have hfit := src_fit l
  have hone := src_one l
  rw [hcs] at hcl hfit hone
  have HCS := Lib.hid hcs
  have HCL := Lib.hid hcl
  have HFIT := Lib.hid hfit
  have HONE := Lib.hid hone
  have hpos := fun (w1 : World) (hE : Ext w w1) => src_pos (g := w.heap.size) (H.out.ext hE)
  rw [hcs] at hpos
  have HPOS := Lib.hid hpos
  clear h hcs hcl hfit hone hpos
  go_enter Try.func51, Try.ntmps51
  go_wp2_with (first
    | (at_make; refine wpList_mk _ rfl _ _ 35 rfl w.heap.size info_u8 Try.underlying35 .i64 .i64 _ _ 64 rfl rfl rfl rfl (by omega) (by omega) (Nat.le_refl _) ?_; intro w1 hO1 hg1 hz1; have hE1 : Ext w w1 := (Ext.refl _).grown hg1 (fun _ h => by cases h); replace hO1 := Lib.hid hO1; replace hE1 := Lib.hid hE1; clear hg1)
    | (have _t := hE1; refine wpList_copy_splice rfl _ _ 35 35 rfl 5 Try.underlying35 (by kernel_rfl) _ _ _ _ _ _ rfl rfl w.heap.size 0 (List.replicate 64 (Value.int .u8 0)) 5 (mk_fact hO1.out) cs HCL.out (HPOS.out _ hE1.out) HFIT.out HONE.out w.heap.size w hE1.out.out (Nat.le_refl _) ?_; intro w2 hH2 hB2))
  go_ret
  refine ⟨some ⟨w.heap.size, 0, none⟩, 64, 64, rfl, ⟨by rw [wholeB_len], Nat.le_refl _, by decide, fun i x hx => ⟨w.heap.size, 0, rfl, Nat.le_refl _, fun j u hu => ?_⟩⟩, ⟨hB2⟩⟩
  have hj : j = 0 := by
    rcases Nat.eq_zero_or_pos j with h | h
    · exact h
    · rw [List.getElem?_eq_none (by rw [eI_len]; exact h)] at hu; cases hu
  subst hj
  have hu' : u = .int .u8 x := by simpa [eI] using hu.symm
  subst hu'
  rw [Nat.mul_one, Nat.zero_add, Nat.add_zero, cell_of_heap hH2.out i]
  have hsp : splice (List.replicate 64 (Value.int .u8 0)) 0 cs = (wholeB l).map (Value.int .u8) := by
    unfold splice wholeB
    rw [← HCS.out]
    rw [List.take_zero, List.nil_append, Nat.zero_add, List.drop_replicate, List.map_append, List.map_replicate, List.length_map]
  rw [hsp, List.getElem?_toArray, List.getElem?_map, hx]
  rfl
end Go.Proofs.Ytdocdppimpapiaa

namespace Go.Proofs.Ytdocdppimpapiaa
open Go.RowKit Go.Proofs.YtdocdppimpapiaaW.PrintWords

open Go.Proofs.Ytdocdppimpapiaa.PInodeChecks in
theorem rsame_l0 (m s m' s' : Int) (a b : List Ex) (hab : a.length = b.length) (hL : a.length ≤ 1000) : ∀ (d k i : Nat), i + d = a.length → d < k → a.take i = b.take i → catenaryref28_Same.l0 k (i : Int) m s (a.map toR) m' s' (b.map toR) = some (decide (a = b)) := by
  intro d
  induction d with
  | zero =>
    intro k i hi hk ht
    obtain ⟨k, rfl⟩ : ∃ q, k = q + 1 := ⟨k - 1, by omega⟩
    simp only [catenaryref28_Same.l0]
    rw [List.take_of_length_le (by omega), List.take_of_length_le (by omega)] at ht
    rw [if_neg (by rw [List.length_map]; omega), decide_eq_true ht]
  | succ d ih =>
    intro k i hi hk ht
    obtain ⟨k, rfl⟩ : ∃ q, k = q + 1 := ⟨k - 1, by omega⟩
    have hx : a[i]? = some a[i] := List.getElem?_eq_getElem (by omega)
    have hy : b[i]? = some b[i] := List.getElem?_eq_getElem (by omega)
    simp only [catenaryref28_Same.l0]
    rw [if_pos (by rw [List.length_map]; omega), if_pos (by omega), if_pos (by rw [List.length_map]; omega)]
    unfold rd_T85
    rw [rd_at toR _ a i _ hx, rd_at toR _ b i _ hy]
    by_cases he : a[i] = b[i]
    · rw [if_neg (by simp [he]), wrap_succ (by omega)]
      exact ih k (i + 1) (by omega) (by omega) (take_step ht hx (by rw [he]; exact hy))
    · have hne : ¬ (a[i].1 = b[i].1 ∧ a[i].2 = b[i].2) := fun h => he (Prod.ext h.1 h.2)
      rw [if_pos (by simp [toR]; omega), decide_eq_false (take_ne hx hy he)]
open Go.Proofs.Ytdocdppimpapiaa.PInodeChecks in
theorem rsame_j0 (m s m' s' : Int) (a b : List Ex) (k : Nat) : catenaryref28_Same.j0 (k + 1) true m s (a.map toR) m' s' (b.map toR) = some false := by
  simp only [catenaryref28_Same.j0]
  rw [if_pos trivial]
open Go.Proofs.Ytdocdppimpapiaa.PInodeChecks in
theorem rsame_f (m s m' s' : Int) (a b : List Ex) (hL : a.length ≤ 1000) (k : Nat) (hk : 1001 < k) : catenaryref28_Same.f k m s (a.map toR) m' s' (b.map toR) = some (eqIno (m, s, a) (m', s', b)) := by
  obtain ⟨k, rfl⟩ : ∃ q, k = q + 1 := ⟨k - 1, by omega⟩
  unfold catenaryref28_Same.f
  rw [eqIno_split]
  by_cases h1 : m = m'
  · rw [if_pos h1, decide_eq_true h1]
    by_cases h2 : s = s'
    · rw [if_pos h2, decide_eq_true h2]
      by_cases h3 : a.length = b.length
      · have e0 : (((a.map toR).length : Int) != ((b.map toR).length : Int)) = false := by simp [h3]
        rw [e0]
        simp only [catenaryref28_Same.j0]
        rw [if_neg (by simp)]
        simp only [Bool.true_and]
        exact rsame_l0 m s m' s' a b h3 hL a.length k 0 (by omega) (by omega) rfl
      · have e0 : (((a.map toR).length : Int) != ((b.map toR).length : Int)) = true := by simp; omega
        rw [e0, rsame_j0, decide_eq_false fun e => h3 (by rw [e])]
        simp
    · rw [if_neg h2, rsame_j0, decide_eq_false h2]; simp
  · rw [if_neg h1, rsame_j0, decide_eq_false h1]; simp
theorem rsame28_any (m s m' s' : Int) (A B : Option Addr) (n k c d : Nat) (a b : List Ex) (Q R : Nat → Prop) (w : World) (h : Sl eX 2 Q w A n c a) (h' : Sl eX 2 R w B k d b) (hl : a.length ≤ 1000) :
    Calls Try.prog 56 #[.agg #[.int .i64 m, .int .i64 s, .slice A n c], .agg #[.int .i64 m', .int .i64 s', .slice B k d]] w fun e w' => e = .returned (.bool (eqIno (m, s, a) (m', s', b))) ∧ Ext w w' := by
  have h1 := PInodeChecks.catenaryref28_Same.calls 1002 m s A c (a.map toR) m' s' B d (b.map toR) _ w (slR h) (by rw [List.length_map, ← h.len]; exact h.le) (slR h') (by rw [List.length_map, ← h'.len]; exact h'.le) (rsame_f m s m' s' a b hl 1002 (by omega))
  rw [List.length_map, List.length_map, ← h.len, ← h'.len] at h1
  exact h1.mono fun e w' ⟨he, hb⟩ => ⟨he, ⟨hb⟩⟩

def RetO (m s : Int) (xs : List Ex) (w : World) (e : Ending) (w' : World) : Prop := ∃ A n c, e = .returned (.agg #[.int .i64 m, .int .i64 s, .slice A n c]) ∧ Sl eX 2 (fun _ => True) w' A n c xs ∧ Ext w w'

set_option maxRecDepth 100000 in
set_option maxHeartbeats 6400000 in
theorem inodeChecks_any (m s : Int) (A : Option Addr) (n c : Nat) (xs : List Ex) (m' s' : Int) (B : Option Addr) (k d : Nat) (ys : List Ex) (Q R : Nat → Prop) (w : World) (h : Sl eX 2 Q w A n c xs) (h' : Sl eX 2 R w B k d ys) :
    Calls Try.prog 10 #[.agg #[.int .i64 m, .int .i64 s, .slice A n c], .agg #[.int .i64 m', .int .i64 s', .slice B k d]] w fun e w' => e = .returned (.bool true) ∧ Ext w w' := by
  have HL := Lib.hid h.len
  have HL' := Lib.hid h'.len
  have H := Lib.hid h
  have H' := Lib.hid h'
  have hn63 := Nat.le_trans h.le h.mx
  have hk63 := Nat.le_trans h'.le h'.mx
  clear h h'
  by_cases h40 : 40 < n
  · go_enter Try.func10, Try.ntmps10
    go_wp2_with (go_at_call 34; refine (awake28_any _).mono ?_; rintro e w1 ⟨rfl, he1⟩)
    go_ret
    exact ⟨rfl, (((Ext.refl _).alloc _).alloc _).trans he1⟩
  by_cases h41 : 40 < k
  · go_enter Try.func10, Try.ntmps10
    go_wp2_with (go_at_call 34; refine (awake28_any _).mono ?_; rintro e w1 ⟨rfl, he1⟩)
    go_ret
    exact ⟨rfl, (((Ext.refl _).alloc _).alloc _).trans he1⟩
  have hx : xs.length ≤ 40 := by rw [← HL.out]; omega
  have hy : ys.length ≤ 40 := by rw [← HL'.out]; omega
  have hx1 : xs.length ≤ 1000 := by omega
  have hy1 : ys.length ≤ 1000 := by omega
  have hbl := blkB_len xs
  obtain ⟨bx, hbx⟩ : ∃ bx, blkB xs = bx := ⟨_, rfl⟩
  have HBX := Lib.hid hbx
  obtain ⟨ck, hck⟩ : ∃ ck, checkI (m, s, xs) = ck := ⟨_, rfl⟩
  have HCK := Lib.hid hck
  obtain ⟨pb, hpb⟩ : ∃ pb, putI (m, s, xs) = pb := ⟨_, rfl⟩
  have HPB := Lib.hid hpb
  obtain ⟨sm, hsm⟩ : ∃ sm, eqIno (m, s, xs) (m', s', ys) = sm := ⟨_, rfl⟩
  have HSM := Lib.hid hsm
  have hcc : (ck != ck) = false := by simp
  have hss : (sm != sm) = false := by simp
  clear hbl hbx hsm
  have hX0 : ∀ (o1 o2 : Obj), Ext w ((w.alloc o1).alloc o2) := fun o1 o2 => ((Ext.refl w).alloc o1).alloc o2
  have hb0 : ((w.alloc (.cells #[.int .i64 m, .int .i64 s, .slice A n c] 65)).alloc (.cells #[.int .i64 m', .int .i64 s', .slice B k d] 65)).heap[w.heap.size]? = some (.cells #[.int .i64 m, .int .i64 s, .slice A n c] 65 (0, 0)) := ((Ext.refl _).alloc _).heap (heap_alloc_new w _)
  have hv0 : ((w.alloc (.cells #[.int .i64 m, .int .i64 s, .slice A n c] 65)).alloc (.cells #[.int .i64 m', .int .i64 s', .slice B k d] 65)).heap[w.heap.size + 1]? = some (.cells #[.int .i64 m', .int .i64 s', .slice B k d] 65 (0, 0)) := heap_new2 w _ _
  replace hb0 := Lib.hid hb0
  replace hv0 := Lib.hid hv0
  replace hX0 := Lib.hid hX0
  go_enter Try.func10, Try.ntmps10
  go_wp2_with fail
  refine (ours28_any _ _ _ _ _ _ _ _ (H.out.ext (hX0.out _ _)) hx1).mono ?_
  rintro e w1 ⟨A1, n1, c1, rfl, hs1, he1⟩
  have hX1 := (hX0.out _ _).trans he1
  have hb1 := he1.heap hb0.out
  have hv1 := he1.heap hv0.out
  replace hs1 := Lib.hid hs1
  replace hX1 := Lib.hid hX1
  replace hb1 := Lib.hid hb1
  replace hv1 := Lib.hid hv1
  clear he1
  go_wp2_with fail
  refine (check_ino _ _ _ _ _ xs _ _ hs1.out hx1).mono ?_
  rw [HCK.out]
  rintro e w2 ⟨rfl, he2⟩
  have hX2 := hX1.out.trans he2
  have hb2 := he2.heap hb1.out
  have hv2 := he2.heap hv1.out
  have a0 := cell_of_heap hb2 0; have a1 := cell_of_heap hb2 1; have a2 := cell_of_heap hb2 2; simp only [List.getElem?_toArray, List.getElem?_cons_zero, List.getElem?_cons_succ] at a0 a1 a2
  replace hX2 := Lib.hid hX2
  replace hb2 := Lib.hid hb2
  replace hv2 := Lib.hid hv2
  clear he2
  go_wp2_with fail
  refine (ours28_any _ _ _ _ _ _ _ _ (H.out.ext hX2.out) hx1).mono ?_
  rintro e w3 ⟨A3, n3, c3, rfl, hs3, he3⟩
  have hX3 := hX2.out.trans he3
  have hb3 := he3.heap hb2.out
  have hv3 := he3.heap hv2.out
  replace hs3 := Lib.hid hs3
  replace hX3 := Lib.hid hX3
  replace hb3 := Lib.hid hb3
  replace hv3 := Lib.hid hv3
  clear he3
  go_wp2_with fail
  refine (iput_any _ _ _ _ _ xs _ _ hs3.out hx1).mono ?_
  rw [HPB.out, HCK.out]
  rintro e w4 ⟨A4, n4, c4, rfl, hs4, he4⟩
  have hX4 := hX3.out.trans he4
  have hb4 := he4.heap hb3.out
  have hv4 := he4.heap hv3.out
  have b0 := cell_of_heap hb4 0; have b1 := cell_of_heap hb4 1; have b2 := cell_of_heap hb4 2; simp only [List.getElem?_toArray, List.getElem?_cons_zero, List.getElem?_cons_succ] at b0 b1 b2
  have v0 := cell_of_heap hv4 0; have v1 := cell_of_heap hv4 1; have v2 := cell_of_heap hv4 2; simp only [List.getElem?_toArray, List.getElem?_cons_zero, List.getElem?_cons_succ] at v0 v1 v2
  have hl4 := hs4.len
  have hH4 := H.out.ext hX4
  have hH'4 := H'.out.ext hX4
  have COx := Lib.hid (fun (W : World) (hW : Ext w4 W) => show Calls Try.prog 43 #[.agg #[.int .i64 m, .int .i64 s, .slice A n c]] W (RetO m s xs W) from ours28_any m s A n c xs _ W (hH4.ext hW) hx1)
  have COy := Lib.hid (fun (W : World) (hW : Ext w4 W) => show Calls Try.prog 43 #[.agg #[.int .i64 m', .int .i64 s', .slice B k d]] W (RetO m' s' ys W) from ours28_any m' s' B k d ys _ W (hH'4.ext hW) hy1)
  have CRc := Lib.hid (fun (W : World) (hW : Ext w4 W) => show Calls Try.prog 54 #[.agg #[.int .i64 m, .int .i64 s, .slice A n c]] W (fun e w' => e = .returned (.int .i64 ck) ∧ Ext W w') from by
    have hh := rcheck_ino m s A n c xs _ W (hH4.ext hW) hx1
    rw [HCK.out] at hh
    exact hh)
  have CRs := Lib.hid (fun (W : World) (hW : Ext w4 W) => show Calls Try.prog 56 #[.agg #[.int .i64 m, .int .i64 s, .slice A n c], .agg #[.int .i64 m', .int .i64 s', .slice B k d]] W (fun e w' => e = .returned (.bool sm) ∧ Ext W w') from by
    have hh := rsame28_any m s m' s' A B n k c d xs ys _ _ W (hH4.ext hW) (hH'4.ext hW) hx1
    rw [HSM.out] at hh
    exact hh)
  have CRb := Lib.hid (fun (W : World) (hW : Ext w4 W) => show Calls Try.prog 47 #[.agg #[.int .i64 m, .int .i64 s, .slice A n c]] W (RetI bx W) from by
    have hh := rblocks_any m s A n c xs _ W (hH4.ext hW) hx1
    rw [HBX.out] at hh
    exact hh.mono fun _ _ ⟨A', n', c', e, ho, he⟩ => ⟨A', n', c', e, (ho.sl (eI_len _)).mono fun _ _ => trivial, he⟩)
  replace hs4 := Lib.hid hs4
  replace hX4 := Lib.hid hX4
  replace hb4 := Lib.hid hb4
  replace hH4 := Lib.hid hH4
  replace hl4 := Lib.hid hl4
  clear he4 hv4 hH'4
  go_wp2
  have tok1 : True := trivial
  have tok2 : True := trivial
  go_region_held3 (fun W => W.cell? ⟨w.heap.size, 0, none⟩ = some (.int .i64 m) ∧ W.cell? ⟨w.heap.size, 1, none⟩ = some (.int .i64 s) ∧ W.cell? ⟨w.heap.size, 2, none⟩ = some (.slice A n c) ∧ W.cell? ⟨w.heap.size + 1, 0, none⟩ = some (.int .i64 m') ∧ W.cell? ⟨w.heap.size + 1, 1, none⟩ = some (.int .i64 s') ∧ W.cell? ⟨w.heap.size + 1, 2, none⟩ = some (.slice B k d) ∧ Ext w4 W)
    (first
      | exact ⟨b0, b1, b2, v0, v1, v2, (Ext.refl w4).drew⟩
      | (go_split_ands; refine ⟨he20.at (by assumption), he20.at (by assumption), he20.at (by assumption), he20.at (by assumption), he20.at (by assumption), he20.at (by assumption), Ext.trans (by assumption) he20⟩)
      | go_keep)
    (first
      | (go_at_call 54; refine Calls.mono (CRc.out _ (by (repeat (first | exact Ext.refl _ | assumption | refine Ext.alloc ?_ _ | refine Ext.drew ?_ | refine Ext.drewN ?_ _ | refine Ext.setCell ?_ (by simp) _ | (refine Ext.trans ?_ (by assumption)))))) ?_; rintro e w20 ⟨rfl, he20⟩)
      | (go_at_call 43; have _t := tok1; refine Calls.mono (COx.out _ (by (repeat (first | exact Ext.refl _ | assumption | refine Ext.alloc ?_ _ | refine Ext.drew ?_ | refine Ext.drewN ?_ _ | refine Ext.setCell ?_ (by simp) _ | (refine Ext.trans ?_ (by assumption)))))) ?_; clear tok1; rintro e w20 ⟨A20, n20, c20, rfl, hOx, he20⟩; replace hOx := Lib.hid hOx)
      | (go_at_call 43; have _t := tok2; refine Calls.mono (COy.out _ (by (repeat (first | exact Ext.refl _ | assumption | refine Ext.alloc ?_ _ | refine Ext.drew ?_ | refine Ext.drewN ?_ _ | refine Ext.setCell ?_ (by simp) _ | (refine Ext.trans ?_ (by assumption)))))) ?_; clear tok2; rintro e w20 ⟨A21, n21, c21, rfl, hOy, he20⟩; replace hOy := Lib.hid hOy)
      | (go_at_call 55; refine Calls.mono (inoSame_any m s m' s' _ _ _ _ _ _ xs ys _ _ _ (hOx.out.ext (by (repeat (first | exact Ext.refl _ | assumption | refine Ext.alloc ?_ _ | refine Ext.drew ?_ | refine Ext.drewN ?_ _ | refine Ext.setCell ?_ (by simp) _ | (refine Ext.trans ?_ (by assumption)))))) (hOy.out.ext (by (repeat (first | exact Ext.refl _ | assumption | refine Ext.alloc ?_ _ | refine Ext.drew ?_ | refine Ext.drewN ?_ _ | refine Ext.setCell ?_ (by simp) _ | (refine Ext.trans ?_ (by assumption)))))) hx1) ?_; rw [HSM.out]; rintro e w20 ⟨rfl, he20⟩)
      | (go_at_call 56; refine Calls.mono (CRs.out _ (by (repeat (first | exact Ext.refl _ | assumption | refine Ext.alloc ?_ _ | refine Ext.drew ?_ | refine Ext.drewN ?_ _ | refine Ext.setCell ?_ (by simp) _ | (refine Ext.trans ?_ (by assumption)))))) ?_; rintro e w20 ⟨rfl, he20⟩)
      | (go_at_call 43; refine Calls.mono (COx.out _ (by (repeat (first | exact Ext.refl _ | assumption | refine Ext.alloc ?_ _ | refine Ext.drew ?_ | refine Ext.drewN ?_ _ | refine Ext.setCell ?_ (by simp) _ | (refine Ext.trans ?_ (by assumption)))))) ?_; rintro e w20 ⟨A22, n22, c22, rfl, hOz, he20⟩; replace hOz := Lib.hid hOz)
      | (go_at_call 41; refine Calls.mono (blocks_any m s _ _ _ xs _ _ (hOz.out.ext (by (repeat (first | exact Ext.refl _ | assumption | refine Ext.alloc ?_ _ | refine Ext.drew ?_ | refine Ext.drewN ?_ _ | refine Ext.setCell ?_ (by simp) _ | (refine Ext.trans ?_ (by assumption)))))) hx1) ?_; rw [HBX.out]; rintro e w20 ⟨A23, n23, c23, rfl, hOb, he20⟩; replace hOb := Lib.hid hOb)
      | (go_at_call 47; refine Calls.mono (CRb.out _ (by (repeat (first | exact Ext.refl _ | assumption | refine Ext.alloc ?_ _ | refine Ext.drew ?_ | refine Ext.drewN ?_ _ | refine Ext.setCell ?_ (by simp) _ | (refine Ext.trans ?_ (by assumption)))))) ?_; rintro e w20 ⟨A24, n24, c24, rfl, hOr, he20⟩; replace hOr := Lib.hid hOr)
      | (go_at_call 40; refine Calls.mono (sameI_self bx ((hOb.out.sl (eI_len _)).ext (by (repeat (first | exact Ext.refl _ | assumption | refine Ext.alloc ?_ _ | refine Ext.drew ?_ | refine Ext.drewN ?_ _ | refine Ext.setCell ?_ (by simp) _ | (refine Ext.trans ?_ (by assumption)))))) (hOr.out.ext (by (repeat (first | exact Ext.refl _ | assumption | refine Ext.alloc ?_ _ | refine Ext.drew ?_ | refine Ext.drewN ?_ _ | refine Ext.setCell ?_ (by simp) _ | (refine Ext.trans ?_ (by assumption))))))) ?_; rintro e w20 ⟨rfl, he20⟩))
  rename_i hS
  obtain ⟨-, -, -, -, -, -, hZ⟩ := hS
  have hbZ := hZ.heap hb4.out
  have z0 := cell_of_heap hbZ 0; have z1 := cell_of_heap hbZ 1; have z2 := cell_of_heap hbZ 2; simp only [List.getElem?_toArray, List.getElem?_cons_zero, List.getElem?_cons_succ] at z0 z1 z2
  have HZ := Lib.hid hZ
  have HBZ := Lib.hid hbZ
  clear hZ hbZ COx COy CRc CRs CRb
  by_cases hc0 : ck = 0
  · subst hc0
    have hpe : encI (m, s, xs) = pb := by rw [← hpb]; unfold putI; rw [if_pos hck]
    have hgx := getX_put hck
    rw [hpe] at hgx
    have hbt := encI_bt (m, s, xs)
    rw [hpe] at hbt
    have hpl := encI_len (m, s, xs)
    rw [hpe] at hpl
    have hpl2 : pb.length ≤ 1048576 := by rw [hpl]; simp only; omega
    have HPE := Lib.hid hpe
    have HGX := Lib.hid hgx
    have HBT := Lib.hid hbt
    clear hpe hgx hbt hpl hck hpb
    go_wp2_with (first
      | (go_at_call 57; go_must (refine (iget28_any _ _ _ pb _ _ (hs4.out.ext HZ.out) HBT.out hpl2).mono ?_); rw [HGX.out]; rintro e w5 ⟨A5, n5, c5, rfl, hs5, he5⟩; have hb5 := he5.heap HBZ.out; have p0 := cell_of_heap hb5 0; have p1 := cell_of_heap hb5 1; have p2 := cell_of_heap hb5 2; simp only [List.getElem?_toArray, List.getElem?_cons_zero, List.getElem?_cons_succ] at p0 p1 p2; have p0a := fun o => ((Ext.refl w5).alloc o).at p0; have p1a := fun o => ((Ext.refl w5).alloc o).at p1; have p2a := fun o => ((Ext.refl w5).alloc o).at p2; replace hb5 := Lib.hid hb5; replace hs5 := Lib.hid hs5; replace he5 := Lib.hid he5)
      | (go_at_call 58; go_must (refine (rbytes_any _ _ _ _ _ xs _ _ (hH4.out.ext ((HZ.out.trans he5.out).alloc _)) HCK.out).mono ?_); rw [HPE.out]; rintro e w6 ⟨A6, n6, c6, rfl, hs6, he6⟩; have hb6 := he6.heap (((Ext.refl w5).alloc _).heap hb5.out); have q0 := cell_of_heap hb6 0; have q1 := cell_of_heap hb6 1; have q2 := cell_of_heap hb6 2; simp only [List.getElem?_toArray, List.getElem?_cons_zero, List.getElem?_cons_succ] at q0 q1 q2; have hy6 := he6.heap (heap_alloc_new w5 _); have y0 := cell_of_heap hy6 0; have y1 := cell_of_heap hy6 1; have y2 := cell_of_heap hy6 2; simp only [List.getElem?_toArray, List.getElem?_cons_zero, List.getElem?_cons_succ] at y0 y1 y2; replace hb6 := Lib.hid hb6; replace hy6 := Lib.hid hy6; replace hs6 := Lib.hid hs6; replace he6 := Lib.hid he6)
      | (go_at_call 26; go_must (refine (same01_any _ _ _ _ _ _ pb pb _ _ _ (hs4.out.ext (((HZ.out.trans he5.out).alloc _).trans he6.out)) hs6.out).mono ?_); rw [eqL_self]; rintro e w7 ⟨rfl, hd7⟩; have hb7 := hd7.ext.heap hb6.out; have r0 := cell_of_heap hb7 0; have r1 := cell_of_heap hb7 1; have r2 := cell_of_heap hb7 2; simp only [List.getElem?_toArray, List.getElem?_cons_zero, List.getElem?_cons_succ] at r0 r1 r2; have hy7 := hd7.ext.heap hy6.out; have u0 := cell_of_heap hy7 0; have u1 := cell_of_heap hy7 1; have u2 := cell_of_heap hy7 2; simp only [List.getElem?_toArray, List.getElem?_cons_zero, List.getElem?_cons_succ] at u0 u1 u2; replace hd7 := Lib.hid hd7; clear hb7 hy7)
      | (go_at_call 37; go_must (refine (like28_any _ _ _ _ _ _ _ _ _ _ xs xs _ _ _ (hs5.out.ext ((((Ext.refl _).alloc _).trans he6.out).trans hd7.out.ext)) (hH4.out.ext ((((HZ.out.trans he5.out).alloc _).trans he6.out).trans hd7.out.ext)) hx1 hx1).mono ?_); rw [eqIno_self]; rintro e w8 ⟨rfl, he8⟩; replace he8 := Lib.hid he8)
      | (go_at_call 34; refine (awake28_any _).mono ?_; rintro e w9 ⟨rfl, he9⟩))
    go_ret
    exact ⟨rfl, ((((((hX4.out.trans HZ.out).trans he5.out).alloc _).trans he6.out).trans hd7.out.ext).trans he8.out).trans he9⟩
  · have hpe : pb = [] := by rw [← hpb]; unfold putI; rw [if_neg (by rw [hck]; exact hc0)]
    have hn4 : n4 = 0 := by rw [hl4.out, hpe]; rfl
    have e0 : (ck != 0) = true := by simpa using hc0
    subst hn4
    clear hpe hck hpb hc0
    go_wp2_with (go_at_call 34; refine (awake28_any _).mono ?_; rintro e w9 ⟨rfl, he9⟩)
    go_ret
    exact ⟨rfl, (hX4.out.trans HZ.out).trans he9⟩
end Go.Proofs.Ytdocdppimpapiaa

namespace Go.Proofs.Ytdocdppimpapiaa
open Go.RowKit

theorem nodeX_put {i : Int} {bs : List Int} (hb : Bt bs) (h : (nodeX i bs).2 = 0) : checkI (nodeX i bs).1 = 0 := by
  unfold nodeX at h ⊢
  split at h
  · rename_i h1
    rw [if_pos h1]
    exact of_decide_eq_true (by kernel_rfl)
  · rename_i h1
    rw [if_neg h1]
    exact (getX_back hb h).1
theorem nodeX_len (i : Int) (bs : List Int) : (nodeX i bs).1.2.2.length ≤ 8 := by
  unfold nodeX
  split
  · exact Nat.zero_le _
  · exact getX_len

set_option maxRecDepth 100000 in
set_option maxHeartbeats 6400000 in
theorem volValues_any (i : Int) (A : Option Addr) (m c : Nat) (l : List Int) (Q : Nat → Prop) (w : World) (h : Sl (eI .u8) 1 Q w A m c l) (hb : Bt l) :
    Calls Try.prog 9 #[.int .i64 i, .slice A m c] w fun e w' => e = .returned (.bool true) ∧ Ext w w' := by
  have H := Lib.hid h
  have HB := Lib.hid (hb.take 200)
  have hlen : (l.take 200).length ≤ 1048576 := by rw [List.length_take]; omega
  clear h hb
  obtain ⟨bs, hbs⟩ : ∃ bs, l.take 200 = bs := ⟨_, rfl⟩
  rw [hbs] at HB hlen
  have HBS := Lib.hid hbs
  clear hbs
  have BK := fun h => nodeX_put (i := i) HB.out h
  have hxl := nodeX_len i bs
  obtain ⟨r, hr⟩ : ∃ r, nodeX i bs = r := ⟨_, rfl⟩
  rw [hr] at BK hxl
  have HR := Lib.hid hr
  clear hr
  obtain ⟨⟨xm, xs, xx⟩, er⟩ := r
  simp only at BK hxl
  have hx1 : xx.length ≤ 1000 := by omega
  have n1 : (er != er) = false := by simp
  have n2 : (xm != xm) = false := by simp
  have n3 : (xs != xs) = false := by simp
  obtain ⟨ck, hck⟩ : ∃ ck, checkI (xm, xs, xx) = ck := ⟨_, rfl⟩
  have HCK := Lib.hid hck
  obtain ⟨wb, hwb⟩ : ∃ wb, wholeB bs = wb := ⟨_, rfl⟩
  have HWB := Lib.hid hwb
  have hdone : (er != 0) = true ∨ ((er != 0) = false ∧ (ck == 0) = true) := by
    by_cases he0 : er = 0
    · refine .inr ⟨by simpa using he0, ?_⟩
      have := BK he0
      rw [hck] at this
      simpa using this
    · exact .inl (by simpa using he0)
  clear BK hck hwb
  go_enter Try.func9, Try.ntmps9
  go_wp2_with (first
    | (go_at_call 21; refine (cut_any _ _ _ _ _ _ _ H.out).mono ?_; rintro e w1 ⟨A1, m1, c1, rfl, S1, rfl⟩; rw [HBS.out] at S1; replace S1 := Lib.hid S1)
    | (go_at_call 48; go_must (refine (node_any _ _ _ _ bs _ _ S1.out HB.out hlen).mono ?_); rw [HR.out]; rintro e w2 ⟨A2, n2', c2, rfl, hs2, he2⟩; obtain rfl : n2' = xx.length := hs2.len; replace hs2 := Lib.hid hs2; replace he2 := Lib.hid he2)
    | (go_at_call 49; go_must (refine (rnode_any _ _ _ _ bs _ _ (S1.out.ext (he2.out.alloc _)) HB.out).mono ?_); rw [HR.out]; rintro e w3 ⟨A3, n3', c3, rfl, hs3, he3⟩; obtain rfl : n3' = xx.length := hs3.len; have hy := he3.heap (heap_alloc_new w2 _); have y0 := cell_of_heap hy 0; have y1 := cell_of_heap hy 1; have y2 := cell_of_heap hy 2; simp only [List.getElem?_toArray, List.getElem?_cons_zero, List.getElem?_cons_succ] at y0 y1 y2; have y0a := fun o => ((Ext.refl w3).alloc o).at y0; have y1a := fun o => ((Ext.refl w3).alloc o).at y1; have y2a := fun o => ((Ext.refl w3).alloc o).at y2; replace hy := Lib.hid hy; replace hs3 := Lib.hid hs3; replace he3 := Lib.hid he3))
  have hz0 := heap_alloc_new w3 (.cells #[.int .i64 xm, .int .i64 xs, .slice A3 xx.length c3] 65)
  have hy0 := ((Ext.refl w3).alloc (.cells #[.int .i64 xm, .int .i64 xs, .slice A3 xx.length c3] 65)).heap hy.out
  replace hz0 := Lib.hid hz0
  replace hy0 := Lib.hid hy0
  go_loopw [9] (fun i wr => ∃ k : Nat, k ≤ xx.length ∧ i = .int .i64 k ∧ Drawn (w3.alloc (.cells #[.int .i64 xm, .int .i64 xs, .slice A3 xx.length c3] 65)) wr) (fun i _ => xx.length - (intOf i).toNat)
  case atStart => exact ⟨0, Nat.zero_le _, rfl, Drawn.refl _⟩
  case round =>
    obtain ⟨k, hk, rfl, hd⟩ := hrel
    have hE := ((Ext.refl w3).alloc (.cells #[.int .i64 xm, .int .i64 xs, .slice A3 xx.length c3] 65)).trans hd.ext
    have hyr := hd.ext.heap hy0.out
    have hzr := hd.ext.heap hz0.out
    have p0 := cell_of_heap hyr 0; have p1 := cell_of_heap hyr 1; have p2 := cell_of_heap hyr 2; simp only [List.getElem?_toArray, List.getElem?_cons_zero, List.getElem?_cons_succ] at p0 p1 p2
    have q0 := cell_of_heap hzr 0; have q1 := cell_of_heap hzr 1; have q2 := cell_of_heap hzr 2; simp only [List.getElem?_toArray, List.getElem?_cons_zero, List.getElem?_cons_succ] at q0 q1 q2
    have HD := Lib.hid hd
    have HE := Lib.hid hE
    have HYR := Lib.hid hyr
    have HZR := Lib.hid hzr
    clear hd hE hyr hzr
    by_cases hlt : k < xx.length
    · obtain ⟨b1, o1, s1, l1, rfl, hx, _, hl1, hc1, hc2⟩ := (hs2.out.ext ((((Ext.refl _).alloc _).trans he3.out).trans HE.out)).ex k hlt
      obtain ⟨b2, o2, s2, l2, rfl, hy', _, hl2, hc3, hc4⟩ := (hs3.out.ext HE.out).ex k hlt
      rw [hx] at hy'
      simp only [Option.some.injEq, Prod.mk.injEq] at hy'
      obtain ⟨rfl, rfl⟩ := hy'
      have HX := Lib.hid hx
      have k0 : (0 : Int) ≤ (k : Int) := by omega
      have k1 : (k : Int) < (xx.length : Int) := by omega
      clear hx
      go_wp2
      go_quiet (fail)
      go_wp2
      exact ⟨⟨k + 1, by omega, by go_num, HD.out.drewN _⟩, by simp [intOf]; omega⟩
    · have hkl : ¬ ((k : Int) < (xx.length : Int)) := by omega
      have hS2r := hs2.out.ext ((((Ext.refl w2).alloc (.cells #[.int .i64 xm, .int .i64 xs, .slice A2 xx.length c2] 60)).trans he3.out).trans HE.out)
      have hS1r := S1.out.ext (((he2.out.alloc (.cells #[.int .i64 xm, .int .i64 xs, .slice A2 xx.length c2] 60)).trans he3.out).trans HE.out)
      have hXr := ((he2.out.alloc (.cells #[.int .i64 xm, .int .i64 xs, .slice A2 xx.length c2] 60)).trans he3.out).trans HE.out
      replace hS2r := Lib.hid hS2r
      replace hS1r := Lib.hid hS1r
      replace hXr := Lib.hid hXr
      rcases hdone with hd1 | ⟨hd1, hd2⟩
      · go_wp2_with (first
          | (go_at_call 50; go_must (refine (iput_any _ _ _ _ _ xx _ _ hS2r.out hx1).mono ?_); rw [HCK.out]; rintro e w4 ⟨A4, n4, c4, rfl, hs4, he4⟩; replace he4 := Lib.hid he4)
          | (go_at_call 51; go_must (refine (whole_any _ _ _ bs _ _ (hS1r.out.ext he4.out)).mono ?_); rw [HWB.out]; rintro e w5 ⟨A5, n5, c5, rfl, hs5, he5⟩; replace hs5 := Lib.hid hs5; replace he5 := Lib.hid he5)
          | (go_at_call 52; go_must (refine (rwhole_any _ _ _ bs _ _ ((hS1r.out.ext he4.out).ext he5.out)).mono ?_); rw [HWB.out]; rintro e w6 ⟨A6, n6, c6, rfl, hs6, he6⟩; replace hs6 := Lib.hid hs6; replace he6 := Lib.hid he6)
          | (go_at_call 26; go_must (refine (same01_any _ _ _ _ _ _ wb wb _ _ _ (hs5.out.ext he6.out) hs6.out).mono ?_); rw [eqL_self]; rintro e w7 ⟨rfl, hd7⟩; replace hd7 := Lib.hid hd7)
          | (go_at_call 20; refine (awake30_any _).mono ?_; rintro e w8 ⟨rfl, he8⟩))
        go_ret
        exact ⟨rfl, ((((hXr.out.trans he4.out).trans he5.out).trans he6.out).trans hd7.out.ext).trans he8⟩
      · go_wp2_with (first
          | (go_at_call 50; go_must (refine (iput_any _ _ _ _ _ xx _ _ hS2r.out hx1).mono ?_); rw [HCK.out]; rintro e w4 ⟨A4, n4, c4, rfl, hs4, he4⟩; replace he4 := Lib.hid he4)
          | (go_at_call 51; go_must (refine (whole_any _ _ _ bs _ _ (hS1r.out.ext he4.out)).mono ?_); rw [HWB.out]; rintro e w5 ⟨A5, n5, c5, rfl, hs5, he5⟩; replace hs5 := Lib.hid hs5; replace he5 := Lib.hid he5)
          | (go_at_call 52; go_must (refine (rwhole_any _ _ _ bs _ _ ((hS1r.out.ext he4.out).ext he5.out)).mono ?_); rw [HWB.out]; rintro e w6 ⟨A6, n6, c6, rfl, hs6, he6⟩; replace hs6 := Lib.hid hs6; replace he6 := Lib.hid he6)
          | (go_at_call 26; go_must (refine (same01_any _ _ _ _ _ _ wb wb _ _ _ (hs5.out.ext he6.out) hs6.out).mono ?_); rw [eqL_self]; rintro e w7 ⟨rfl, hd7⟩; replace hd7 := Lib.hid hd7)
          | (go_at_call 20; refine (awake30_any _).mono ?_; rintro e w8 ⟨rfl, he8⟩))
        go_ret
        exact ⟨rfl, ((((hXr.out.trans he4.out).trans he5.out).trans he6.out).trans hd7.out.ext).trans he8⟩
end Go.Proofs.Ytdocdppimpapiaa
