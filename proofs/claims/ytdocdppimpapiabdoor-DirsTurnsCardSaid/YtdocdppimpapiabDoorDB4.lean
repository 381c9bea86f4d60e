/-
  strings.Trim at one letter, the zero byte: is anything left?. strings.Trim at one letter, the zero byte: what comes back is empty just where nothing but zeros came in. dirs.Get: the entries of bytes. Entries and their bytes, plain: what is put is got, what is got has these bytes. No program in it.
-/
import Derived.Lib.IndexBytes
import Derived.Lib.PathFns
import Derived.Laws.BytesArg
import Derived.Test.YtdocdppimpapiabDoorDB1
import Derived.Test.YtdocdppimpapiabDoorDB2
set_option linter.unusedSimpArgs false
set_option linter.unusedVariables false
namespace Go.Proofs.YtdocdppimpapiabDoor
open Go.RowKit Go.Proofs.YtdocdppimpapiabDoorW.PrintWords

theorem Drawn0.ext {w w' : World} (h : Drawn0 w w') : Ext w w' := by
  obtain ⟨n, rfl⟩ := h
  exact (Ext.refl _).drewN _
theorem Drawn0.drawn {w w' : World} (h : Drawn0 w w') : Drawn w w' := by
  obtain ⟨n, rfl⟩ := h
  exact (Drawn.refl _).drewN _

/-- Nothing but zeros. -/
def Zr (s : ByteArray) : Prop := ∀ u ∈ s.data.toList, u = 0
theorem bt_get (s : ByteArray) (i : Nat) (h : i < s.size) : bt s i = ((s.data.toList[i]'(by simpa using h)).toNat : Int) := by
  unfold bt
  rw [dif_pos (by simpa using h)]
  rfl
theorem zr_nil {s : ByteArray} (h : s.size = 0) : Zr s := fun u hu => by
  have : s.data.toList = [] := List.eq_nil_of_length_eq_zero (by simpa using h)
  rw [this] at hu
  cases hu

open Go.Proofs.YtdocdppimpapiabDoor.PDirsGets in
theorem tl_z : ∀ (k : Nat) (x : ByteArray), x.size < k → ∃ t, strings_trimLeftByte.l0 k x 0 = some t ∧ (t.size = 0 ↔ Zr x)
  | 0, _, h => absurd h (Nat.not_lt_zero _)
  | k + 1, x, h => by
    simp only [strings_trimLeftByte.l0]
    by_cases h0 : (x.size : Int) > 0
    · have hp : 0 < x.size := by omega
      have hl : 0 < x.data.toList.length := by simpa using hp
      rw [if_pos h0, if_pos h0]
      have hb := bt_get x 0 hp
      simp only [Int.ofNat_zero] at hb
      by_cases hz : bt x 0 = 0
      · rw [if_pos hz, if_pos (by omega)]
        have hd : (x.extract 1 x.size).data.toList = x.data.toList.drop 1 := Lib.extract_to_end x 1
        obtain ⟨t, ht, hi⟩ := tl_z k (x.extract 1 x.size) (by
          rw [ByteArray.size_extract]
          omega)
        refine ⟨t, ht, hi.trans ?_⟩
        have h1 : x.data.toList[0] = 0 := by
          rw [hb] at hz
          exact UInt8.toNat_inj.1 (by show _ = 0; omega)
        unfold Zr
        rw [hd]
        constructor
        · intro hq u hu
          rw [← List.take_append_drop 1 x.data.toList, List.mem_append] at hu
          rcases hu with hu | hu
          · rw [List.take_one, List.head?_eq_getElem?, List.getElem?_eq_getElem hl] at hu
            simp only [Option.toList_some, List.mem_singleton] at hu
            rw [hu, h1]
          · exact hq u hu
        · intro hq u hu
          exact hq u (List.mem_of_mem_drop hu)
      · rw [if_neg hz]
        refine ⟨x, rfl, ⟨fun e => by omega, fun hq => ?_⟩⟩
        refine absurd ?_ hz
        rw [hb, hq _ (List.getElem_mem hl)]
        rfl
    · rw [if_neg h0]
      exact ⟨x, rfl, ⟨fun _ => zr_nil (by omega), fun _ => by omega⟩⟩

open Go.Proofs.YtdocdppimpapiabDoor.PDirsGets in
theorem tr_z : ∀ (k : Nat) (x : ByteArray), x.size < k → x.size ≤ 1048576 → ∃ t, strings_trimRightByte.l0 k x 0 = some t ∧ (Zr t ↔ Zr x) ∧ t.size ≤ x.size
  | 0, _, h, _ => absurd h (Nat.not_lt_zero _)
  | k + 1, x, h, hm => by
    simp only [strings_trimRightByte.l0]
    by_cases h0 : (x.size : Int) > 0
    · have hp : x.size - 1 < x.size := by omega
      have hl : x.size - 1 < x.data.toList.length := by simpa using hp
      have hw : wrap64 ((x.size : Int) - 1) = ((x.size - 1 : Nat) : Int) := by rw [IntWalk.wrap64_in _ ⟨by omega, by omega⟩]; omega
      rw [hw, if_pos h0, if_pos (by omega), if_pos (by omega)]
      have hb := bt_get x (x.size - 1) hp
      have hls : x.data.toList.length = (x.size - 1) + 1 := by simp; omega
      have hsn : x.data.toList = x.data.toList.take (x.size - 1) ++ [x.data.toList[x.size - 1]] := by
        conv => lhs; rw [← List.take_of_length_le (Nat.le_of_eq hls), List.take_add_one, List.getElem?_eq_getElem hl]
        rfl
      by_cases hz : bt x ((x.size - 1 : Nat) : Int) = 0
      · rw [if_pos hz, if_pos (by omega), Int.toNat_natCast]
        have hd : (x.extract 0 (x.size - 1)).data.toList = x.data.toList.take (x.size - 1) := Lib.Pa.extract_upto_list x _
        have hsz : (x.extract 0 (x.size - 1)).size = x.size - 1 := Lib.Pa.extract_upto_size x _ (by omega)
        obtain ⟨t, ht, hi, hle⟩ := tr_z k (x.extract 0 (x.size - 1)) (by omega) (by omega)
        refine ⟨t, ht, hi.trans ?_, by omega⟩
        have h1 : x.data.toList[x.size - 1] = 0 := by
          rw [hb] at hz
          exact UInt8.toNat_inj.1 (by show _ = 0; omega)
        unfold Zr
        rw [hd]
        constructor
        · intro hq u hu
          rw [hsn, List.mem_append] at hu
          rcases hu with hu | hu
          · exact hq u hu
          · simp only [List.mem_singleton] at hu
            rw [hu, h1]
        · intro hq u hu
          exact hq u (List.mem_of_mem_take hu)
      · rw [if_neg hz]
        exact ⟨x, rfl, Iff.rfl, Nat.le_refl _⟩
    · rw [if_neg h0]
      exact ⟨x, rfl, Iff.rfl, Nat.le_refl _⟩
end Go.Proofs.YtdocdppimpapiabDoor

namespace Go.Proofs.YtdocdppimpapiabDoor
open Go.RowKit Go.Proofs.YtdocdppimpapiabDoorW.PrintWords

def zrB (s : ByteArray) : Bool := s.data.toList.all (· == 0)
theorem zrB_iff (s : ByteArray) : zrB s = true ↔ Zr s := by
  unfold zrB Zr
  rw [List.all_eq_true]
  exact ⟨fun h u hu => by simpa using h u hu, fun h u hu => by simpa using h u hu⟩
theorem empty_iff (t : ByteArray) : (t.toList == []) = true ↔ t.size = 0 := by
  rw [Lib.toList_data, beq_iff_eq]
  constructor
  · intro h
    rw [Lib.size_eq, h]
    rfl
  · intro h
    exact List.eq_nil_of_length_eq_zero (by rw [← Lib.size_eq]; exact h)

open Go.Proofs.YtdocdppimpapiabDoor.PDirsGets in
set_option maxHeartbeats 800000 in
set_option maxRecDepth 100000 in
theorem trim_any (s : ByteArray) (hs : s.size ≤ 1048576) (w : World) :
    Calls Tryd.prog 40 #[.string s, .string ⟨#[0]⟩] w fun e w' => ∃ t : ByteArray, e = .returned (.string t) ∧ (t.toList == []) = zrB s ∧ Drawn w w' := by
  by_cases h0 : (s.toList == []) = true
  · have hz : zrB s = true := (zrB_iff s).2 (zr_nil ((empty_iff s).1 h0))
    go_enter Tryd.func40, Tryd.ntmps40
    go_wp2
    go_ret
    exact ⟨s, rfl, by rw [h0, hz], Drawn.refl _⟩
  · have h1 : (s.toList == []) = false := by simpa using h0
    obtain ⟨t1, ht1, hz1, hl1⟩ := tr_z (s.size + 1) s (by omega) hs
    obtain ⟨t2, ht2, hz2⟩ := tl_z (s.size + 1) t1 (by omega)
    have hfin : (t2.toList == []) = zrB s := by
      rw [Bool.eq_iff_iff, empty_iff, zrB_iff, hz2, hz1]
    have HFIN := Lib.hid hfin
    have HT1 := Lib.hid (show strings_trimRightByte.f (s.size + 1) s 0 = some t1 from ht1)
    have HT2 := Lib.hid (show strings_trimLeftByte.f (s.size + 1) t1 0 = some t2 from ht2)
    clear h0 hz1 hl1 hz2 hfin ht1 ht2
    go_enter Tryd.func40, Tryd.ntmps40
    go_wp2
    go_quiet (first
      | (go_at_call 62; exact quietD ((strings_trimRightByte.calls _ _ _ _ _ HT1.out).mono fun _ _ r => ⟨r.1, Drawn0.drawn r.2⟩))
      | (go_at_call 61; exact quietD ((strings_trimLeftByte.calls _ _ _ _ _ HT2.out).mono fun _ _ r => ⟨r.1, Drawn0.drawn r.2⟩)))
    go_wp2
    go_ret
    exact ⟨t2, rfl, HFIN.out, (Drawn.refl _).drewN _⟩
end Go.Proofs.YtdocdppimpapiabDoor

namespace Go.Proofs.YtdocdppimpapiabDoor
open Go.RowKit Go.Proofs.YtdocdppimpapiabDoorW.PrintWords

/-- The number ahead of a name, the eleven bytes behind it. -/
def hdN (l : List Int) : Int := numB (l.take 1)
def rawN (l : List Int) : ByteArray := strOfNums ((l.drop 1).take 11)
def minN (l : List Int) : Nat := min (hdN l).toNat 11
def decN (l : List Int) : En := ((rawN l).extract 0 (minN l), numB ((l.drop 12).take 4))
def goodN (l : List Int) : Bool := decide (hdN l ≤ 11) && zrB ((rawN l).extract (minN l) (rawN l).size)
def outN (l : List Int) (m : Nat) : List En := (List.range m).map fun i => decN (l.drop (16 * i))
def gdN (l : List Int) (m : Nat) : Bool := (List.range m).all fun i => goodN (l.drop (16 * i))
/-- Entries of bytes, and the error. -/
def getD (bs : List Int) : List En × Int :=
  if 512 < bs.length then ([], 17) else if bs.length % 16 ≠ 0 then ([], 3) else
    if gdN bs (bs.length / 16) = true ∧ checkE (outN bs (bs.length / 16)) = 0 then (outN bs (bs.length / 16), 0) else ([], 4)
theorem outN_succ (l : List Int) (m : Nat) : outN l (m + 1) = outN l m ++ [decN (l.drop (16 * m))] := by simp [outN, List.range_succ]
theorem gdN_succ (l : List Int) (m : Nat) : gdN l (m + 1) = (gdN l m && goodN (l.drop (16 * m))) := by simp [gdN, List.range_succ]
theorem outN_len (l : List Int) (m : Nat) : (outN l m).length = m := by simp [outN]

theorem conv_sl {Q : Nat → Prop} {w : World} {A : Option Addr} {n cap : Nat} {l : List Int} (h : Sl (eI .u8) 1 Q w A n cap l) (hne : l ≠ []) :
    (convert 29 9 (.slice A n cap)).run Tryd.prog w = .ok (.string (strOfNums l)) w := by
  have h0 : 0 < l.length := List.length_pos_iff.2 hne
  obtain ⟨b, o, rfl, _, _⟩ := h.at_ 0 l[0] (List.getElem?_eq_getElem h0)
  refine run_convert_bytes_arg w 29 5 Tryd.underlying29 Tryd.underlying5 b o n cap l h.len.symm (fun i hi => ?_) 9 Tryd.underlying9
  have hi' : i < l.length := by rw [← h.len]; exact hi
  obtain ⟨b', o', e, _, hc⟩ := h.at_ i l[i] (List.getElem?_eq_getElem hi')
  simp only [Option.some.injEq, Addr.mk.injEq, and_true] at e
  obtain ⟨rfl, rfl⟩ := e
  have := hc 0 (.int .u8 l[i]) rfl
  rw [Nat.mul_one, Nat.add_zero] at this
  rw [this, List.getD_eq_getElem?_getD, List.getElem?_eq_getElem hi']
  rfl

theorem tmod16 (m : Nat) : (m : Int).tmod 16 = ((m % 16 : Nat) : Int) := by rw [Int.tmod_eq_emod_of_nonneg (by omega)]; omega

/-- Entries and an error come back. -/
def RetEn (r : List En × Int) (w : World) (e : Ending) (w' : World) : Prop :=
  ∃ A n cap, e = .returned (.tuple #[.slice A n cap, .int .i64 r.2]) ∧ Sl eE 2 (fun k => w.heap.size ≤ k) w' A n cap r.1 ∧ Ext w w'

def lenOf (v : Value) : Nat := match v with | .slice _ n _ => n | _ => 0
theorem info_dn : (Tryd.prog.info? 47).map (fun i => (i.zero, i.size, i.bytes)) = some (some (.agg #[.string ⟨#[]⟩, .int .i64 0]), 2, 24) := by kernel_rfl

/-- Where the reading of entries stands: the reader at g. -/
structure NSt (g : Nat) (W0 wr : World) (A : Option Addr) (n cap : Nat) (out : List En) (l : List Int) : Prop where
  ow : Ow eE 2 47 (g + 1) wr A n cap out
  inat : InAt (fun q => W0.heap.size ≤ q ∧ q < g) wr g l 0
  ext : Ext W0 wr
  W0_le : W0.heap.size ≤ g
theorem wrap_i64 {x : Int} (h0 : 0 ≤ x) (h1 : x < 9223372036854775808) : IntKind.i64.wrap x = x := by
  simp [IntKind.wrap, IntKind.signed, IntKind.bits]; omega
theorem Mut.heap {g k : Nat} {a b : World} (h : Mut g a b) {o : Obj} (hh : a.heap[k]? = some o) (hk : k ≠ g) : b.heap[k]? = some o := (h.block k (lt_of_heap hh) (fun e => hk (by injection e))).trans hh
theorem NSt.step {g : Nat} {W0 wr w5 W w7 : World} {A A7 : Option Addr} {n cap n7 cap7 : Nat} {out : List En} {l l' : List Int} {e : En}
    (h : NSt g W0 wr A n cap out l) (h5 : Mut g wr w5) (hi : InAt (fun q => W0.heap.size ≤ q ∧ q < g) w5 g l' 0) (hW : Ext w5 W)
    (hO : Ow eE 2 47 (g + 1) w7 A7 n7 cap7 (out ++ [e])) (hg : W.grownBy w7 (Value.slice A n cap).ownBlock) :
    NSt g W0 w7 A7 n7 cap7 (out ++ [e]) l' := by
  have rows : ∀ q, (Value.slice A n cap).ownBlock = some q → g + 1 ≤ q ∧ q < wr.heap.size := h.ow.lt
  have keep : ∀ q, q ≤ g → q < w5.heap.size → w7.heap[q]? = w5.heap[q]? := fun q h1 h2 =>
    (hg.block q (Nat.lt_of_lt_of_le h2 hW.size) fun e => by have := (rows q e.symm).1; omega).trans (hW.block q h2)
  refine ⟨hO, hi.mut (keep g (Nat.le_refl _) hi.lt) fun q _ h2 h3 => keep q (by have := h2.2; omega) h3, ?_, h.W0_le⟩
  exact ((Mut.ext h.ext h5 h.W0_le).trans hW).grown hg fun q hq => by have := (rows q hq).1; have := h.W0_le; omega

set_option maxRecDepth 100000 in
set_option maxHeartbeats 6400000 in
theorem dget_any (A : Option Addr) (m c : Nat) (bs : List Int) (Q : Nat → Prop) (w : World) (h : Sl (eI .u8) 1 Q w A m c bs) (hb : Bt bs) :
    Calls Tryd.prog 14 #[.slice A m c] w (RetEn (getD bs) w) := by
  have HL := Lib.hid h.len
  have H := Lib.hid h
  have HB := Lib.hid hb
  clear h hb
  by_cases h512 : 512 < m
  · have E : getD bs = ([], 17) := by unfold getD; rw [if_pos (by rw [← HL.out]; exact h512)]
    rw [E]
    go_enter Tryd.func14, Tryd.ntmps14
    go_wp2
    go_ret2
    exact ⟨none, 0, 0, rfl, Sl.nil _ _ none 0 (Nat.zero_le _), Ext.refl _⟩
  have hm5 : m ≤ 512 := by omega
  by_cases h16 : m % 16 = 0
  · obtain ⟨j0, hj0⟩ : ∃ j0, bs.length / 16 = j0 := ⟨_, rfl⟩
    have hlen : bs.length = 16 * j0 := by have := HL.out; omega
    have E : getD bs = if gdN bs j0 = true ∧ checkE (outN bs j0) = 0 then (outN bs j0, 0) else ([], 4) := by
      unfold getD; rw [if_neg (by rw [← HL.out]; exact h512), if_neg (by rw [← HL.out]; omega), hj0]
    rw [E]
    have hr : ((m : Int) % 16 != 0) = false := by simp; omega
    obtain ⟨r, hrr⟩ : ∃ r : List En × Int, (if gdN bs j0 = true ∧ checkE (outN bs j0) = 0 then (outN bs j0, 0) else ([], 4)) = r := ⟨_, rfl⟩
    rw [hrr]
    have HRR := Lib.hid hrr
    have HLEN := Lib.hid hlen
    have hj32 : j0 ≤ 32 := by have := HL.out; omega
    clear E hj0 hlen h16 h512 hrr
    go_enter Tryd.func14, Tryd.ntmps14
    go_wp2_with fail
    refine (of_any _ _ _ _ _ _ H.out HB.out (by have := HL.out; omega)).mono ?_
    rintro e w2 ⟨g, rfl, hg2, hi2, he2⟩
    have hst : NSt g w w2 none 0 0 (outN bs 0) (bs.drop (16 * 0)) := ⟨Ow.nil _, hi2, he2, hg2⟩
    replace hst := Lib.hid hst
    have hgs := hi2.lt
    clear hi2 he2
    go_wp2
    go_loopw [5, 6] (fun v b wr => ∃ (j n' cap' : Nat) (A' : Option Addr), j ≤ j0 ∧ v = .slice A' n' cap' ∧ b = .bool (gdN bs j) ∧ NSt g w wr A' n' cap' (outN bs j) (bs.drop (16 * j))) (fun v _ _ => j0 - lenOf v)
    case atStart => exact ⟨0, 0, 0, none, Nat.zero_le _, rfl, rfl, hst.out⟩
    case round =>
      clear hst
      obtain ⟨j, n', cap', A', hj, rfl, rfl, hst⟩ := hrel
      have hn' : n' = j := by rw [hst.ow.len, outN_len]
      subst hn'
      obtain ⟨l, hl⟩ : ∃ l, bs.drop (16 * n') = l := ⟨_, rfl⟩
      obtain ⟨q, hq⟩ : ∃ q, l.length = q := ⟨_, rfl⟩
      have hqq : q = 16 * (j0 - n') := by rw [← hq, ← hl, List.length_drop, HLEN.out]; omega
      rw [hl] at hst
      have HST := Lib.hid hst
      have HBL := Lib.hid hl
      have HQ := Lib.hid hq
      obtain ⟨bo, hbo⟩ : ∃ bo, outN bs n' = bo := ⟨_, rfl⟩
      obtain ⟨bg, hbg⟩ : ∃ bg, gdN bs n' = bg := ⟨_, rfl⟩
      rw [hbg]
      have HBG := Lib.hid hbg
      clear hst hl hbo hbg
      by_cases hlt : n' < j0
      · have hq16 : 16 ≤ q := by omega
        have hq0 : (0 : Int) < (q : Int) := by omega
        have hbt : Bt l := by rw [← HBL.out]; exact HB.out.drop _
        obtain ⟨a, ha⟩ : ∃ a, numB (l.take 1) = a := ⟨_, rfl⟩
        have hab := numB_bd (l.take 1) (hbt.take 1)
        obtain ⟨v, hv⟩ : ∃ v, numB ((l.drop 12).take 4) = v := ⟨_, rfl⟩
        have hvb := numB_bd ((l.drop 12).take 4) ((hbt.drop 12).take 4)
        rw [ha, List.length_take, hq, Nat.min_eq_left (by omega)] at hab
        rw [hv, List.length_take, List.length_drop, hq, Nat.min_eq_left (by omega)] at hvb
        obtain ⟨ha0, ha1⟩ := hab
        obtain ⟨hv0, hv1⟩ := hvb
        replace ha1 : a < 256 := by simpa using ha1
        replace hv1 : v < 4294967296 := by simpa using hv1
        obtain ⟨raw, hraw⟩ : ∃ raw, (l.drop 1).take 11 = raw := ⟨_, rfl⟩
        obtain ⟨s, hs⟩ : ∃ s, strOfNums raw = s := ⟨_, rfl⟩
        have hrl : raw.length = 11 := by rw [← hraw, List.length_take, List.length_drop, hq]; omega
        have hsz : s.size = 11 := by rw [← hs, strOfNums_size, hrl]
        have HNE := Lib.hid (show raw ≠ [] by rintro rfl; cases hrl)
        have HSS := Lib.hid hs
        have HR0 := Lib.hid (show getI l 0 1 = (a, l.drop 1, 0) by unfold getI; rw [if_pos rfl, if_neg (by omega), ha])
        have HR1 := Lib.hid (show rawI (l.drop 1) 0 11 = (raw, l.drop 12, 0) by unfold rawI; rw [if_pos rfl, if_neg (by rw [List.length_drop]; omega), hraw, List.drop_drop])
        have HR2 := Lib.hid (show getI (l.drop 12) 0 4 = (v, l.drop 16, 0) by unfold getI; rw [if_pos rfl, if_neg (by rw [List.length_drop]; omega), hv, List.drop_drop])
        have hdec : decN l = (s.extract 0 (min a.toNat 11), v) := by unfold decN minN rawN hdN; rw [ha, hv, hraw, hs]
        have hgood : goodN l = (decide (a ≤ 11) && zrB (s.extract (min a.toNat 11) s.size)) := by unfold goodN minN rawN hdN; rw [ha, hraw, hs]
        have HDEC := Lib.hid hdec
        have HGOOD := Lib.hid hgood
        have HWA := Lib.hid (wrap_i64 ha0 (by omega))
        have HWV := Lib.hid (wrap_i64 hv0 (by omega))
        have tok1 : True := trivial
        clear ha hv hraw hs hrl hdec hgood hbt hqq hq
        by_cases ha11 : a ≤ 11
        · obtain ⟨d, rfl⟩ : ∃ d : Nat, a = (d : Int) := ⟨a.toNat, by omega⟩
          have hd11 : d ≤ 11 := by omega
          obtain ⟨tl, htl⟩ : ∃ tl, s.extract d 11 = tl := ⟨_, rfl⟩
          obtain ⟨nm, hnm⟩ : ∃ nm, s.extract 0 d = nm := ⟨_, rfl⟩
          obtain ⟨zb, hzb⟩ : ∃ zb, zrB tl = zb := ⟨_, rfl⟩
          have HZ := Lib.hid hzb
          have HZS := Lib.hid (show tl.size ≤ 1048576 by rw [← htl, ByteArray.size_extract]; omega)
          have HD := Lib.hid (show decN l = (nm, v) by rw [HDEC.out, Int.toNat_natCast, Nat.min_eq_left hd11, hnm])
          have HG := Lib.hid (show goodN l = zb by rw [HGOOD.out, Int.toNat_natCast, Nat.min_eq_left hd11, hsz, htl, hzb, decide_eq_true (by omega), Bool.true_and])
          clear hzb
          cases bg
          · go_upto_region 14 with (first
              | (go_at_call 37; go_must (refine (left_any _ _ _ _ HST.out.inat).mono ?_); rintro e w' ⟨rfl, rfl⟩; rw [HQ.out])
              | (go_at_call 39; go_must (refine (iraw_any _ _ _ 11 _ hi1.out (by decide)).mono ?_); rw [HR1.out]; rintro e w2 ⟨A2, n2, cap2, rfl, hs2, hi2, hm2⟩; have HK := conv_sl hs2 HNE.out; rw [HSS.out] at HK; replace hi2 := Lib.hid hi2; replace hm2 := Lib.hid hm2; clear hs2)
              | (have _t := tok1; go_at_call 38; go_must (refine (iget_any _ _ _ 1 _ HST.out.inat (by decide) (by decide)).mono ?_); clear tok1; rw [HR0.out]; rintro e w1 ⟨rfl, hi1, hm1⟩; replace hi1 := Lib.hid hi1; replace hm1 := Lib.hid hm1)
              | (go_at_call 38; go_must (refine (iget_any _ _ _ 4 _ hi2.out (by decide) (by decide)).mono ?_); rw [HR2.out]; rintro e w3 ⟨rfl, hi3, hm3⟩; have b3 := heap_alloc_new w3 (.cells #[.string ⟨#[]⟩, .int .i64 v] 47); have x0 := cell_of_heap b3 0; have x1 := cell_of_heap b3 1; simp only [List.getElem?_toArray, List.getElem?_cons_zero, List.getElem?_cons_succ] at x0 x1; have fx0 := free_of_heap b3 0; have fx1 := free_of_heap b3 1; replace hi3 := Lib.hid hi3; replace hm3 := Lib.hid hm3))
            have hM := Lib.hid ((hm1.out.trans hm2.out).trans hm3.out)
            have hE := ((Ext.refl w3).alloc (.cells #[.string nm, .int .i64 v] 47)).alloc (.cells #[.string nm, .int .i64 v] 47)
            have hE' := Lib.hid hE
            have hOW := (Ow.mut HST.out.ow hM.out (Nat.lt_succ_self g)).ext hE
            have hSL := Sl.laid (eE_len) (w3.alloc (.cells #[.string nm, .int .i64 v] 47)) [(nm, v)] #[.string nm, .int .i64 v] 47 1 rfl rfl (by decide)
            simp only [World.size_setCell, World.size_alloc] at hSL
            have HOW := Lib.hid hOW
            have HSL := Lib.hid hSL
            have HBASE := Lib.hid (Nat.le_trans hi3.out.lt hE.size)
            clear hE hOW hSL
            go_wp2_with (at_builtin; refine wpList_app _ rfl _ _ 27 rfl info_dn Tryd.underlying27 rfl (by decide) eE_len eE_one (base := g + 1) HOW.out rfl HSL.out rfl (by rw [outN_len, List.length_singleton]; omega) (by rw [outN_len, List.length_singleton]; omega) HBASE.out ?_; intro A7 n7 cap7 w7 hO7 hg7 _ _; replace hO7 := Lib.hid hO7; replace hg7 := Lib.hid hg7)
            have hfin := NSt.step HST.out hM.out hi3.out hE'.out hO7.out hg7.out
            have hlen7 := hO7.out.len
            refine ⟨⟨n' + 1, n7, cap7, A7, by omega, rfl, by rw [gdN_succ, HBG.out]; rfl, ?_⟩, ?_⟩
            · rw [outN_succ, HBL.out, HD.out, show 16 * (n' + 1) = 16 * n' + 16 by omega, ← List.drop_drop, HBL.out]
              exact hfin
            · rw [List.length_append, outN_len, List.length_singleton] at hlen7
              show j0 - n7 < j0 - n'
              omega
          · go_upto_region 14 with (first
              | (go_at_call 37; go_must (refine (left_any _ _ _ _ HST.out.inat).mono ?_); rintro e w' ⟨rfl, rfl⟩; rw [HQ.out])
              | (go_at_call 39; go_must (refine (iraw_any _ _ _ 11 _ hi1.out (by decide)).mono ?_); rw [HR1.out]; rintro e w2 ⟨A2, n2, cap2, rfl, hs2, hi2, hm2⟩; have HK := conv_sl hs2 HNE.out; rw [HSS.out] at HK; replace hi2 := Lib.hid hi2; replace hm2 := Lib.hid hm2; clear hs2)
              | (have _t := tok1; go_at_call 38; go_must (refine (iget_any _ _ _ 1 _ HST.out.inat (by decide) (by decide)).mono ?_); clear tok1; rw [HR0.out]; rintro e w1 ⟨rfl, hi1, hm1⟩; replace hi1 := Lib.hid hi1; replace hm1 := Lib.hid hm1)
              | (go_at_call 38; go_must (refine (iget_any _ _ _ 4 _ hi2.out (by decide) (by decide)).mono ?_); rw [HR2.out]; rintro e w3 ⟨rfl, hi3, hm3⟩; have b3 := heap_alloc_new w3 (.cells #[.string ⟨#[]⟩, .int .i64 v] 47); have x0 := cell_of_heap b3 0; have x1 := cell_of_heap b3 1; simp only [List.getElem?_toArray, List.getElem?_cons_zero, List.getElem?_cons_succ] at x0 x1; have fx0 := free_of_heap b3 0; have fx1 := free_of_heap b3 1; replace hi3 := Lib.hid hi3; replace hm3 := Lib.hid hm3)
              | (go_at_call 40; go_must (refine (trim_any _ HZS.out _).mono ?_); rintro e w4 ⟨tt, rfl, htt, hd4⟩; replace htt := htt.trans HZ.out; have b4 := hd4.ext.heap b3; have y0 := cell_of_heap b4 0; have y1 := cell_of_heap b4 1; simp only [List.getElem?_toArray, List.getElem?_cons_zero, List.getElem?_cons_succ] at y0 y1; have fy0 := free_of_heap b4 0; have fy1 := free_of_heap b4 1; replace hd4 := Lib.hid hd4; clear b4))
            have hM := Lib.hid ((hm1.out.trans hm2.out).trans hm3.out)
            have hE := ((((Ext.refl w3).alloc _).trans hd4.out.ext).setCell (p := ⟨w3.heap.size, 0, none⟩) (Nat.le_refl _) (.string nm)).alloc (.cells #[.string nm, .int .i64 v] 47)
            have hE' := Lib.hid hE
            have hOW := (Ow.mut HST.out.ow hM.out (Nat.lt_succ_self g)).ext hE
            have hSL := Sl.laid (eE_len) (w4.setCell ⟨w3.heap.size, 0, none⟩ (.string nm)) [(nm, v)] #[.string nm, .int .i64 v] 47 1 rfl rfl (by decide)
            simp only [World.size_setCell, World.size_alloc] at hSL
            have HOW := Lib.hid hOW
            have HSL := Lib.hid hSL
            have HBASE := Lib.hid (Nat.le_trans hi3.out.lt hE.size)
            clear hE hOW hSL
            go_wp2_with (at_builtin; refine wpList_app _ rfl _ _ 27 rfl info_dn Tryd.underlying27 rfl (by decide) eE_len eE_one (base := g + 1) HOW.out rfl HSL.out rfl (by rw [outN_len, List.length_singleton]; omega) (by rw [outN_len, List.length_singleton]; omega) HBASE.out ?_; intro A7 n7 cap7 w7 hO7 hg7 _ _; replace hO7 := Lib.hid hO7; replace hg7 := Lib.hid hg7)
            have hfin := NSt.step HST.out hM.out hi3.out hE'.out hO7.out hg7.out
            have hlen7 := hO7.out.len
            refine ⟨⟨n' + 1, n7, cap7, A7, by omega, rfl, by rw [gdN_succ, HBG.out, HBL.out, HG.out]; rfl, ?_⟩, ?_⟩
            · rw [outN_succ, HBL.out, HD.out, show 16 * (n' + 1) = 16 * n' + 16 by omega, ← List.drop_drop, HBL.out]
              exact hfin
            · rw [List.length_append, outN_len, List.length_singleton] at hlen7
              show j0 - n7 < j0 - n'
              omega
        · obtain ⟨nm, hnm⟩ : ∃ nm, s.extract 0 11 = nm := ⟨_, rfl⟩
          have hma : min a.toNat 11 = 11 := by omega
          have HD := Lib.hid (show decN l = (nm, v) by rw [HDEC.out, hma, hnm])
          have HG := Lib.hid (show goodN l = false by rw [HGOOD.out, decide_eq_false ha11, Bool.false_and])
          clear hma
          cases bg
          · go_upto_region 14 with (first
              | (go_at_call 37; go_must (refine (left_any _ _ _ _ HST.out.inat).mono ?_); rintro e w' ⟨rfl, rfl⟩; rw [HQ.out])
              | (go_at_call 39; go_must (refine (iraw_any _ _ _ 11 _ hi1.out (by decide)).mono ?_); rw [HR1.out]; rintro e w2 ⟨A2, n2, cap2, rfl, hs2, hi2, hm2⟩; have HK := conv_sl hs2 HNE.out; rw [HSS.out] at HK; replace hi2 := Lib.hid hi2; replace hm2 := Lib.hid hm2; clear hs2)
              | (have _t := tok1; go_at_call 38; go_must (refine (iget_any _ _ _ 1 _ HST.out.inat (by decide) (by decide)).mono ?_); clear tok1; rw [HR0.out]; rintro e w1 ⟨rfl, hi1, hm1⟩; replace hi1 := Lib.hid hi1; replace hm1 := Lib.hid hm1)
              | (go_at_call 38; go_must (refine (iget_any _ _ _ 4 _ hi2.out (by decide) (by decide)).mono ?_); rw [HR2.out]; rintro e w3 ⟨rfl, hi3, hm3⟩; have b3 := heap_alloc_new w3 (.cells #[.string ⟨#[]⟩, .int .i64 v] 47); have x0 := cell_of_heap b3 0; have x1 := cell_of_heap b3 1; simp only [List.getElem?_toArray, List.getElem?_cons_zero, List.getElem?_cons_succ] at x0 x1; have fx0 := free_of_heap b3 0; have fx1 := free_of_heap b3 1; replace hi3 := Lib.hid hi3; replace hm3 := Lib.hid hm3))
            have hM := Lib.hid ((hm1.out.trans hm2.out).trans hm3.out)
            have hE := ((Ext.refl w3).alloc (.cells #[.string nm, .int .i64 v] 47)).alloc (.cells #[.string nm, .int .i64 v] 47)
            have hE' := Lib.hid hE
            have hOW := (Ow.mut HST.out.ow hM.out (Nat.lt_succ_self g)).ext hE
            have hSL := Sl.laid (eE_len) (w3.alloc (.cells #[.string nm, .int .i64 v] 47)) [(nm, v)] #[.string nm, .int .i64 v] 47 1 rfl rfl (by decide)
            simp only [World.size_setCell, World.size_alloc] at hSL
            have HOW := Lib.hid hOW
            have HSL := Lib.hid hSL
            have HBASE := Lib.hid (Nat.le_trans hi3.out.lt hE.size)
            clear hE hOW hSL
            go_wp2_with (at_builtin; refine wpList_app _ rfl _ _ 27 rfl info_dn Tryd.underlying27 rfl (by decide) eE_len eE_one (base := g + 1) HOW.out rfl HSL.out rfl (by rw [outN_len, List.length_singleton]; omega) (by rw [outN_len, List.length_singleton]; omega) HBASE.out ?_; intro A7 n7 cap7 w7 hO7 hg7 _ _; replace hO7 := Lib.hid hO7; replace hg7 := Lib.hid hg7)
            have hfin := NSt.step HST.out hM.out hi3.out hE'.out hO7.out hg7.out
            have hlen7 := hO7.out.len
            refine ⟨⟨n' + 1, n7, cap7, A7, by omega, rfl, by rw [gdN_succ, HBG.out]; rfl, ?_⟩, ?_⟩
            · rw [outN_succ, HBL.out, HD.out, show 16 * (n' + 1) = 16 * n' + 16 by omega, ← List.drop_drop, HBL.out]
              exact hfin
            · rw [List.length_append, outN_len, List.length_singleton] at hlen7
              show j0 - n7 < j0 - n'
              omega
          · go_upto_region 14 with (first
              | (go_at_call 37; go_must (refine (left_any _ _ _ _ HST.out.inat).mono ?_); rintro e w' ⟨rfl, rfl⟩; rw [HQ.out])
              | (go_at_call 39; go_must (refine (iraw_any _ _ _ 11 _ hi1.out (by decide)).mono ?_); rw [HR1.out]; rintro e w2 ⟨A2, n2, cap2, rfl, hs2, hi2, hm2⟩; have HK := conv_sl hs2 HNE.out; rw [HSS.out] at HK; replace hi2 := Lib.hid hi2; replace hm2 := Lib.hid hm2; clear hs2)
              | (have _t := tok1; go_at_call 38; go_must (refine (iget_any _ _ _ 1 _ HST.out.inat (by decide) (by decide)).mono ?_); clear tok1; rw [HR0.out]; rintro e w1 ⟨rfl, hi1, hm1⟩; replace hi1 := Lib.hid hi1; replace hm1 := Lib.hid hm1)
              | (go_at_call 38; go_must (refine (iget_any _ _ _ 4 _ hi2.out (by decide) (by decide)).mono ?_); rw [HR2.out]; rintro e w3 ⟨rfl, hi3, hm3⟩; have b3 := heap_alloc_new w3 (.cells #[.string ⟨#[]⟩, .int .i64 v] 47); have x0 := cell_of_heap b3 0; have x1 := cell_of_heap b3 1; simp only [List.getElem?_toArray, List.getElem?_cons_zero, List.getElem?_cons_succ] at x0 x1; have fx0 := free_of_heap b3 0; have fx1 := free_of_heap b3 1; replace hi3 := Lib.hid hi3; replace hm3 := Lib.hid hm3))
            have hM := Lib.hid ((hm1.out.trans hm2.out).trans hm3.out)
            have hE := ((Ext.refl w3).alloc (.cells #[.string nm, .int .i64 v] 47)).alloc (.cells #[.string nm, .int .i64 v] 47)
            have hE' := Lib.hid hE
            have hOW := (Ow.mut HST.out.ow hM.out (Nat.lt_succ_self g)).ext hE
            have hSL := Sl.laid (eE_len) (w3.alloc (.cells #[.string nm, .int .i64 v] 47)) [(nm, v)] #[.string nm, .int .i64 v] 47 1 rfl rfl (by decide)
            simp only [World.size_setCell, World.size_alloc] at hSL
            have HOW := Lib.hid hOW
            have HSL := Lib.hid hSL
            have HBASE := Lib.hid (Nat.le_trans hi3.out.lt hE.size)
            clear hE hOW hSL
            go_wp2_with (at_builtin; refine wpList_app _ rfl _ _ 27 rfl info_dn Tryd.underlying27 rfl (by decide) eE_len eE_one (base := g + 1) HOW.out rfl HSL.out rfl (by rw [outN_len, List.length_singleton]; omega) (by rw [outN_len, List.length_singleton]; omega) HBASE.out ?_; intro A7 n7 cap7 w7 hO7 hg7 _ _; replace hO7 := Lib.hid hO7; replace hg7 := Lib.hid hg7)
            have hfin := NSt.step HST.out hM.out hi3.out hE'.out hO7.out hg7.out
            have hlen7 := hO7.out.len
            refine ⟨⟨n' + 1, n7, cap7, A7, by omega, rfl, by rw [gdN_succ, HBG.out, HBL.out, HG.out]; rfl, ?_⟩, ?_⟩
            · rw [outN_succ, HBL.out, HD.out, show 16 * (n' + 1) = 16 * n' + 16 by omega, ← List.drop_drop, HBL.out]
              exact hfin
            · rw [List.length_append, outN_len, List.length_singleton] at hlen7
              show j0 - n7 < j0 - n'
              omega
      · obtain rfl : n' = j0 := by omega
        have hq0 : q = 0 := by omega
        subst hq0
        have hS := HST.out.ow.sl eE_len
        have HS := Lib.hid hS
        have HX := Lib.hid HST.out.ext
        have hgw : ∀ k, g + 1 ≤ k → w.heap.size ≤ k := fun k hk => by omega
        have HGW := Lib.hid hgw
        obtain ⟨ce, hce⟩ : ∃ ce, checkE (outN bs n') = ce := ⟨_, rfl⟩
        have HCE := Lib.hid hce
        clear hS hqq hgw hce
        cases bg
        · have E : r = ([], 4) := by rw [← HRR.out, if_neg (by rw [HBG.out]; rintro ⟨h, _⟩; cases h)]
          have EE := Lib.hid E
          clear E
          go_wp2_with (first
            | (go_at_call 37; go_must (refine (left_any _ _ _ _ HST.out.inat).mono ?_); rintro e w' ⟨rfl, rfl⟩; rw [HQ.out]))
          go_ret2
          rw [EE.out]
          exact ⟨none, 0, 0, rfl, Sl.nil _ _ none 0 (Nat.zero_le _), HX.out⟩
        · by_cases hc0 : ce = 0
          · subst hc0
            have E : r = (outN bs n', 0) := by rw [← HRR.out, if_pos ⟨HBG.out, HCE.out⟩]
            have EE := Lib.hid E
            clear E
            go_wp2_with (first
              | (go_at_call 37; go_must (refine (left_any _ _ _ _ HST.out.inat).mono ?_); rintro e w' ⟨rfl, rfl⟩; rw [HQ.out])
              | (go_at_call 8; go_must (refine (dcheck_any _ _ _ _ _ _ HS.out).mono ?_); rw [HCE.out]; rintro e w9 ⟨rfl, he9⟩; replace he9 := Lib.hid he9))
            go_ret2
            rw [EE.out]
            exact ⟨A', n', cap', rfl, (HS.out.ext he9.out).mono fun k hk => HGW.out k (by have := hk.1; omega), HX.out.trans he9.out⟩
          · have E : r = ([], 4) := by rw [← HRR.out, if_neg (by rintro ⟨_, h⟩; exact hc0 (HCE.out.symm.trans h))]
            have EE := Lib.hid E
            have hcb : (ce != 0) = true := by simpa using hc0
            clear E hc0
            go_wp2_with (first
              | (go_at_call 37; go_must (refine (left_any _ _ _ _ HST.out.inat).mono ?_); rintro e w' ⟨rfl, rfl⟩; rw [HQ.out])
              | (go_at_call 8; go_must (refine (dcheck_any _ _ _ _ _ _ HS.out).mono ?_); rw [HCE.out]; rintro e w9 ⟨rfl, he9⟩; replace he9 := Lib.hid he9))
            go_ret2
            rw [EE.out]
            exact ⟨none, 0, 0, rfl, Sl.nil _ _ none 0 (Nat.zero_le _), HX.out.trans he9.out⟩
  · have E : getD bs = ([], 3) := by unfold getD; rw [if_neg (by rw [← HL.out]; exact h512), if_pos (by rw [← HL.out]; exact h16)]
    rw [E]
    have hr : ((m : Int) % 16 != 0) = true := by simp; omega
    go_enter Tryd.func14, Tryd.ntmps14
    go_wp2
    go_ret2
    exact ⟨none, 0, 0, rfl, Sl.nil _ _ none 0 (Nat.zero_le _), Ext.refl _⟩
end Go.Proofs.YtdocdppimpapiabDoor

namespace Go.Proofs.YtdocdppimpapiabDoor
open Go.RowKit Go.Proofs.YtdocdppimpapiabDoorW.PrintWords

theorem beB_numB : ∀ (l : List Int), Bt l → beB (numB l) l.length = l := by
  refine snoc_ind (fun _ => rfl) fun l c ih h => ?_
  have h1 := ih (fun x hx => h x (by simp [hx]))
  have h2 := h c (by simp)
  rw [numB_snoc, List.length_append, List.length_singleton, beB, show (numB l * 256 + c) / 256 = numB l by omega, show (numB l * 256 + c) % 256 = c by omega, h1]
theorem beB_one (n : Nat) (h : n < 256) : beB (n : Int) 1 = [(n : Int)] := by
  show beB ((n : Int) / 256) 0 ++ [(n : Int) % 256] = _
  rw [show (n : Int) % 256 = n by omega]; rfl
theorem numB_one (x : Int) : numB [x] = x := by simp [numB]
/-- The bytes of a string that bytes make. -/
theorem bytesL_str (l : List Int) (h : Bt l) : bytesL (strOfNums l) = l := by
  unfold bytesL
  rw [strOfNums_data, List.map_map]
  conv => rhs; rw [← List.map_id l]
  apply List.map_congr_left
  intro x hx
  have := h x hx
  simp [Function.comp]
  omega
theorem str_bytesL (s : ByteArray) : strOfNums (bytesL s) = s := by
  have : (strOfNums (bytesL s)).data.toList = s.data.toList := by
    rw [strOfNums_data, bytesL, List.map_map]
    conv => rhs; rw [← List.map_id s.data.toList]
    apply List.map_congr_left
    intro x hx
    simp [Function.comp]
  cases s
  rename_i a
  unfold strOfNums at this ⊢
  simp only at this ⊢
  congr
theorem extract_str (l : List Int) (a b : Nat) (hb : b ≤ l.length) : (strOfNums l).extract a b = strOfNums ((l.drop a).take (b - a)) := by
  have h : ((strOfNums l).extract a b).data.toList = (strOfNums ((l.drop a).take (b - a))).data.toList := by
    rw [strOfNums_data, ByteArray.data_extract, Array.toList_extract]
    show List.extract ((strOfNums l).data.toList) a b = _
    rw [strOfNums_data, List.extract_eq_take_drop, ← List.map_drop, ← List.map_take]
  have : ((strOfNums l).extract a b).data = (strOfNums ((l.drop a).take (b - a))).data := Array.ext' h
  cases h1 : (strOfNums l).extract a b
  cases h2 : strOfNums ((l.drop a).take (b - a))
  rw [h1, h2] at this
  simp only at this
  rw [this]

/-- A block's parts. -/
theorem block_parts (l : List Int) (h : 16 ≤ l.length) : l.take 16 = l.take 1 ++ ((l.drop 1).take 11 ++ (l.drop 12).take 4) := by
  have h1 : l.take 16 = l.take 1 ++ (l.drop 1).take 15 := by
    rw [show (16 : Nat) = 1 + 15 by omega, List.take_add]
  have h2 : (l.drop 1).take 15 = (l.drop 1).take 11 ++ ((l.drop 1).drop 11).take 4 := by
    rw [show (15 : Nat) = 11 + 4 by omega, List.take_add]
  rw [h1, h2, List.drop_drop]
theorem take_one_num {l : List Int} (hb : Bt l) (h : 1 ≤ l.length) : l.take 1 = [hdN l] ∧ 0 ≤ hdN l ∧ hdN l < 256 := by
  cases l with
  | nil => simp at h
  | cons x l =>
    have := hb x List.mem_cons_self
    refine ⟨?_, ?_⟩
    · unfold hdN; simp [numB]
    · unfold hdN; simp [numB]; exact this
theorem zrB_str (l : List Int) (hb : Bt l) : zrB (strOfNums l) = decide (l = List.replicate l.length 0) := by
  rw [Bool.eq_iff_iff, decide_eq_true_iff, List.eq_replicate_iff]
  unfold zrB
  rw [strOfNums_data, List.all_eq_true]
  constructor
  · intro h
    refine ⟨rfl, fun x hx => ?_⟩
    have h1 := h _ (List.mem_map_of_mem hx)
    have h2 := hb x hx
    have h3 : (UInt8.ofNat x.toNat).toNat = (0 : UInt8).toNat := by rw [eq_of_beq h1]
    simp at h3
    omega
  · intro h u hu
    obtain ⟨x, hx, rfl⟩ := List.mem_map.1 hu
    rw [h.2 x hx]; rfl

/-- One block: its entry has its bytes just where all behind the name is zero. -/
theorem block_back {l : List Int} (hb : Bt l) (hl : 16 ≤ l.length) (h11 : hdN l ≤ 11) : (encN (decN l) = l.take 16) ↔ goodN l = true := by
  obtain ⟨h1, h0, _⟩ := take_one_num hb (by omega)
  obtain ⟨d, hd⟩ : ∃ d : Nat, hdN l = (d : Int) := ⟨(hdN l).toNat, by omega⟩
  have hd11 : d ≤ 11 := by omega
  obtain ⟨raw, hraw⟩ : ∃ raw, (l.drop 1).take 11 = raw := ⟨_, rfl⟩
  have hbr : Bt raw := by rw [← hraw]; exact (hb.drop 1).take 11
  have hrl : raw.length = 11 := by rw [← hraw, List.length_take, List.length_drop]; omega
  have hmin : minN l = d := by unfold minN; rw [hd, Int.toNat_natCast]; omega
  have hrn : rawN l = strOfNums raw := by unfold rawN; rw [hraw]
  have hbv : Bt ((l.drop 12).take 4) := (hb.drop 12).take 4
  have hvl : ((l.drop 12).take 4).length = 4 := by rw [List.length_take, List.length_drop]; omega
  have hnm : (strOfNums raw).extract 0 d = strOfNums (raw.take d) := by rw [extract_str _ _ _ (by omega), List.drop_zero, Nat.sub_zero]
  have hnl : (raw.take d).length = d := by rw [List.length_take]; omega
  have hdec : decN l = (strOfNums (raw.take d), numB ((l.drop 12).take 4)) := by unfold decN; rw [hmin, hrn, hnm]
  have henc : encN (decN l) = [(d : Int)] ++ (raw.take d ++ List.replicate (11 - d) 0 ++ (l.drop 12).take 4) := by
    rw [hdec]
    unfold encN
    simp only
    rw [strOfNums_size, hnl, bytesL_str _ (hbr.take d), beB_one d (by omega)]
    have := beB_numB _ hbv
    rw [hvl] at this
    rw [this]
    simp [List.append_assoc]
  have hgood : goodN l = decide (raw.drop d = List.replicate (11 - d) 0) := by
    unfold goodN
    rw [hmin, hrn, hd, decide_eq_true (by omega), Bool.true_and, strOfNums_size, extract_str _ _ _ (Nat.le_refl _), hrl, List.take_of_length_le (by rw [List.length_drop]; omega), zrB_str _ (hbr.drop d), List.length_drop, hrl]
  rw [henc, hgood, block_parts l hl, h1, hd, hraw, decide_eq_true_iff]
  constructor
  · intro h
    have h2 := (List.append_inj h rfl).2
    have h3 := (List.append_inj h2 (by rw [List.length_append, hnl, List.length_replicate, hrl]; omega)).1
    have h4 : raw.take d ++ List.replicate (11 - d) 0 = raw.take d ++ raw.drop d := by rw [List.take_append_drop]; exact h3
    exact (List.append_cancel_left h4).symm
  · intro h
    rw [← h, List.take_append_drop]
theorem decN_size {l : List Int} (h11 : hdN l ≤ 11) : (decN l).1.size ≤ 11 := by
  unfold decN
  rw [ByteArray.size_extract]
  unfold minN
  omega
theorem encsN_snoc (l : List En) (e : En) : encsN (l ++ [e]) = encsN l ++ encN e := by unfold encsN; rw [List.flatMap_append]; simp
theorem outs_small {bs : List Int} {m : Nat} (h11 : ∀ i, i < m → hdN (bs.drop (16 * i)) ≤ 11) : ∀ e ∈ outN bs m, e.1.size ≤ 11 := by
  intro e he
  unfold outN at he
  obtain ⟨i, hi, rfl⟩ := List.mem_map.1 he
  exact decN_size (h11 i (List.mem_range.1 hi))
theorem blocks_back {bs : List Int} (hb : Bt bs) : ∀ m : Nat, 16 * m ≤ bs.length → (∀ i, i < m → hdN (bs.drop (16 * i)) ≤ 11) → ((encsN (outN bs m) = bs.take (16 * m)) ↔ gdN bs m = true)
  | 0, _, _ => by simp [encsN, outN, gdN]
  | m + 1, hm, h11 => by
    have ih := blocks_back hb m (by omega) fun i hi => h11 i (by omega)
    have hbk := block_back (hb.drop (16 * m)) (by rw [List.length_drop]; omega) (h11 m (by omega))
    have hlen : (encsN (outN bs m)).length = (bs.take (16 * m)).length := by
      rw [encsN_len (outs_small fun i hi => h11 i (by omega)), outN_len, List.length_take]; omega
    rw [outN_succ, encsN_snoc, gdN_succ, Bool.and_eq_true, ← ih, ← hbk, show 16 * (m + 1) = 16 * m + 16 by omega, List.take_add]
    constructor
    · intro h; exact List.append_inj h hlen
    · rintro ⟨h1, h2⟩; rw [h1, h2]

theorem bytesL_bt (s : ByteArray) : Bt (bytesL s) := fun x hx => by
  obtain ⟨u, _, rfl⟩ := List.mem_map.1 hx
  have := u.toNat_lt
  omega
theorem bt_append {a b : List Int} (h : Bt a) (k : Bt b) : Bt (a ++ b) := fun x hx => (List.mem_append.1 hx).elim (h x) (k x)
theorem bt_zeros (n : Nat) : Bt (List.replicate n 0) := fun x hx => by rw [(List.mem_replicate.1 hx).2]; omega
theorem encN_bt (e : En) : Bt (encN e) := bt_append (bt_append (bt_append (beB_bt _ _) (bytesL_bt _)) (bt_zeros _)) (beB_bt _ _)
theorem encsN_bt (l : List En) : Bt (encsN l) := fun x hx => by
  obtain ⟨e, _, h⟩ := List.mem_flatMap.1 hx
  exact encN_bt e x h
/-- What is put is got. -/
theorem dec_enc (e : En) (r : List Int) (h : e.1.size ≤ 11) (h0 : 0 ≤ e.2) (h9 : e.2 ≤ 65535) : hdN (encN e ++ r) = e.1.size ∧ decN (encN e ++ r) = e := by
  have hE : encN e = [(e.1.size : Int)] ++ (bytesL e.1 ++ List.replicate (11 - e.1.size) 0 ++ beB e.2 4) := by
    unfold encN; rw [beB_one _ (by omega)]; simp [List.append_assoc]
  have hhd : hdN (encN e ++ r) = e.1.size := by
    unfold hdN; rw [hE]; simp [numB]
  refine ⟨hhd, ?_⟩
  have hraw : ((encN e ++ r).drop 1).take 11 = bytesL e.1 ++ List.replicate (11 - e.1.size) 0 := by
    have : (encN e ++ r).drop 1 = (bytesL e.1 ++ List.replicate (11 - e.1.size) 0) ++ (beB e.2 4 ++ r) := by rw [hE]; simp [List.append_assoc]
    rw [this, List.take_append_of_le_length (by rw [List.length_append, bytesL_len, List.length_replicate]; omega), List.take_of_length_le (by rw [List.length_append, bytesL_len, List.length_replicate]; omega)]
  have hv : ((encN e ++ r).drop 12).take 4 = beB e.2 4 := by
    have h1 : (encN e ++ r).drop 12 = ((encN e ++ r).drop 1).drop 11 := by rw [List.drop_drop]
    have : (encN e ++ r).drop 1 = (bytesL e.1 ++ List.replicate (11 - e.1.size) 0) ++ (beB e.2 4 ++ r) := by rw [hE]; simp [List.append_assoc]
    rw [h1, this, List.drop_append_of_le_length (by rw [List.length_append, bytesL_len, List.length_replicate]; omega), List.drop_eq_nil_of_le (by rw [List.length_append, bytesL_len, List.length_replicate]; omega), List.nil_append, List.take_append_of_le_length (by rw [beB_len]; omega), List.take_of_length_le (by rw [beB_len]; omega)]
  unfold decN
  rw [hv, numB_beB 4 e.2 h0 (p256_4 h9)]
  unfold minN rawN
  rw [hhd, hraw, Int.toNat_natCast, Nat.min_eq_left h, extract_str _ _ _ (by rw [List.length_append, bytesL_len, List.length_replicate]; omega), List.drop_zero, Nat.sub_zero, List.take_append_of_le_length (by rw [bytesL_len]; omega), List.take_of_length_le (by rw [bytesL_len]; omega), str_bytesL]
theorem drop_encs (l : List En) (h : ∀ e ∈ l, e.1.size ≤ 11) (i : Nat) (hi : i ≤ l.length) : (encsN l).drop (16 * i) = encsN (l.drop i) := by
  have h1 : encsN l = encsN (l.take i) ++ encsN (l.drop i) := by unfold encsN; rw [← List.flatMap_append, List.take_append_drop]
  have h2 : (encsN (l.take i)).length = 16 * i := by rw [encsN_len fun e he => h e (List.mem_of_mem_take he), List.length_take]; omega
  rw [h1, ← h2, List.drop_append_of_le_length (Nat.le_refl _), List.drop_length, List.nil_append]
theorem get_put {l : List En} (hc : checkE l = 0) : getD (putD l) = (l, 0) := by
  obtain ⟨h32, hall⟩ := checkE_ok hc
  have hs : ∀ e ∈ l, e.1.size ≤ 11 := fun e he => (hall e he).1.2
  have hlen : (encsN l).length = l.length * 16 := encsN_len hs
  have hp : putD l = encsN l := by unfold putD; rw [if_pos hc]
  have hd : ∀ i (hi : i < l.length), hdN ((encsN l).drop (16 * i)) ≤ 11 ∧ decN ((encsN l).drop (16 * i)) = l[i] := fun i hi => by
    have e1 : (encsN l).drop (16 * i) = encN l[i] ++ encsN (l.drop (i + 1)) := by
      rw [drop_encs l hs i (by omega), List.drop_eq_getElem_cons hi]; unfold encsN; rw [List.flatMap_cons]
    have h1 := hall l[i] (List.getElem_mem hi)
    obtain ⟨h2, h3⟩ := dec_enc l[i] (encsN (l.drop (i + 1))) h1.1.2 (by omega) h1.2.2
    rw [e1]
    exact ⟨by rw [h2]; have := h1.1.2; omega, h3⟩
  have hout : outN (encsN l) l.length = l := by
    unfold outN
    apply List.ext_getElem
    · simp
    · intro i h1 h2
      rw [List.getElem_map, List.getElem_range]
      exact (hd i h2).2
  have hgd : gdN (encsN l) l.length = true := (blocks_back (encsN_bt l) l.length (by omega) fun i hi => (hd i hi).1).1 (by rw [hout, List.take_of_length_le (by omega)])
  have hq : (encsN l).length / 16 = l.length := by omega
  unfold getD
  rw [hp, if_neg (by omega), if_neg (by omega), hq, hout, if_pos ⟨hgd, hc⟩]
/-- What is got has these bytes. -/
theorem gd_hd {bs : List Int} {m : Nat} (h : gdN bs m = true) : ∀ i, i < m → hdN (bs.drop (16 * i)) ≤ 11 := fun i hi => by
  unfold gdN at h
  rw [List.all_eq_true] at h
  have := h i (List.mem_range.2 hi)
  unfold goodN at this
  rw [Bool.and_eq_true] at this
  exact of_decide_eq_true this.1
theorem put_get {bs : List Int} (hb : Bt bs) (h : (getD bs).2 = 0) : checkE (getD bs).1 = 0 ∧ putD (getD bs).1 = bs := by
  unfold getD at h ⊢
  split
  · rename_i h1; rw [if_pos h1] at h; cases h
  · split
    · rename_i h1 h2; rw [if_neg h1, if_pos h2] at h; cases h
    · split
      · rename_i h1 h2 h3
        refine ⟨h3.2, ?_⟩
        simp only
        unfold putD
        rw [if_pos h3.2, (blocks_back hb (bs.length / 16) (by omega) (gd_hd h3.1)).2 h3.1, List.take_of_length_le (by omega)]
      · rename_i h1 h2 h3; rw [if_neg h1, if_neg h2, if_neg h3] at h; cases h
end Go.Proofs.YtdocdppimpapiabDoor
