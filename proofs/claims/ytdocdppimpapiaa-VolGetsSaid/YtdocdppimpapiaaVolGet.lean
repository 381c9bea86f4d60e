/-
  vol.Get, and the reference's: the intent of bytes.
-/
import Derived.Test.YtdocdppimpapiaaVolPut
import Derived.Test.YtdocdppimpapiaaRef01
namespace Go.Proofs.Ytdocdppimpapiaa
open Go.RowKit

/-- One patch more is read. -/
def stepP (r : List Pa × List Int × Int) : List Pa × List Int × Int :=
  (r.1 ++ [((getI r.2.1 r.2.2 4).1, (getI (getI r.2.1 r.2.2 4).2.1 (getI r.2.1 r.2.2 4).2.2 8).1, (textI (getI (getI r.2.1 r.2.2 4).2.1 (getI r.2.1 r.2.2 4).2.2 8).2.1 (getI (getI r.2.1 r.2.2 4).2.1 (getI r.2.1 r.2.2 4).2.2 8).2.2 64).1)],
    (textI (getI (getI r.2.1 r.2.2 4).2.1 (getI r.2.1 r.2.2 4).2.2 8).2.1 (getI (getI r.2.1 r.2.2 4).2.1 (getI r.2.1 r.2.2 4).2.2 8).2.2 64).2)
def readK (l : List Int) (er : Int) : Nat → List Pa × List Int × Int
  | 0 => ([], l, er)
  | k + 1 => stepP (readK l er k)
/-- The intent of bytes; the error. -/
def getP (n b : Int) (bs : List Int) : List Pa × Int :=
  if bs = [] then ([], 0) else if rightB n b = true then
    (if doneI (readK (uptoI bs 0 1 20).2.1 (uptoI bs 0 1 20).2.2 (uptoI bs 0 1 20).1.toNat).2.1 (readK (uptoI bs 0 1 20).2.1 (uptoI bs 0 1 20).2.2 (uptoI bs 0 1 20).1.toNat).2.2 = 0 then
      (if (readK (uptoI bs 0 1 20).2.1 (uptoI bs 0 1 20).2.2 (uptoI bs 0 1 20).1.toNat).1 = [] ∨ checkP n b (readK (uptoI bs 0 1 20).2.1 (uptoI bs 0 1 20).2.2 (uptoI bs 0 1 20).1.toNat).1 ≠ 0 then ([], 4)
        else ((readK (uptoI bs 0 1 20).2.1 (uptoI bs 0 1 20).2.2 (uptoI bs 0 1 20).1.toNat).1, 0))
      else ([], doneI (readK (uptoI bs 0 1 20).2.1 (uptoI bs 0 1 20).2.2 (uptoI bs 0 1 20).1.toNat).2.1 (readK (uptoI bs 0 1 20).2.1 (uptoI bs 0 1 20).2.2 (uptoI bs 0 1 20).1.toNat).2.2))
    else ([], 1)
theorem getP_nil (n b : Int) : getP n b [] = ([], 0) := rfl
theorem getP_bad {n b : Int} {bs : List Int} (h : bs ≠ []) (hr : rightB n b ≠ true) : getP n b bs = ([], 1) := by unfold getP; rw [if_neg h, if_neg hr]
theorem getP_err {n b : Int} {bs : List Int} {u : Int × List Int × Int} {r : List Pa × List Int × Int} {k : Nat} {d : Int} (h : bs ≠ []) (hr : rightB n b = true) (hu : uptoI bs 0 1 20 = u) (hk : u.1.toNat = k) (hr2 : readK u.2.1 u.2.2 k = r) (hd : doneI r.2.1 r.2.2 = d) (hd0 : d ≠ 0) :
    getP n b bs = ([], d) := by unfold getP; rw [if_neg h, if_pos hr, hu, hk, hr2, hd, if_neg hd0]
theorem getP_form {n b : Int} {bs : List Int} {u : Int × List Int × Int} {r : List Pa × List Int × Int} {k : Nat} (h : bs ≠ []) (hr : rightB n b = true) (hu : uptoI bs 0 1 20 = u) (hk : u.1.toNat = k) (hr2 : readK u.2.1 u.2.2 k = r) (hd : doneI r.2.1 r.2.2 = 0) (hf : r.1 = [] ∨ checkP n b r.1 ≠ 0) :
    getP n b bs = ([], 4) := by unfold getP; rw [if_neg h, if_pos hr, hu, hk, hr2, if_pos hd, if_pos hf]
theorem getP_ok {n b : Int} {bs : List Int} {u : Int × List Int × Int} {r : List Pa × List Int × Int} {k : Nat} (h : bs ≠ []) (hr : rightB n b = true) (hu : uptoI bs 0 1 20 = u) (hk : u.1.toNat = k) (hr2 : readK u.2.1 u.2.2 k = r) (hd : doneI r.2.1 r.2.2 = 0) (hf : ¬ (r.1 = [] ∨ checkP n b r.1 ≠ 0)) :
    getP n b bs = (r.1, 0) := by unfold getP; rw [if_neg h, if_pos hr, hu, hk, hr2, if_pos hd, if_neg hf]

theorem uptoI_bt {l : List Int} (h : Bt l) (er : Int) (k : Nat) (m : Int) : Bt (uptoI l er k m).2.1 := by
  unfold uptoI
  split
  · split
    · exact Bt.nil
    · split
      · exact Bt.nil
      · exact h.drop k
  · exact h
theorem getI_bt {l : List Int} (h : Bt l) (er : Int) (k : Nat) : Bt (getI l er k).2.1 := by
  unfold getI
  split
  · split
    · exact Bt.nil
    · exact h.drop k
  · exact h
theorem rawI_bt {l : List Int} (h : Bt l) (er : Int) (k : Nat) : Bt (rawI l er k).1 ∧ Bt (rawI l er k).2.1 := by
  unfold rawI
  split
  · split
    · exact ⟨Bt.nil, Bt.nil⟩
    · exact ⟨h.take k, h.drop k⟩
  · exact ⟨Bt.nil, h⟩
theorem textI_bt {l : List Int} (h : Bt l) (er m : Int) : Bt (textI l er m).1 ∧ Bt (textI l er m).2.1 := by
  unfold textI
  split
  · split
    · exact ⟨Bt.nil, Bt.nil⟩
    · split
      · exact ⟨Bt.nil, Bt.nil⟩
      · exact rawI_bt (h.drop 2) 0 _
  · exact ⟨Bt.nil, h⟩
theorem getI_bd {l : List Int} (h : Bt l) (er : Int) (k : Nat) : 0 ≤ (getI l er k).1 ∧ (getI l er k).1 < 256 ^ k := by
  have h0 : (0 : Int) < 256 ^ k := Int.pow_pos (by decide)
  unfold getI
  split
  · split
    · exact ⟨Int.le_refl _, h0⟩
    · rename_i hk
      have h1 := numB_bd _ (h.take k)
      rw [show (l.take k).length = k by rw [List.length_take]; omega] at h1
      exact h1
  · exact ⟨Int.le_refl _, h0⟩
theorem uptoI_bd {l : List Int} (h : Bt l) (er : Int) (k : Nat) {m : Int} (hm : 0 ≤ m) : 0 ≤ (uptoI l er k m).1 ∧ (uptoI l er k m).1 ≤ m := by
  unfold uptoI
  split
  · split
    · exact ⟨Int.le_refl _, hm⟩
    · split
      · exact ⟨Int.le_refl _, hm⟩
      · exact ⟨(numB_bd _ (h.take k)).1, by show numB (l.take k) ≤ m; omega⟩
  · exact ⟨Int.le_refl _, hm⟩
theorem lt4 {x : Int} (h : x < 256 ^ 4) : x < 4294967296 := by omega
theorem le8 {x : Int} (h : x < 256 ^ 8) : x ≤ 18446744073709551615 := by omega
theorem readK_ok {l : List Int} (h : Bt l) (er : Int) : ∀ k, PaOk (readK l er k).1 ∧ Bt (readK l er k).2.1 ∧ (readK l er k).1.length = k
  | 0 => ⟨(fun p hp => by cases hp), h, rfl⟩
  | k + 1 => by
    obtain ⟨h1, h2, h3⟩ := readK_ok h er k
    have e : readK l er (k + 1) = stepP (readK l er k) := rfl
    rw [e]
    generalize readK l er k = r at *
    have g1 := getI_bt h2 r.2.2 4
    have g2 := getI_bt g1 (getI r.2.1 r.2.2 4).2.2 8
    have g3 := textI_bt g2 (getI (getI r.2.1 r.2.2 4).2.1 (getI r.2.1 r.2.2 4).2.2 8).2.2 64
    have b1 := getI_bd h2 r.2.2 4
    have b2 := getI_bd g1 (getI r.2.1 r.2.2 4).2.2 8
    refine ⟨fun p hp => ?_, g3.2, ?_⟩
    · simp only [stepP, List.mem_append, List.mem_singleton] at hp
      rcases hp with hp | rfl
      · exact h1 p hp
      · exact ⟨⟨b1.1, lt4 b1.2⟩, ⟨b2.1, le8 b2.2⟩, g3.1⟩
    · simp only [stepP, List.length_append, List.length_singleton]; omega

/-- Patches and an error come back. -/
def RetPE (r : List Pa × Int) (w : World) (e : Ending) (w' : World) : Prop :=
  ∃ A n cap, e = .returned (.tuple #[.slice A n cap, .int .i64 r.2]) ∧ Pats (fun _ => True) (fun _ => True) w' A n cap r.1 ∧ Ext w w'
theorem Pats.nil (Q Q' : Nat → Prop) (w : World) : Pats Q Q' w none 0 0 [] := ⟨[], Sl.nil _ _ none 0 (Nat.zero_le _), Each.nil _⟩
theorem wrap_u32' {x : Int} (h0 : 0 ≤ x) (h1 : x < 4294967296) : IntKind.u32.wrap x = x := IntWalk.u32_in x ⟨h0, by omega⟩

/-- Where the reading of patches stands: the row of those that have been read, their bytes, the reader at g. -/
structure GSt (R : Nat → Prop) (base g : Nat) (W0 wr : World) (A : Option Addr) (n cap : Nat) (r : List Pa × List Int × Int) : Prop where
  ex : ∃ hs, Ow eP 3 105 base wr A n cap hs ∧ Each (PaR (fun q => q ≠ g ∧ (Value.slice A n cap).ownBlock ≠ some q) wr) hs r.1
  inat : InAt R wr g r.2.1 r.2.2
  ext : Ext W0 wr
  base_le : base ≤ wr.heap.size
  g_lt : g < base
  r_lt : ∀ q, R q → q < base
  W0_le : W0.heap.size ≤ g
theorem Sl.num_in {k : IntKind} {Q : Nat → Prop} {w : World} {A : Option Addr} {n cap : Nat} {l : List Int} (h : Sl (eI k) 1 Q w A n cap l) : Sl (eI k) 1 (fun j => Q j ∧ j < w.heap.size) w A n cap l := h.in'

theorem GSt.step {R : Nat → Prop} {base g : Nat} {W0 wr w5 w6 w7 : World} {A A7 B : Option Addr} {n cap n7 cap7 m c : Nat} {r : List Pa × List Int × Int} {hs : List PaH} {key ver : Int} {d l' : List Int} {er' : Int} {o : Obj}
    (h : GSt R base g W0 wr A n cap r) (hO0 : Ow eP 3 105 base wr A n cap hs) (hE : Each (PaR (fun q => q ≠ g ∧ (Value.slice A n cap).ownBlock ≠ some q) wr) hs r.1)
    (h5 : Mut g wr w5) (h6 : Mut g w5 w6) (hi : InAt R w6 g l' er') (hd : Sl (eI .u8) 1 (fun q => w5.heap.size ≤ q) w6 B m c d)
    (hO : Ow eP 3 105 base w7 A7 n7 cap7 (hs ++ [(key, ver, B, m, c)])) (hg : (w6.alloc o).grownBy w7 (Value.slice A n cap).ownBlock)
    (hrow : ∀ q, (Value.slice A7 n7 cap7).ownBlock = some q → (Value.slice A n cap).ownBlock = some q ∨ q = (w6.alloc o).heap.size) :
    GSt R base g W0 w7 A7 n7 cap7 (r.1 ++ [(key, ver, d)], l', er') := by
  have hm := h5.trans h6
  have hal : Ext w6 (w6.alloc o) := (Ext.refl _).alloc _
  have s5 := h5.size
  have s6 := h6.size
  have s7 := hg.size
  have s67 : w6.heap.size < (w6.alloc o).heap.size := by simp
  have hbw := h.base_le
  have hgb := h.g_lt
  -- a block of the elder world, neither g nor the row
  have keep : ∀ q, q ≠ g → (Value.slice A n cap).ownBlock ≠ some q → q < w6.heap.size → w7.heap[q]? = w6.heap[q]? := fun q _ h2 h3 =>
    (hg.block q (Nat.lt_trans h3 s67) fun e => h2 e.symm).trans (hal.block q h3)
  have rows : ∀ q, (Value.slice A n cap).ownBlock = some q → base ≤ q ∧ q < wr.heap.size := hO0.lt
  have newne : ∀ q, q < w6.heap.size → (Value.slice A n cap).ownBlock ≠ some q → (Value.slice A7 n7 cap7).ownBlock ≠ some q := fun q h1 h2 e => by
    rcases hrow q e with e | e
    · exact h2 e
    · omega
  refine ⟨⟨_, hO, ?_⟩, ?_, ?_, by omega, hgb, h.r_lt, h.W0_le⟩
  · refine ⟨by rw [List.length_append, List.length_append, hE.length]; rfl, fun i x y hx hy => ?_⟩
    rw [List.getElem?_append] at hx hy
    split at hx
    · rename_i hi'
      rw [if_pos (by rw [← hE.length]; exact hi')] at hy
      have pr := hE.all i x y hx hy
      refine ⟨pr.key, pr.ver, (pr.dat.num_in.step (w' := w7) fun q hq hlt => ?_).mono fun q hq => ⟨hq.1.1, newne q (by omega) hq.1.2⟩⟩
      rw [keep q hq.1.1 hq.1.2 (by omega)]
      exact hm.block q hlt fun e => hq.1.1 (by injection e)
    · rename_i hi'
      rw [if_neg (by rw [← hE.length]; exact hi')] at hy
      have hil : i - hs.length = 0 := by
        rcases Nat.eq_zero_or_pos (i - hs.length) with h1 | h1
        · exact h1
        · rw [List.getElem?_eq_none (by simp; omega)] at hx; cases hx
      rw [hil] at hx
      rw [← hE.length, hil] at hy
      simp only [List.getElem?_cons_zero, Option.some.injEq] at hx hy
      subst hx hy
      have hne : ∀ q, w5.heap.size ≤ q → (Value.slice A n cap).ownBlock ≠ some q := fun q h1 e => by have := (rows q e).2; omega
      refine ⟨rfl, rfl, (hd.num_in.step (w' := w7) fun q hq hlt => ?_).mono fun q hq => ⟨by have := hq.1; omega, newne q hq.2 (hne q hq.1)⟩⟩
      exact keep q (by have := hq.1; omega) (hne q hq.1) hlt
  · refine hi.mut ?_ fun q h1 h2 h3 => ?_
    · have hne : (Value.slice A n cap).ownBlock ≠ some g := fun e => by have := (rows g e).1; omega
      exact (hg.block g (by have := hi.lt; omega) fun e => hne e.symm).trans (hal.block g hi.lt)
    · exact keep q h1 (fun e => by have := (rows q e).1; have := h.r_lt q h2; omega) h3
  · have e1 : Ext W0 w6 := Mut.ext h.ext hm h.W0_le
    exact (e1.alloc o).grown hg fun q hq => by have := (rows q hq).1; have := h.W0_le; omega

set_option maxHeartbeats 3200000 in
theorem vget_any (n b : Int) (A : Option Addr) (m c : Nat) (bs : List Int) (Q : Nat → Prop) (w : World) (h : Sl (eI .u8) 1 Q w A m c bs) (hb : Bt bs) (hl : bs.length ≤ 1048576) :
    Calls Try.prog 22 #[.agg #[.int .i64 n, .int .i64 b], .slice A m c] w (RetPE (getP n b bs) w) := by
  have HL := Lib.hid h.len
  have H := Lib.hid h
  have HB := Lib.hid hb
  clear h hb
  by_cases h0 : bs = []
  · subst h0
    obtain rfl : m = 0 := HL.out
    rw [getP_nil]
    go_enter Try.func22, Try.ntmps22
    go_wp2
    go_ret2
    exact ⟨none, 0, 0, rfl, Pats.nil _ _ _, by (repeat (first | exact Ext.refl _ | assumption | refine Ext.alloc ?_ _ | refine Ext.drew ?_ | refine Ext.drewN ?_ _ | refine Ext.setCell ?_ (by simp) _ | (refine Ext.trans ?_ (by assumption))))⟩
  have hm0 : ((m : Int) == 0) = false := by
    have : m ≠ 0 := fun e => h0 (List.eq_nil_of_length_eq_zero (by rw [← HL.out]; exact e))
    simp; omega
  by_cases hr : rightB n b = true
  · obtain ⟨u, hu⟩ : ∃ u, uptoI bs 0 1 20 = u := ⟨_, rfl⟩
    have hub := uptoI_bd HB.out 0 1 (m := 20) (by decide)
    have hubt := uptoI_bt HB.out 0 1 20
    rw [hu] at hub hubt
    obtain ⟨k, hk⟩ : ∃ k : Nat, u.1 = (k : Int) := ⟨u.1.toNat, by omega⟩
    have hk20 : k ≤ 20 := by omega
    have HU := Lib.hid hu
    have HK := Lib.hid hk
    have HUB := Lib.hid hubt
    have H0 := Lib.hid h0
    clear hub hubt hu hk h0
    go_enter Try.func22, Try.ntmps22
    go_wp2_with (first
      | (go_at_call 14; refine (right_any _ _ _).mono ?_; rintro e w1 ⟨rfl, he1⟩)
      | (go_at_call 60; refine (of_any _ _ _ _ _ _ (H.out.ext (((Ext.refl _).alloc _).trans he1)) HB.out hl).mono ?_; rintro e w2 ⟨g, rfl, hg2, hi2, he2⟩)
      | (go_at_call 61; refine (upto_any _ _ _ 1 _ _ hi2 (by decide) (by decide)).mono ?_; rintro e w3 ⟨rfl, hi3, hm3⟩; rw [HU.out] at hi3 ⊢; rw [HK.out]))
    have hW0 : Ext (w.alloc (.cells #[.int .i64 n, .int .i64 b] 25)) w2 := he1.trans he2
    have hst : GSt (fun k => w1.heap.size ≤ k ∧ k < g) w3.heap.size g (w.alloc (.cells #[.int .i64 n, .int .i64 b] 25)) w3 none 0 0 (readK u.2.1 u.2.2 0) :=
      ⟨⟨[], Ow.nil _, Each.nil _⟩, hi3, Mut.ext hW0 hm3 (Nat.le_trans he1.size hg2), Nat.le_refl _, Nat.lt_of_lt_of_le hi2.lt hm3.size, fun q hq => Nat.lt_trans hq.2 (Nat.lt_of_lt_of_le hi2.lt hm3.size), Nat.le_trans he1.size hg2⟩
    have HST := Lib.hid hst
    clear hst hi2 hi3 hm3 he1 he2 hW0
    go_loopw [7, 21] (fun v i wr => ∃ (j n' cap' : Nat) (A' : Option Addr), j ≤ k ∧ i = .int .u64 j ∧ v = .slice A' n' cap' ∧ GSt (fun k => w1.heap.size ≤ k ∧ k < g) w3.heap.size g (w.alloc (.cells #[.int .i64 n, .int .i64 b] 25)) wr A' n' cap' (readK u.2.1 u.2.2 j)) (fun _ i _ => k - (intOf i).toNat)
    case atStart => exact ⟨0, 0, 0, none, Nat.zero_le _, rfl, rfl, HST.out⟩
    case round =>
      clear HST
      obtain ⟨j, n', cap', A', hj, rfl, rfl, hst⟩ := hrel
      obtain ⟨hrok, hrbt, hrlen⟩ := readK_ok HUB.out u.2.2 j
      have HST := Lib.hid hst
      have HRB := Lib.hid hrbt
      clear hst hrok hrbt
      by_cases hlt : j < k
      · obtain ⟨hs, hO, hE⟩ := HST.out.ex
        have hlen : hs.length = j := by rw [hE.length]; exact hrlen
        have HO := Lib.hid hO
        have HE := Lib.hid hE
        have HLN := Lib.hid hlen
        have HRL := Lib.hid hrlen
        obtain ⟨r, hr2⟩ : ∃ r, readK u.2.1 u.2.2 j = r := ⟨_, rfl⟩
        have hstep : readK u.2.1 u.2.2 (j + 1) = stepP r := by rw [← hr2]; rfl
        have HSP := Lib.hid hstep
        have HR2 := Lib.hid hr2
        have g1 := getI_bt HRB.out (readK u.2.1 u.2.2 j).2.2 4
        have b1 := getI_bd HRB.out (readK u.2.1 u.2.2 j).2.2 4
        rw [hr2] at g1 b1
        have G1 := Lib.hid g1
        obtain ⟨b1l, b1h⟩ := b1
        have b1h := lt4 b1h
        clear hO hE hlen hrlen hstep hr2 g1
        go_wp2_with fail
        refine (iget_any _ _ _ 4 _ HST.out.inat (by decide) (by decide)).mono ?_
        rintro e w4 ⟨rfl, hi4, hm4⟩
        rw [HR2.out] at hi4 ⊢
        have HI4 := Lib.hid hi4
        have HM4 := Lib.hid hm4
        clear hi4 hm4
        go_wp2_with fail
        refine (iget_any _ _ _ 8 _ HI4.out (by decide) (by decide)).mono ?_
        rintro e w5 ⟨rfl, hi5, hm5⟩
        have HI5 := Lib.hid hi5
        have HM5 := Lib.hid hm5
        clear hi5 hm5
        go_wp2_with fail
        refine (itext_any _ _ _ 64 _ HI5.out).mono ?_
        rintro e w6 ⟨B6, n6, c6, rfl, hs6, hi6, hm6⟩
        have HS6 := Lib.hid hs6
        have HI6 := Lib.hid hi6
        have HM6 := Lib.hid hm6
        clear hs6 hi6 hm6
        have hgl := HST.out.g_lt
        have hO6 := (((HO.out.mut HM4.out hgl).mut HM5.out hgl).mut HM6.out hgl).alloc (.cells #[.int .u32 (getI r.2.1 r.2.2 4).1, .int .u64 (getI (getI r.2.1 r.2.2 4).2.1 (getI r.2.1 r.2.2 4).2.2 8).1, .slice B6 n6 c6] 105)
        have HO6 := Lib.hid hO6
        have hbs : w3.heap.size ≤ w6.heap.size := Nat.le_trans HST.out.base_le ((HM4.out.trans HM5.out).trans HM6.out).size
        clear hO6
        go_wp2_with (at_builtin; refine wpList_app _ rfl _ _ 37 rfl info_pv Try.underlying37 rfl (by decide) eP_len eP_one HO6.out rfl (Sl.laid eP_len w6 [((getI r.2.1 r.2.2 4).1, (getI (getI r.2.1 r.2.2 4).2.1 (getI r.2.1 r.2.2 4).2.2 8).1, B6, n6, c6)] _ 105 1 rfl rfl (by decide)) rfl (by rw [HLN.out]; simp; omega) (by rw [HLN.out]; simp; omega) (by simp; omega) ?_; intro A7 n7 cap7 w7 hO7 hg7 hrow7 _; have HO7 := Lib.hid hO7; have HG7 := Lib.hid hg7; have HR7 := Lib.hid hrow7; clear hO7 hg7 hrow7)
        have hst := HST.out
        have hE := HE.out
        rw [HR2.out] at hst hE
        have hfin := GSt.step hst HO.out hE (HM4.out.trans HM5.out) HM6.out HI6.out HS6.out HO7.out HG7.out HR7.out
        have HF := Lib.hid hfin
        clear hst hE hfin
        refine ⟨⟨j + 1, n7, cap7, A7, by omega, by go_num, rfl, ?_⟩, by simp [intOf]; omega⟩
        rw [HSP.out]
        exact HF.out
      · obtain rfl : j = k := by omega
        obtain ⟨r, hr2⟩ : ∃ r, readK u.2.1 u.2.2 j = r := ⟨_, rfl⟩
        have hst := HST.out
        have hok := (readK_ok HUB.out u.2.2 j).1
        rw [hr2] at hst hok hrlen
        obtain ⟨hs, hO, hE⟩ := hst.ex
        have hP : Pats (fun _ => True) (fun _ => True) wr A' n' cap' r.1 := ⟨hs, (hO.sl eP_len).mono fun _ _ => trivial, hE.mono fun _ _ pr => pr.mono fun _ _ => trivial⟩
        have hn' : n' = r.1.length := hP.len
        have hbox0 := hst.ext.at (cell_new w #[.int .i64 n, .int .i64 b] 25 0 (0, 0) rfl)
        have hbox1 := hst.ext.at (cell_new w #[.int .i64 n, .int .i64 b] 25 1 (0, 0) rfl)
        have hex : Ext w wr := ((Ext.refl w).alloc _).trans hst.ext
        have HI := Lib.hid hst.inat
        have HP := Lib.hid hP
        have HOK := Lib.hid hok
        have HR2 := Lib.hid hr2
        have HX := Lib.hid hex
        have HN' := Lib.hid hn'
        have hkk : u.1.toNat = j := by rw [HK.out]; rfl
        have HKK := Lib.hid hkk
        clear hst hO hE hP hok hr2 hex hrlen HST HRB hkk hn'
        obtain ⟨d, hd⟩ : ∃ d, doneI r.2.1 r.2.2 = d := ⟨_, rfl⟩
        have HD := Lib.hid hd
        clear hd
        by_cases hd0 : d = 0
        · subst hd0
          by_cases hn0 : n' = 0
          · have hn00 : ((n' : Int) == 0) = true := by simp [hn0]
            have hr1 : r.1 = [] := List.eq_nil_of_length_eq_zero (by rw [← HN'.out]; exact hn0)
            have E := getP_form (n := n) (b := b) H0.out hr HU.out HKK.out HR2.out HD.out (.inl hr1)
            have EE := Lib.hid E
            clear E hr1 hn0
            go_wp2_with (go_at_call 64; refine (idone_any _ _ _ _ HI.out).mono ?_; rintro e w' ⟨rfl, rfl⟩; rw [HD.out])
            go_ret2
            rw [EE.out]
            exact ⟨none, 0, 0, rfl, Pats.nil _ _ _, HX.out⟩
          · have hn00 : ((n' : Int) == 0) = false := by simp; omega
            have hr1 : ¬ r.1 = [] := fun e => hn0 (by rw [HN'.out, e]; rfl)
            by_cases hck : checkP n b r.1 = 0
            · have E := getP_ok (n := n) (b := b) H0.out hr HU.out HKK.out HR2.out HD.out (fun h => h.elim hr1 fun h => h hck)
              have EE := Lib.hid E
              have HC := Lib.hid hck
              clear E hr1 hn0 hck
              go_wp2_with (first
                | (go_at_call 64; refine (idone_any _ _ _ _ HI.out).mono ?_; rintro e w' ⟨rfl, rfl⟩; rw [HD.out])
                | (go_at_call 28; refine (check_any _ _ _ _ _ _ _ _ _ HP.out HOK.out).mono ?_; rintro e w8 ⟨rfl, he8⟩; rw [HC.out]))
              go_ret2
              rw [EE.out]
              exact ⟨A', n', cap', rfl, HP.out.ext he8, HX.out.trans he8⟩
            · have E := getP_form (n := n) (b := b) H0.out hr HU.out HKK.out HR2.out HD.out (.inr hck)
              have EE := Lib.hid E
              have hcb : (checkP n b r.1 != 0) = true := by simp [hck]
              clear E hr1 hn0 hck
              go_wp2_with (first
                | (go_at_call 64; refine (idone_any _ _ _ _ HI.out).mono ?_; rintro e w' ⟨rfl, rfl⟩; rw [HD.out])
                | (go_at_call 28; refine (check_any _ _ _ _ _ _ _ _ _ HP.out HOK.out).mono ?_; rintro e w8 ⟨rfl, he8⟩))
              go_ret2
              rw [EE.out]
              exact ⟨none, 0, 0, rfl, Pats.nil _ _ _, HX.out.trans he8⟩
        · have E := getP_err (n := n) (b := b) H0.out hr HU.out HKK.out HR2.out HD.out hd0
          have EE := Lib.hid E
          have hdb : (d != 0) = true := by simp [hd0]
          clear E hd0
          go_wp2_with (go_at_call 64; refine (idone_any _ _ _ _ HI.out).mono ?_; rintro e w' ⟨rfl, rfl⟩; rw [HD.out])
          go_ret2
          rw [EE.out]
          exact ⟨none, 0, 0, rfl, Pats.nil _ _ _, HX.out⟩
  · rw [getP_bad h0 hr]
    have hr' : rightB n b = false := by simpa using hr
    clear h0 hr
    go_enter Try.func22, Try.ntmps22
    go_wp2_with (go_at_call 14; refine (right_any _ _ _).mono ?_; rintro e w' ⟨rfl, he⟩)
    go_ret2
    exact ⟨none, 0, 0, rfl, Pats.nil _ _ _, by (repeat (first | exact Ext.refl _ | assumption | refine Ext.alloc ?_ _ | refine Ext.drew ?_ | refine Ext.drewN ?_ _ | refine Ext.setCell ?_ (by simp) _ | (refine Ext.trans ?_ (by assumption))))⟩
end Go.Proofs.Ytdocdppimpapiaa
