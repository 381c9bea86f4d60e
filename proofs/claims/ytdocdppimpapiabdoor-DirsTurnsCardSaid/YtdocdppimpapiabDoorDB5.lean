/-
  A bridge: what the printed contracts ask and give ('Kd.C', 'Kd.R'), in this seat's words ('Sl'). No function of the program. Bytes held against each other; the law's own cut of bytes. The printed contracts of the reference and of the law's helpers, in this seat's words. The printed contracts of the law's helpers and of the reference's Bytes, in this seat's words.
-/
import Derived.Test.YtdocdppimpapiabDoorWWords
import Derived.Test.YtdocdppimpapiabDoorWLast
import Derived.Test.YtdocdppimpapiabDoorDB1
import Derived.Test.YtdocdppimpapiabDoorDB2
import Derived.Test.YtdocdppimpapiabDoorDB4
set_option linter.unusedSimpArgs false
set_option linter.unusedVariables false
namespace Go.Proofs.YtdocdppimpapiabDoor
open Go.RowKit Go.Proofs.YtdocdppimpapiabDoorW.PrintWords

theorem C_of_sl {α β : Type} {enc : α → List Value} {sz : Nat} {Q : Nat → Prop} {w : World} {A : Option Addr} {n cap : Nat} {l : List α} (d : Kd β) (f : α → β) (hsz : d.sz = sz) (hlen : ∀ x, (enc x).length = sz) (hK : ∀ w x, d.K w (f x) (enc x))
    (h : Sl enc sz Q w A n cap l) : d.C w A (l.map f).length (l.map f) := by
  refine ⟨rfl, by rw [List.length_map, ← h.len]; exact Nat.le_trans h.le h.mx, fun hn => ?_⟩
  rw [List.length_map] at hn
  obtain ⟨b, off, hA, hq, _⟩ := h.at_ 0 l[0] (List.getElem?_eq_getElem hn)
  refine ⟨⟨b, off, none⟩, hA, fun j p hp => ?_⟩
  rw [List.getElem?_map] at hp
  cases hx : l[j]? with
  | none => rw [hx] at hp; cases hp
  | some x =>
    rw [hx] at hp
    simp only [Option.map_some, Option.some.injEq] at hp
    subst hp
    obtain ⟨b', off', hA', _, hc⟩ := h.at_ j x hx
    rw [hA] at hA'
    simp only [Option.some.injEq, Addr.mk.injEq, and_true] at hA'
    obtain ⟨rfl, rfl⟩ := hA'
    refine ⟨enc x, (hlen x).trans hsz.symm, hK w x, fun i u hu => ?_⟩
    have := hc i u hu
    rw [hsz, Addr.add_lit, ← Nat.add_assoc]
    exact this
theorem sl_of_C {α β : Type} {enc : α → List Value} {sz : Nat} {w : World} {A : Option Addr} {n cap : Nat} {l : List α} (d : Kd β) (f : α → β) (hsz : d.sz = sz) (hlen : ∀ x, (enc x).length = sz) (hpos : 0 < sz) (hK : ∀ w x cs, d.K w (f x) cs → cs = enc x)
    (h : d.C w A n (l.map f)) (hc : n ≤ cap) (hm : cap ≤ 9223372036854775807) : Sl enc sz (fun _ => True) w A n cap l := by
  obtain ⟨h1, h2, h3⟩ := h
  rw [List.length_map] at h1
  refine ⟨h1.symm, hc, hm, fun i x hx => ?_⟩
  have hi : i < l.length := by
    rcases Nat.lt_or_ge i l.length with h4 | h4
    · exact h4
    · rw [List.getElem?_eq_none h4] at hx; cases hx
  obtain ⟨ad, hA, hcell⟩ := h3 (by omega)
  obtain ⟨c, hs, hr, hcc⟩ := hcell i (f x) (by rw [List.getElem?_map, hx]; rfl)
  obtain rfl := hK _ _ _ hr
  obtain ⟨b, off, spot⟩ := ad
  have hsp : spot = none := by
    have hi0 : 0 < l.length := by omega
    obtain ⟨c0, hs0, hr0, hc0⟩ := hcell 0 (f l[0]) (by rw [List.getElem?_map, List.getElem?_eq_getElem hi0]; rfl)
    have hp0 : 0 < c0.length := by rw [hs0, hsz]; exact hpos
    have := World.cell?_spot (hc0 0 _ (List.getElem?_eq_getElem hp0))
    simpa [Addr.add] using this
  subst hsp
  refine ⟨b, off, hA, trivial, fun j u hu => ?_⟩
  have := hcc j u hu
  rw [hsz, Addr.add_lit, ← Nat.add_assoc] at this
  exact this
/-- A row of the call's own that a printed contract gives, read. -/
theorem sl_of_R {α β : Type} {enc : α → List Value} {sz e base : Nat} {ok : Nat → Prop} {w : World} {v : Value} {l : List α} (d : Kd β) (f : α → β) (hsz : d.sz = sz) (hlen : ∀ x, (enc x).length = sz) (hpos : 0 < sz) (hK : ∀ w x cs, d.K w (f x) cs → cs = enc x)
    (h : d.R e w base ok v (l.map f)) : ∃ A n c, v = .slice A n c ∧ Sl enc sz (fun _ => True) w A n c l := by
  obtain ⟨A, c, hv, hc, hC⟩ := Kd.R_reads h
  obtain ⟨inner, ho⟩ := Kd.R_own h
  refine ⟨A, _, c, hv, sl_of_C d f hsz hlen hpos hK hC hc ?_⟩
  rcases ho.2 with ⟨hn, _⟩ | ⟨g, cap, cur, hn, _, _, _, hm, _⟩
  · rw [hv] at hn; injection hn with _ _ hn; omega
  · rw [hv] at hn; injection hn with _ _ hn; unfold maxLen at hm; omega

theorem rd_at {α β : Type} (f : α → β) (z : β) (l : List α) (i : Nat) (x : α) (h : l[i]? = some x) : (l.map f).getD ((i : Int)).toNat z = f x := by
  rw [Int.toNat_natCast, List.getD_eq_getElem?_getD, List.getElem?_map, h]; rfl
theorem wrap_succ {i : Nat} (h : i ≤ 1000000) : wrap64 ((i : Int) + 1) = ((i + 1 : Nat) : Int) := by unfold wrap64; omega

end Go.Proofs.YtdocdppimpapiabDoor

namespace Go.Proofs.YtdocdppimpapiabDoor
open Go.RowKit

def eqL (a b : List Int) : Bool := decide (a = b)
theorem eqL_ne {a b : List Int} (h : a.length ≠ b.length) : eqL a b = false := decide_eq_false fun e => h (by rw [e])

theorem take_ne {α : Type} {a b : List α} {k : Nat} {x y : α} (hx : a[k]? = some x) (hy : b[k]? = some y) (h : x ≠ y) : a ≠ b := fun e => by
  subst e
  rw [hx] at hy
  injection hy with hy
  exact h hy
theorem take_step {α : Type} {a b : List α} {k : Nat} {x : α} (h : a.take k = b.take k) (hx : a[k]? = some x) (hy : b[k]? = some x) : a.take (k + 1) = b.take (k + 1) := by
  rw [List.take_add_one, List.take_add_one, h, hx, hy]

set_option maxHeartbeats 400000 in
theorem same01_any (A B : Option Addr) (n m c d : Nat) (a b : List Int) (Q R : Nat → Prop) (w : World) (h : Sl (eI .u8) 1 Q w A n c a) (h' : Sl (eI .u8) 1 R w B m d b) :
    Calls Tryd.prog 15 #[.slice A n c, .slice B m d] w fun e w' => e = .returned (.bool (eqL a b)) ∧ Drawn w w' := by
  have hn := Nat.le_trans h.le h.mx
  have hm := Nat.le_trans h'.le h'.mx
  have HN := Lib.hid h.len
  have HM := Lib.hid h'.len
  have H := Lib.hid h
  have H' := Lib.hid h'
  clear h h'
  by_cases hl : n = m
  · subst hl
    have E0 : ((n : Int) != (n : Int)) = false := by simp
    go_enter Tryd.func15, Tryd.ntmps15
    go_wp2
    go_loopw [5] (fun i wr => ∃ k : Nat, k ≤ n ∧ i = .int .i64 k ∧ a.take k = b.take k ∧ Drawn w wr) (fun i _ => n - (intOf i).toNat)
    case atStart => exact ⟨0, Nat.zero_le _, rfl, rfl, Drawn.refl _⟩
    case round =>
      obtain ⟨k, hk, rfl, hab, hd⟩ := hrel
      have HAB := Lib.hid hab
      clear hab
      by_cases hlt : k < n
      · obtain ⟨b1, o1, x, rfl, hx, _, hl1, hc1⟩ := (H.out.ext hd.ext).num k hlt
        obtain ⟨b2, o2, y, rfl, hy, _, hl2, hc2⟩ := (H'.out.ext hd.ext).num k hlt
        have HX := Lib.hid hx
        have HY := Lib.hid hy
        have k0 : (0 : Int) ≤ (k : Int) := by omega
        have k1 : (k : Int) < (n : Int) := by omega
        clear hx hy
        by_cases hxy : x = y
        · subst hxy
          go_wp2
          go_quiet (fail)
          go_wp2
          refine ⟨⟨k + 1, by omega, by go_num, take_step HAB.out HX.out HY.out, hd.drewN _⟩, by simp [intOf]; omega⟩
        · have e0 : (x != y) = true := by simp [hxy]
          have E : eqL a b = false := decide_eq_false (take_ne HX.out HY.out hxy)
          clear hxy
          go_wp2
          go_quiet (fail)
          go_wp2
          go_ret
          exact ⟨ret_bool E.symm, hd.drewN _⟩
      · have hE : eqL a b = true := decide_eq_true (by
          have h1 := HAB.out
          rwa [List.take_of_length_le (by rw [← HN.out]; omega), List.take_of_length_le (by rw [← HM.out]; omega)] at h1)
        go_wp2
        go_ret
        exact ⟨ret_bool hE.symm, hd⟩
  · have E0 : ((n : Int) != (m : Int)) = true := by simp; omega
    have E : eqL a b = false := eqL_ne (by rw [← HN.out, ← HM.out]; exact hl)
    clear hl
    go_enter Tryd.func15, Tryd.ntmps15
    go_wp2
    go_ret
    exact ⟨ret_bool E.symm, Drawn.refl _⟩

set_option maxHeartbeats 400000 in
theorem cut_any (A : Option Addr) (n c k : Nat) (l : List Int) (Q : Nat → Prop) (w : World) (h : Sl (eI .u8) 1 Q w A n c l) :
    Calls Tryd.prog 18 #[.slice A n c, .int .i64 k] w fun e w' => ∃ A' n' c', e = .returned (.slice A' n' c') ∧ Sl (eI .u8) 1 Q w A' n' c' (l.take k) ∧ w = w' := by
  have hc := h.le
  have hm := h.mx
  have hl := h.len
  have H := Lib.hid h
  have HL := Lib.hid hl
  clear h hl
  by_cases hk : k < n
  · go_enter Tryd.func18, Tryd.ntmps18
    go_wp2
    go_ret
    exact ⟨_, _, _, rfl, H.out.take k (by omega) c (by omega) hm, rfl⟩
  · go_enter Tryd.func18, Tryd.ntmps18
    go_wp2
    go_ret
    exact ⟨_, _, _, rfl, by rw [List.take_of_length_le (by rw [← HL.out]; omega)]; exact H.out, rfl⟩
end Go.Proofs.YtdocdppimpapiabDoor

namespace Go.Proofs.YtdocdppimpapiabDoor
open Go.RowKit Go.Proofs.YtdocdppimpapiabDoorW.PrintWords

abbrev GP := PDirsGets.S47
abbrev GR := PDirsGets.S45
abbrev BP := PDirsBytes.S47
abbrev BR := PDirsBytes.S45
def gP (e : En) : GP := ⟨e.1, e.2⟩
def gR (e : En) : GR := ⟨e.1, e.2⟩
def bP (e : En) : BP := ⟨e.1, e.2⟩
def bR (e : En) : BR := ⟨e.1, e.2⟩
theorem c_gP {Q : Nat → Prop} {w : World} {A : Option Addr} {n cap : Nat} {l : List En} (h : Sl eE 2 Q w A n cap l) : PDirsGets.k47.C w A (l.map gP).length (l.map gP) := C_of_sl _ gP rfl eE_len (fun w x => PDirsGets.k47_mk w (gP x)) h
theorem c_gR {Q : Nat → Prop} {w : World} {A : Option Addr} {n cap : Nat} {l : List En} (h : Sl eE 2 Q w A n cap l) : PDirsGets.k45.C w A (l.map gR).length (l.map gR) := C_of_sl _ gR rfl eE_len (fun w x => PDirsGets.k45_mk w (gR x)) h
theorem c_bR {Q : Nat → Prop} {w : World} {A : Option Addr} {n cap : Nat} {l : List En} (h : Sl eE 2 Q w A n cap l) : PDirsBytes.k45.C w A (l.map bR).length (l.map bR) := C_of_sl _ bR rfl eE_len (fun w x => PDirsBytes.k45_mk w (bR x)) h

theorem bt_at' (s : ByteArray) (i : Nat) (h : i < s.size) : bt s (i : Int) = (s[i].toNat : Int) := by
  unfold bt; rw [dif_pos (by simpa using h)]; rfl
open PDirsGets in
theorem name_step (k : Nat) (s : ByteArray) (i : Nat) (hs : s.size ≤ 1000) (h : i < s.size) : catenaryref29_Name.l0 (k + 1) s (i : Int) = if plainU s[i] = true then catenaryref29_Name.l0 k s ((i + 1 : Nat) : Int) else some false := by
  simp only [catenaryref29_Name.l0]
  rw [if_pos (by omega), if_pos (by omega), wrap_succ (by omega), bt_at' s i h]
  unfold plainU
  obtain ⟨c, hc⟩ : ∃ c : Int, (s[i].toNat : Int) = c := ⟨_, rfl⟩
  rw [hc]
  have hp : plainI c = true ↔ ((97 ≤ c ∧ c ≤ 122) ∨ (48 ≤ c ∧ c ≤ 57) ∨ c = 46 ∨ c = 95 ∨ c = 45) := by unfold plainI; simp
  by_cases hP : plainI c = true
  · rw [if_pos hP]
    have := hp.1 hP
    (repeat' split) <;> first | rfl | omega
  · rw [if_neg hP]
    have : ¬ ((97 ≤ c ∧ c ≤ 122) ∨ (48 ≤ c ∧ c ≤ 57) ∨ c = 46 ∨ c = 95 ∨ c = 45) := fun h => hP (hp.2 h)
    (repeat' split) <;> first | rfl | omega
open PDirsGets in
theorem name_l0 (s : ByteArray) (hs : s.size ≤ 1000) : ∀ (d k i : Nat), i + d = s.size → d < k → (∀ (j : Nat) (hj : j < s.size), j < i → plainU s[j] = true) → catenaryref29_Name.l0 k s (i : Int) = some (s.data.toList.all plainU) := by
  intro d
  induction d with
  | zero =>
    intro k i hi hk hp
    obtain ⟨k, rfl⟩ : ∃ q, k = q + 1 := ⟨k - 1, by omega⟩
    simp only [catenaryref29_Name.l0]
    rw [if_neg (by omega), all_upto fun j hj => hp j hj (by omega)]
  | succ d ih =>
    intro k i hi hk hp
    obtain ⟨k, rfl⟩ : ∃ q, k = q + 1 := ⟨k - 1, by omega⟩
    have hlt : i < s.size := by omega
    rw [name_step k s i hs hlt]
    by_cases hq : plainU s[i] = true
    · rw [if_pos hq]
      exact ih k (i + 1) (by omega) (by omega) fun j hj h => by
        by_cases e : j = i
        · subst e; exact hq
        · exact hp j hj (by omega)
    · rw [if_neg hq, all_not hlt (by simpa using hq)]
open PDirsGets in
theorem name_f (s : ByteArray) (k : Nat) (hk : 20 < k) : catenaryref29_Name.f k s = some (nameB s) := by
  obtain ⟨k, rfl⟩ : ∃ q, k = q + 1 := ⟨k - 1, by omega⟩
  unfold catenaryref29_Name.f nameB
  simp only [catenaryref29_Name.j0]
  by_cases h0 : s.size = 0
  · rw [if_pos (by omega), if_pos trivial, decide_eq_false (by omega)]; rfl
  · rw [if_neg (by omega), decide_eq_true (show 1 ≤ s.size by omega)]
    by_cases h1 : s.size ≤ 11
    · rw [if_neg (by omega), decide_eq_true h1]
      by_cases h2 : s.toList = [46]
      · rw [if_pos h2, if_pos trivial, h2]; rfl
      · rw [if_neg h2, beq_eq_false_iff_ne.2 h2]
        by_cases h3 : s.toList = [46, 46]
        · rw [h3]; rfl
        · rw [beq_eq_false_iff_ne.2 h3, if_neg (by decide), show (0 : Int) = ((0 : Nat) : Int) from rfl, name_l0 s (by omega) s.size k 0 (by omega) (by omega) (fun j hj h => by omega)]
          rfl
    · rw [if_pos (by omega), if_pos trivial, decide_eq_false h1]; rfl
theorem rname_any (s : ByteArray) (w : World) : Calls Tryd.prog 13 #[.string s] w fun e w' => e = .returned (.bool (nameB s)) ∧ Drawn w w' :=
  (PDirsGets.catenaryref29_Name.calls 21 s _ w (name_f s 21 (by omega))).mono fun _ _ r => ⟨r.1, Drawn0.drawn r.2⟩

open PDirsGets in
theorem check_l0 (L : List En) (hL : L.length ≤ 1000) : ∀ (d k i : Nat), i + d = L.length → d + 30 < k → catenaryref29_Check.l0 k (L.map gR) (i : Int) = some (chkN (prevNm L i) (L.drop i)) := by
  intro d
  induction d with
  | zero =>
    intro k i hi hk
    obtain ⟨k, rfl⟩ : ∃ q, k = q + 1 := ⟨k - 1, by omega⟩
    simp only [catenaryref29_Check.l0]
    rw [if_neg (by rw [List.length_map]; omega), List.drop_eq_nil_of_le (by omega)]
    rfl
  | succ d ih =>
    intro k i hi hk
    obtain ⟨k, rfl⟩ : ∃ q, k = q + 1 := ⟨k - 1, by omega⟩
    have hx : L[i]? = some L[i] := List.getElem?_eq_getElem (by omega)
    simp only [catenaryref29_Check.l0]
    rw [if_pos (by rw [List.length_map]; omega), if_pos (by omega), chkN_step hx]
    have hr : rd_T45 (L.map gR) (i : Int) = gR L[i] := rd_at gR _ L i _ hx
    rw [hr, name_f _ k (by omega)]
    have e0 : ∀ e : En, (gR e).f0 = e.1 := fun _ => rfl
    have e1 : ∀ e : En, (gR e).f1 = e.2 := fun _ => rfl
    simp only [Option.bind_some, e0, e1]
    cases hn : nameB L[i].1
    · rw [if_neg (show ¬ false = true by decide), if_pos rfl]
    · rw [if_pos rfl, if_neg (show ¬ true = false by decide)]
      have ihn := ih k (i + 1) (by omega) (by omega)
      by_cases h1 : L[i].2 < 1
      · rw [if_pos h1, if_pos (.inl (by unfold nodeB; rw [decide_eq_false (by omega)]; rfl))]
      · by_cases h2 : L[i].2 > 65535
        · rw [if_neg h1, if_pos h2, if_pos (.inl (by unfold nodeB; rw [decide_eq_false (show ¬ L[i].2 ≤ 65535 by omega)]; simp))]
        · rw [if_neg h1, if_neg h2]
          have hnode : ¬ nodeB L[i].2 = false := by unfold nodeB; rw [decide_eq_true (show 1 ≤ L[i].2 by omega), decide_eq_true (show L[i].2 ≤ 65535 by omega)]; decide
          by_cases h0 : i = 0
          · subst h0
            rw [if_neg (by omega), wrap_succ (by omega), ihn, if_neg (by rintro (h | h); exact hnode h; cases h)]
          · have hy : L[i - 1]? = some L[i - 1] := List.getElem?_eq_getElem (by omega)
            have hw : wrap64 ((i : Int) - 1) = ((i - 1 : Nat) : Int) := by unfold wrap64; omega
            have hr2 : rd_T45 (L.map gR) ((i - 1 : Nat) : Int) = gR L[i - 1] := rd_at gR _ L (i - 1) _ hy
            have hpv : prevNm L i = some L[i - 1].1 := by unfold prevNm; rw [if_neg h0, hy]; rfl
            rw [if_pos (by omega), hw, if_pos (by omega), if_pos (by rw [List.length_map]; omega), hr2, e0, wrap_succ (by omega), ihn, hpv]
            by_cases hl : Op.bytesLess L[i - 1].1.toList L[i].1.toList = true
            · rw [if_pos hl, if_neg]
              rintro (h | h)
              · exact hnode h
              · simp only [prevNot, lessB, hl] at h; cases h
            · rw [if_neg hl, if_pos (.inr (by simp only [prevNot, lessB]; simpa using hl))]
open PDirsGets in
theorem check_f (L : List En) (k : Nat) (hk : 100 < k) : catenaryref29_Check.f k (L.map gR) = some (checkE L) := by
  unfold catenaryref29_Check.f checkE
  rw [List.length_map]
  by_cases h : 32 < L.length
  · rw [if_pos (by omega), if_pos h]
  · rw [if_neg (by omega), if_neg h, show (0 : Int) = ((0 : Nat) : Int) from rfl, check_l0 L (by omega) L.length k 0 (by omega) (by omega)]
    rfl
theorem rcheck29_any (A : Option Addr) (n c : Nat) (l : List En) (Q : Nat → Prop) (w : World) (h : Sl eE 2 Q w A n c l) : Calls Tryd.prog 11 #[.slice A n c] w fun e w' => e = .returned (.int .i64 (checkE l)) ∧ Drawn w w' := by
  have h1 := PDirsGets.catenaryref29_Check.calls 101 A c (l.map gR) _ w (c_gR h) (by rw [List.length_map, ← h.len]; exact h.le) (check_f l 101 (by omega))
  rw [List.length_map, ← h.len] at h1
  exact h1.mono fun _ _ r => ⟨r.1, Drawn0.drawn r.2⟩
end Go.Proofs.YtdocdppimpapiabDoor

namespace Go.Proofs.YtdocdppimpapiabDoor
open Go.RowKit Go.Proofs.YtdocdppimpapiabDoorW.PrintWords

/-- Have entries more than is looked at? -/
def farE (l : List En) : Bool := decide (40 < l.length) || (l.take 50).any fun e => decide (30 < e.1.size)
open PDirsBytes in
theorem far_l0 (L : List En) : ∀ (d k i : Nat), i + d = min L.length 50 → 2 * d + 2 ≤ k → (∀ e ∈ L.take i, ¬ 30 < e.1.size) → catenarylaw29_far.l0 k (L.map bR) (i : Int) = some (farE L) := by
  intro d
  induction d with
  | zero =>
    intro k i hi hk hp
    obtain ⟨k, rfl⟩ : ∃ q, k = q + 2 := ⟨k - 2, by omega⟩
    have hE : farE L = decide ((L.length : Int) > 40) := by
      have h1 : L.take 50 = L.take i := by
        rcases Nat.le_total L.length 50 with h | h
        · rw [List.take_of_length_le h, List.take_of_length_le (by omega)]
        · rw [show i = 50 by omega]
      unfold farE
      rw [h1, List.any_eq_false.2 (fun e he => by simpa using hp e he), Bool.or_false]
      exact decide_eq_decide.2 (by omega)
    rw [hE]
    have hj : ∀ b : Bool, b = false → catenarylaw29_far.j1 (k + 1) (L.map bR) (i : Int) b = some (decide ((L.length : Int) > 40)) := fun b hb => by
      subst hb
      simp only [catenarylaw29_far.j1, List.length_map]
      rw [if_neg (by decide)]
    simp only [catenarylaw29_far.l0]
    split
    · rename_i h; rw [List.length_map] at h; exact hj _ (decide_eq_false (by omega))
    · exact hj _ rfl
  | succ d ih =>
    intro k i hi hk hp
    obtain ⟨k, rfl⟩ : ∃ q, k = q + 2 := ⟨k - 2, by omega⟩
    have hx : L[i]? = some L[i] := List.getElem?_eq_getElem (by omega)
    have hr : rd_T45 (L.map bR) (i : Int) = bR L[i] := rd_at bR _ L i _ hx
    have e0 : ∀ e : En, (bR e).f0 = e.1 := fun _ => rfl
    simp only [catenarylaw29_far.l0, catenarylaw29_far.j1, List.length_map]
    rw [if_pos (by omega), if_pos (by rw [decide_eq_true (by omega)]), if_pos (by omega), if_pos (by omega), hr, e0]
    by_cases h30 : 30 < L[i].1.size
    · rw [if_pos (by omega)]
      unfold farE
      rw [List.any_eq_true.2 ⟨L[i], List.mem_of_getElem? (i := i) (by rw [List.getElem?_take, if_pos (by omega), hx]), by simpa using h30⟩, Bool.or_true]
    · rw [if_neg (by omega), show wrap64 ((i : Int) + 1) = ((i + 1 : Nat) : Int) by unfold wrap64; omega]
      refine ih k (i + 1) (by omega) (by omega) fun e he => ?_
      rw [List.take_add_one, hx, List.mem_append] at he
      rcases he with he | he
      · exact hp e he
      · simp only [Option.toList_some, List.mem_singleton] at he
        subst he; exact h30
theorem far_any (A : Option Addr) (n c : Nat) (l : List En) (Q : Nat → Prop) (w : World) (h : Sl eE 2 Q w A n c l) : Calls Tryd.prog 6 #[.slice A n c] w fun e w' => e = .returned (.bool (farE l)) ∧ Drawn w w' := by
  have h1 := PDirsBytes.catenarylaw29_far.calls 200 A c (l.map bR) _ w (c_bR h) (by rw [List.length_map, ← h.len]; exact h.le) (far_l0 l (min l.length 50) 200 0 (by omega) (by omega) (fun e he => by cases he))
  rw [List.length_map, ← h.len] at h1
  exact h1.mono fun _ _ r => ⟨r.1, Drawn0.drawn r.2⟩
theorem far_no {l : List En} (h : farE l = false) : l.length ≤ 40 ∧ ∀ e ∈ l, e.1.size ≤ 30 := by
  unfold farE at h
  rw [Bool.or_eq_false_iff] at h
  have h1 : l.length ≤ 40 := by have := of_decide_eq_false h.1; omega
  rw [List.take_of_length_le (by omega)] at h
  refine ⟨h1, fun e he => ?_⟩
  have := List.any_eq_false.1 h.2 e he
  simpa using this

open PDirsBytes in
theorem ours29_l0 (L : List En) (hL : L.length ≤ 1000) : ∀ (d k i : Nat), i + d = L.length → d < k → catenarylaw29_ours.l0 k (L.map bR) ((L.take i).map bP) (i : Int) = some (L.map bP) := by
  intro d
  induction d with
  | zero =>
    intro k i hi hk
    obtain ⟨k, rfl⟩ : ∃ q, k = q + 1 := ⟨k - 1, by omega⟩
    simp only [catenarylaw29_ours.l0]
    rw [if_neg (by rw [List.length_map]; omega), List.take_of_length_le (by omega)]
  | succ d ih =>
    intro k i hi hk
    obtain ⟨k, rfl⟩ : ∃ q, k = q + 1 := ⟨k - 1, by omega⟩
    have hx : L[i]? = some L[i] := List.getElem?_eq_getElem (by omega)
    have hr : rd_T45 (L.map bR) (i : Int) = bR L[i] := rd_at bR _ L i _ hx
    simp only [catenarylaw29_ours.l0]
    rw [if_pos (by rw [List.length_map]; omega), if_pos (by omega), if_pos (by rw [List.length_map, List.length_take]; omega), wrap_succ (by omega), hr]
    have := ih k (i + 1) (by omega) (by omega)
    rw [List.take_add_one, hx, List.map_append] at this
    exact this
theorem ours29_any (A : Option Addr) (n c : Nat) (xs : List En) (Q : Nat → Prop) (w : World) (h : Sl eE 2 Q w A n c xs) (hl : xs.length ≤ 1000) :
    Calls Tryd.prog 9 #[.slice A n c] w fun e w' => ∃ A' n' c', e = .returned (.slice A' n' c') ∧ Sl eE 2 (fun _ => True) w' A' n' c' xs ∧ Ext w w' := by
  have h1 := PDirsBytes.catenarylaw29_ours.calls 1001 A c (xs.map bR) _ w (c_bR h) (by rw [List.length_map, ← h.len]; exact h.le) (ours29_l0 xs hl xs.length 1001 0 (by omega) (by omega))
  rw [List.length_map, ← h.len] at h1
  refine h1.mono fun e w' ⟨v, he, hR, hb⟩ => ?_
  obtain ⟨A', n', c', rfl, hS⟩ := sl_of_R _ bP rfl eE_len (by decide) (fun w x cs hc => PDirsBytes.k47_open hc) hR
  exact ⟨A', n', c', he, hS, ⟨hb⟩⟩

def eqE (a b : List En) : Bool := decide (a = b)
theorem eqE_self (a : List En) : eqE a a = true := decide_eq_true rfl
theorem toList_inj {a b : ByteArray} (h : a.toList = b.toList) : a = b := by
  rw [Lib.toList_data, Lib.toList_data] at h
  cases a; cases b
  simpa using h
open PDirsGets in
theorem like29_l0 (a b : List En) (hab : a.length = b.length) (hL : a.length ≤ 1000) : ∀ (d k i : Nat), i + d = a.length → d < k → a.take i = b.take i → catenarylaw29_like.l0 k (a.map gP) (b.map gR) (i : Int) = some (eqE a b) := by
  intro d
  induction d with
  | zero =>
    intro k i hi hk ht
    obtain ⟨k, rfl⟩ : ∃ q, k = q + 1 := ⟨k - 1, by omega⟩
    simp only [catenarylaw29_like.l0]
    rw [List.take_of_length_le (by omega), List.take_of_length_le (by omega)] at ht
    rw [if_neg (by rw [List.length_map]; omega), eqE, decide_eq_true ht]
  | succ d ih =>
    intro k i hi hk ht
    obtain ⟨k, rfl⟩ : ∃ q, k = q + 1 := ⟨k - 1, by omega⟩
    have hx : a[i]? = some a[i] := List.getElem?_eq_getElem (by omega)
    have hy : b[i]? = some b[i] := List.getElem?_eq_getElem (by omega)
    have h1 : rd_T47 (a.map gP) (i : Int) = gP a[i] := rd_at gP _ a i _ hx
    have h2 : rd_T45 (b.map gR) (i : Int) = gR b[i] := rd_at gR _ b i _ hy
    have e0 : ∀ e : En, (gR e).f0 = e.1 := fun _ => rfl
    have e1 : ∀ e : En, (gR e).f1 = e.2 := fun _ => rfl
    have p0 : ∀ e : En, (gP e).f0 = e.1 := fun _ => rfl
    have p1 : ∀ e : En, (gP e).f1 = e.2 := fun _ => rfl
    simp only [catenarylaw29_like.l0, List.length_map]
    rw [if_pos (by omega), if_pos (by omega), if_pos (by omega), h1, h2, e0, e1, p0, p1, wrap_succ (by omega)]
    by_cases hn : a[i].1.toList = b[i].1.toList
    · rw [if_pos hn]
      by_cases hv : a[i].2 = b[i].2
      · rw [if_pos hv]
        exact ih k (i + 1) (by omega) (by omega) (take_step ht hx (by rw [hy, Prod.ext (toList_inj hn) hv]))
      · rw [if_neg hv, eqE, decide_eq_false (take_ne hx hy fun e => hv (by rw [e]))]
    · rw [if_neg hn, eqE, decide_eq_false (take_ne hx hy fun e => hn (by rw [e]))]
open PDirsGets in
theorem like29_f (a b : List En) (hL : a.length ≤ 1000) (k : Nat) (hk : 1000 < k) : catenarylaw29_like.f k (a.map gP) (b.map gR) = some (eqE a b) := by
  unfold catenarylaw29_like.f
  rw [List.length_map, List.length_map]
  by_cases hab : a.length = b.length
  · rw [if_pos (by omega)]
    exact like29_l0 a b hab hL a.length k 0 (by omega) (by omega) rfl
  · rw [if_neg (by omega), eqE, decide_eq_false fun e => hab (by rw [e])]
theorem like29_any (A B : Option Addr) (n m c d : Nat) (a b : List En) (Q R : Nat → Prop) (w : World) (h : Sl eE 2 Q w A n c a) (h' : Sl eE 2 R w B m d b) (hL : a.length ≤ 1000) : Calls Tryd.prog 17 #[.slice A n c, .slice B m d] w fun e w' => e = .returned (.bool (eqE a b)) ∧ Drawn w w' := by
  have h1 := PDirsGets.catenarylaw29_like.calls 1001 A c (a.map gP) B d (b.map gR) _ w (c_gP h) (by rw [List.length_map, ← h.len]; exact h.le) (c_gR h') (by rw [List.length_map, ← h'.len]; exact h'.le) (like29_f a b hL 1001 (by omega))
  rw [List.length_map, List.length_map, ← h.len, ← h'.len] at h1
  exact h1.mono fun _ _ r => ⟨r.1, Drawn0.drawn r.2⟩

open Go.Proofs.YtdocdppimpapiabDoor.PDirsGets in
theorem put01_l0 (wd : Int) (hw : wd ≤ 8) : ∀ (d k i : Nat) (n : Int) (out : List Int), (i : Int) + d = wd → d < k → 0 ≤ n → n < 256 ^ d → out.length + d ≤ 1000 → catenaryref01_Put.l0 k n wd out (i : Int) = some (beB n d ++ out, 0) := by
  intro d
  induction d with
  | zero =>
    intro k i n out hi hk h0 h1 ho
    obtain ⟨k, rfl⟩ : ∃ q, k = q + 1 := ⟨k - 1, by omega⟩
    simp only [catenaryref01_Put.l0]
    simp only [Int.pow_zero] at h1
    rw [if_neg (by omega), if_neg (by omega)]
    rfl
  | succ d ih =>
    intro k i n out hi hk h0 h1 ho
    obtain ⟨k, rfl⟩ : ∃ q, k = q + 1 := ⟨k - 1, by omega⟩
    simp only [catenaryref01_Put.l0]
    have h2 : n / 256 < 256 ^ d := by rw [Int.pow_succ] at h1; omega
    have h3 : n < 18446744073709551616 := by
      have : (256 : Int) ^ (d + 1) ≤ 256 ^ 8 := by
        have h4 : d + 1 = 1 ∨ d + 1 = 2 ∨ d + 1 = 3 ∨ d + 1 = 4 ∨ d + 1 = 5 ∨ d + 1 = 6 ∨ d + 1 = 7 ∨ d + 1 = 8 := by omega
        rcases h4 with h4 | h4 | h4 | h4 | h4 | h4 | h4 | h4 <;> rw [h4] <;> decide
      omega
    rw [if_pos (by omega)]
    simp only [Option.bind_some]
    rw [if_pos (by simp; omega), Int.tdiv_eq_ediv_of_nonneg h0, Int.tmod_eq_emod_of_nonneg h0, wrap_u64 (by omega) (by omega), wrap_succ (by omega), ih k (i + 1) (n / 256) _ (by omega) (by omega) (by omega) h2 (by simp; omega)]
    rw [beB, List.append_assoc, show n % 256 % 256 = n % 256 by omega]
open Go.Proofs.YtdocdppimpapiabDoor.PDirsGets in
theorem big_f (n : Int) (wd : Nat) (h1 : 1 ≤ wd) (h8 : wd ≤ 8) (h0 : 0 ≤ n) (hn : n < 256 ^ wd) (k : Nat) (hk : 20 < k) : catenaryref01_Big.f k n wd = some (beB n wd) := by
  unfold catenaryref01_Big.f catenaryref01_Put.f
  rw [if_neg (by omega)]
  obtain ⟨k, rfl⟩ : ∃ q, k = q + 1 := ⟨k - 1, by omega⟩
  simp only [catenaryref01_Put.j0]
  rw [if_neg (by simp; omega)]
  have := put01_l0 (wd : Int) (by omega) wd k 0 n [] (by simp) (by omega) h0 hn (by simp; omega)
  rw [List.append_nil] at this
  exact (congrArg (fun o => o.bind fun bt : List Int × Int => some bt.1) this).trans rfl

open PDirsGets in
theorem bytes_l1 (x : List GR) (i : Int) : ∀ (d k : Nat) (out : List Int), d ≤ 11 → out.length + d ≤ 100000 → catenaryref29_Bytes.l1 (k + d) x out i ((11 - d : Nat) : Int) = catenaryref29_Bytes.l1 k x (out ++ List.replicate d 0) i 11 := by
  intro d
  induction d with
  | zero => intro k out _ _; rw [List.replicate_zero, List.append_nil]; rfl
  | succ d ih =>
    intro k out hd ho
    rw [show k + (d + 1) = (k + d) + 1 by omega]
    conv => lhs; unfold catenaryref29_Bytes.l1
    rw [if_pos (by omega), if_pos (by omega), show wrap64 (((11 - (d + 1) : Nat) : Int) + 1) = ((11 - d : Nat) : Int) by unfold wrap64; omega, ih k (out ++ [0]) (by omega) (by rw [List.length_append, List.length_singleton]; omega), List.append_assoc]
    rfl
open PDirsGets in
theorem bytes_l0 (L : List En) (hL : L.length ≤ 32) (hok : ∀ e ∈ L, e.1.size ≤ 11 ∧ 0 ≤ e.2 ∧ e.2 ≤ 65535) : ∀ (d k i : Nat), i + d = L.length → 13 * d + 30 < k → catenaryref29_Bytes.l0 k (L.map gR) (encsN (L.take i)) (i : Int) = some (encsN L) := by
  intro d
  induction d with
  | zero =>
    intro k i hi hk
    obtain ⟨k, rfl⟩ : ∃ q, k = q + 1 := ⟨k - 1, by omega⟩
    unfold catenaryref29_Bytes.l0
    rw [if_neg (by rw [List.length_map]; omega), List.take_of_length_le (by omega)]
  | succ d ih =>
    intro k i hi hk
    obtain ⟨x, hx⟩ : ∃ x, L[i]? = some x := ⟨_, List.getElem?_eq_getElem (show i < L.length by omega)⟩
    have hr : rd_T45 (L.map gR) (i : Int) = gR x := rd_at gR _ L i _ hx
    have e0 : ∀ e : En, (gR e).f0 = e.1 := fun _ => rfl
    have e1 : ∀ e : En, (gR e).f1 = e.2 := fun _ => rfl
    obtain ⟨h11, h0, h9⟩ := hok x (List.mem_of_getElem? hx)
    have hlen : (encsN (L.take i)).length ≤ 512 := by
      rw [encsN_len fun e he => (hok e (List.mem_of_mem_take he)).1, List.length_take]; omega
    obtain ⟨k', hk'⟩ : ∃ q, k = q + 1 + (11 - x.1.size) + 1 := ⟨k - (11 - x.1.size) - 2, by omega⟩
    subst hk'
    obtain ⟨k, rfl⟩ : ∃ q : Nat, q = k' := ⟨_, rfl⟩
    unfold catenaryref29_Bytes.l0
    simp only [Option.bind_some, hr, e0]
    rw [if_pos (by rw [List.length_map]; omega), if_pos (by omega), if_pos (by omega), if_pos (by rw [List.length_append, List.length_singleton]; omega)]
    have hl1 := bytes_l1 (L.map gR) (i : Int) (11 - x.1.size) (k + 1) (encsN (L.take i) ++ [(x.1.size : Int) % 256] ++ bytesOf x.1) (by omega) (by rw [List.length_append, List.length_append, bytesOf_length, List.length_singleton]; omega)
    rw [show ((11 - (11 - x.1.size) : Nat) : Int) = (x.1.size : Int) by omega] at hl1
    rw [hl1]
    unfold catenaryref29_Bytes.l1
    simp only [hr, e1]
    rw [if_neg (by omega), if_pos (by omega), if_pos (by rw [List.length_map]; omega), wrap_u64 h0 (by omega), show (4 : Int) = ((4 : Nat) : Int) from rfl, big_f x.2 4 (by omega) (by omega) h0 (p256_4 h9) k (by omega)]
    simp only [Option.bind_some]
    rw [if_pos (by rw [List.length_append, List.length_append, List.length_append, bytesOf_length, List.length_singleton, List.length_replicate, beB_len]; omega), wrap_succ (by omega)]
    have := ih k (i + 1) (by omega) (by omega)
    rw [← encsN_next hx] at this
    exact this
open PDirsGets in
theorem bytes_f {L : List En} (hc : checkE L = 0) (k : Nat) (hk : 600 < k) : catenaryref29_Bytes.f k (L.map gR) = some (encsN L) := by
  obtain ⟨h1, h2⟩ := checkE_ok hc
  unfold catenaryref29_Bytes.f
  exact bytes_l0 L h1 (fun e he => ⟨(h2 e he).1.2, by have := (h2 e he).2; omega, (h2 e he).2.2⟩) L.length k 0 (by omega) (by omega)
theorem rbytes29_any (A : Option Addr) (n c : Nat) (l : List En) (Q : Nat → Prop) (w : World) (h : Sl eE 2 Q w A n c l) (hc : checkE l = 0) :
    Calls Tryd.prog 16 #[.slice A n c] w fun e w' => ∃ A' n' c', e = .returned (.slice A' n' c') ∧ Sl (eI .u8) 1 (fun _ => True) w' A' n' c' (encsN l) ∧ Ext w w' := by
  have h1 := PDirsGets.catenaryref29_Bytes.calls 601 A c (l.map gR) _ w (c_gR h) (by rw [List.length_map, ← h.len]; exact h.le) (bytes_f hc 601 (by omega))
  rw [List.length_map, ← h.len] at h1
  refine h1.mono fun e w' ⟨v, he, hR, hb⟩ => ?_
  rw [← List.map_id (encsN l)] at hR
  obtain ⟨A', n', c', rfl, hS⟩ := sl_of_R (Kd.int .u8) id rfl (eI_len .u8) (by decide) (fun w x cs hc => hc) hR
  exact ⟨A', n', c', he, hS, ⟨hb⟩⟩
end Go.Proofs.YtdocdppimpapiabDoor
