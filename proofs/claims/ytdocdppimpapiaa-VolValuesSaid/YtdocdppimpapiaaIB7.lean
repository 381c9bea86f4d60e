/-
  A bridge: what the printed contracts ask and give ('Kd.C', 'Kd.R'), in this seat's words ('Sl'); the printed like, ours, Bytes at inodes. inode.Put: an inode's bytes. The page's example of inodes; numbers that are the same.
-/
import Derived.Test.YtdocdppimpapiaaPInodeChecksx12
import Derived.Test.YtdocdppimpapiaaPInodeChecksx16
import Derived.Laws.BytesArg
import Derived.Test.YtdocdppimpapiaaIB1
import Derived.Test.YtdocdppimpapiaaIB2
import Derived.Test.YtdocdppimpapiaaIB4
set_option linter.unusedSimpArgs false
set_option linter.unusedVariables false
namespace Go.Proofs.Ytdocdppimpapiaa
open Go.RowKit Go.Proofs.YtdocdppimpapiaaW.PrintWords

theorem C_of_sl {α β : Type} {enc : α → List Value} {sz : Nat} {Q : Nat → Prop} {w : World} {A : Option Addr} {n cap : Nat} {l : List α} (d : Kd β) (f : α → β) (hsz : d.sz = sz) (hlen : ∀ x, (enc x).length = sz) (hK : ∀ w x, d.K w (f x) (enc x))
    (h : Sl enc sz Q w A n cap l) : d.C w A (l.map f).length (l.map f) := by
  refine ⟨rfl, by rw [List.length_map, ← h.len]; exact Nat.le_trans h.le h.mx, fun hn => ?_⟩
  rw [List.length_map] at hn
  obtain ⟨b, off, hA, hq, _⟩ := h.at_ 0 l[0] (List.getElem?_eq_getElem hn)
  refine ⟨⟨b, off, none⟩, hA, fun j p hp => ?_⟩
  rw [List.getElem?_map] at hp
  cases hx : l[j]? with
  | none => rw [hx] at hp; cases hp
  | some x =>
    rw [hx] at hp
    simp only [Option.map_some, Option.some.injEq] at hp
    subst hp
    obtain ⟨b', off', hA', _, hc⟩ := h.at_ j x hx
    rw [hA] at hA'
    simp only [Option.some.injEq, Addr.mk.injEq, and_true] at hA'
    obtain ⟨rfl, rfl⟩ := hA'
    refine ⟨enc x, (hlen x).trans hsz.symm, hK w x, fun i u hu => ?_⟩
    have := hc i u hu
    rw [hsz, Addr.add_lit, ← Nat.add_assoc]
    exact this
theorem sl_of_C {α β : Type} {enc : α → List Value} {sz : Nat} {w : World} {A : Option Addr} {n cap : Nat} {l : List α} (d : Kd β) (f : α → β) (hsz : d.sz = sz) (hlen : ∀ x, (enc x).length = sz) (hpos : 0 < sz) (hK : ∀ w x cs, d.K w (f x) cs → cs = enc x)
    (h : d.C w A n (l.map f)) (hc : n ≤ cap) (hm : cap ≤ 9223372036854775807) : Sl enc sz (fun _ => True) w A n cap l := by
  obtain ⟨h1, h2, h3⟩ := h
  rw [List.length_map] at h1
  refine ⟨h1.symm, hc, hm, fun i x hx => ?_⟩
  have hi : i < l.length := by
    rcases Nat.lt_or_ge i l.length with h4 | h4
    · exact h4
    · rw [List.getElem?_eq_none h4] at hx; cases hx
  obtain ⟨ad, hA, hcell⟩ := h3 (by omega)
  obtain ⟨c, hs, hr, hcc⟩ := hcell i (f x) (by rw [List.getElem?_map, hx]; rfl)
  obtain rfl := hK _ _ _ hr
  obtain ⟨b, off, spot⟩ := ad
  have hsp : spot = none := by
    have hi0 : 0 < l.length := by omega
    obtain ⟨c0, hs0, hr0, hc0⟩ := hcell 0 (f l[0]) (by rw [List.getElem?_map, List.getElem?_eq_getElem hi0]; rfl)
    have hp0 : 0 < c0.length := by rw [hs0, hsz]; exact hpos
    have := World.cell?_spot (hc0 0 _ (List.getElem?_eq_getElem hp0))
    simpa [Addr.add] using this
  subst hsp
  refine ⟨b, off, hA, trivial, fun j u hu => ?_⟩
  have := hcc j u hu
  rw [hsz, Addr.add_lit, ← Nat.add_assoc] at this
  exact this
/-- A row of the call's own that a printed contract gives, read. -/
theorem sl_of_R {α β : Type} {enc : α → List Value} {sz e base : Nat} {ok : Nat → Prop} {w : World} {v : Value} {l : List α} (d : Kd β) (f : α → β) (hsz : d.sz = sz) (hlen : ∀ x, (enc x).length = sz) (hpos : 0 < sz) (hK : ∀ w x cs, d.K w (f x) cs → cs = enc x)
    (h : d.R e w base ok v (l.map f)) : ∃ A n c, v = .slice A n c ∧ Sl enc sz (fun _ => True) w A n c l := by
  obtain ⟨A, c, hv, hc, hC⟩ := Kd.R_reads h
  obtain ⟨inner, ho⟩ := Kd.R_own h
  refine ⟨A, _, c, hv, sl_of_C d f hsz hlen hpos hK hC hc ?_⟩
  rcases ho.2 with ⟨hn, _⟩ | ⟨g, cap, cur, hn, _, _, _, hm, _⟩
  · rw [hv] at hn; injection hn with _ _ hn; omega
  · rw [hv] at hn; injection hn with _ _ hn; unfold maxLen at hm; omega

abbrev SP := Go.Proofs.Ytdocdppimpapiaa.PInodeChecks.S86
abbrev SR := Go.Proofs.Ytdocdppimpapiaa.PInodeChecks.S85
def toP (e : Ex) : SP := ⟨e.1, e.2⟩
def toR (e : Ex) : SR := ⟨e.1, e.2⟩
open Go.Proofs.Ytdocdppimpapiaa.PInodeChecks in
theorem kP (w : World) (x : Ex) : k86.K w (toP x) (eX x) := k86_mk w (toP x)
open Go.Proofs.Ytdocdppimpapiaa.PInodeChecks in
theorem kR (w : World) (x : Ex) : k85.K w (toR x) (eX x) := k85_mk w (toR x)
open Go.Proofs.Ytdocdppimpapiaa.PInodeChecks in
theorem slP {Q : Nat → Prop} {w : World} {A : Option Addr} {n cap : Nat} {l : List Ex} (h : Sl eX 2 Q w A n cap l) : k86.C w A (l.map toP).length (l.map toP) := C_of_sl _ toP rfl eX_len kP h
open Go.Proofs.Ytdocdppimpapiaa.PInodeChecks in
theorem slR {Q : Nat → Prop} {w : World} {A : Option Addr} {n cap : Nat} {l : List Ex} (h : Sl eX 2 Q w A n cap l) : k85.C w A (l.map toR).length (l.map toR) := C_of_sl _ toR rfl eX_len kR h
theorem rd_at {α β : Type} (f : α → β) (z : β) (l : List α) (i : Nat) (x : α) (h : l[i]? = some x) : (l.map f).getD ((i : Int)).toNat z = f x := by
  rw [Int.toNat_natCast, List.getD_eq_getElem?_getD, List.getElem?_map, h]; rfl
theorem wrap_succ {i : Nat} (h : i ≤ 1000000) : wrap64 ((i : Int) + 1) = ((i + 1 : Nat) : Int) := by unfold wrap64; omega

open Go.Proofs.Ytdocdppimpapiaa.PInodeChecks in
theorem ours_l0 (m s m1 s1 : Int) (L : List Ex) (hL : L.length ≤ 1000) : ∀ (d k i : Nat), i + d = L.length → d < k → catenarylaw28_ours.l0 k (i : Int) m s (L.map toR) m1 s1 ((L.take i).map toP) = some (m1, s1, L.map toP) := by
  intro d
  induction d with
  | zero =>
    intro k i hi hk
    obtain ⟨k, rfl⟩ : ∃ q, k = q + 1 := ⟨k - 1, by omega⟩
    simp only [catenarylaw28_ours.l0]
    rw [if_neg (by rw [List.length_map]; omega), List.take_of_length_le (by omega)]
  | succ d ih =>
    intro k i hi hk
    obtain ⟨k, rfl⟩ : ∃ q, k = q + 1 := ⟨k - 1, by omega⟩
    have hx : L[i]? = some L[i] := List.getElem?_eq_getElem (by omega)
    simp only [catenarylaw28_ours.l0]
    rw [if_pos (by rw [List.length_map]; omega), if_pos (by omega), if_pos (by rw [List.length_map, List.length_take]; omega), wrap_succ (by omega)]
    have := ih k (i + 1) (by omega) (by omega)
    rw [take_snoc hx, List.map_append] at this
    rw [← this]
    unfold rd_T85
    rw [rd_at toR _ L i _ hx]
    rfl
open Go.Proofs.Ytdocdppimpapiaa.PInodeChecks in
theorem ours_f (m s : Int) (L : List Ex) (hL : L.length ≤ 1000) (k : Nat) (hk : 1000 < k) : catenarylaw28_ours.f k m s (L.map toR) = some (m, s, L.map toP) := by
  unfold catenarylaw28_ours.f
  exact ours_l0 m s m s L hL L.length k 0 (by omega) (by omega)
open Go.Proofs.Ytdocdppimpapiaa.PInodeChecks in
theorem equal_l0 (a b : List Ex) (hab : a.length = b.length) (hL : a.length ≤ 1000) : ∀ (d k i : Nat), i + d = a.length → d < k → a.take i = b.take i → inode_Extent.l0 k (a.map toP) (b.map toP) (a.length : Int) (i : Int) = some (decide (a = b)) := by
  intro d
  induction d with
  | zero =>
    intro k i hi hk ht
    obtain ⟨k, rfl⟩ : ∃ q, k = q + 1 := ⟨k - 1, by omega⟩
    simp only [inode_Extent.l0]
    rw [List.take_of_length_le (by omega), List.take_of_length_le (by omega)] at ht
    rw [if_neg (by omega), decide_eq_true ht]
  | succ d ih =>
    intro k i hi hk ht
    obtain ⟨k, rfl⟩ : ∃ q, k = q + 1 := ⟨k - 1, by omega⟩
    have hx : a[i]? = some a[i] := List.getElem?_eq_getElem (by omega)
    have hy : b[i]? = some b[i] := List.getElem?_eq_getElem (by omega)
    simp only [inode_Extent.l0]
    rw [if_pos (by omega), if_pos (by omega), if_pos (by rw [List.length_map]; omega), if_pos (by rw [List.length_map]; omega)]
    unfold rd_T86
    rw [rd_at toP _ a i _ hx, rd_at toP _ b i _ hy]
    by_cases he : a[i] = b[i]
    · rw [if_neg (by simp [he]), wrap_succ (by omega)]
      exact ih k (i + 1) (by omega) (by omega) (take_step ht hx (by rw [he]; exact hy))
    · have hne : ¬ (a[i].1 = b[i].1 ∧ a[i].2 = b[i].2) := fun h => he (Prod.ext h.1 h.2)
      rw [if_pos (by simp [toP]; omega), decide_eq_false (take_ne hx hy he)]
open Go.Proofs.Ytdocdppimpapiaa.PInodeChecks in
theorem equal_f (a b : List Ex) (hL : a.length ≤ 1000) (k : Nat) (hk : 1000 < k) : inode_Extent.f k (a.map toP) (b.map toP) = some (decide (a = b)) := by
  unfold inode_Extent.f
  by_cases hab : a.length = b.length
  · rw [if_pos (by rw [List.length_map, List.length_map, hab]), List.length_map]
    exact equal_l0 a b hab hL a.length k 0 (by omega) (by omega) rfl
  · rw [if_neg (by rw [List.length_map, List.length_map]; omega), decide_eq_false fun e => hab (by rw [e])]
def eqIno (a b : Ino) : Bool := decide (a = b)
theorem eqIno_self (x : Ino) : eqIno x x = true := decide_eq_true rfl
theorem eqIno_split (m s m' s' : Int) (a b : List Ex) : eqIno (m, s, a) (m', s', b) = (decide (m = m') && (decide (s = s') && decide (a = b))) := by
  unfold eqIno
  rw [Bool.eq_iff_iff]
  simp [Prod.mk.injEq]
open Go.Proofs.Ytdocdppimpapiaa.PInodeChecks in
theorem same_f (m s m' s' : Int) (a b : List Ex) (hL : a.length ≤ 1000) (k : Nat) (hk : 1000 < k) : inode_Same.f k m s (a.map toP) m' s' (b.map toP) = some (eqIno (m, s, a) (m', s', b)) := by
  unfold inode_Same.f
  rw [eqIno_split, equal_f a b hL k hk]
  by_cases h1 : m = m'
  · rw [if_pos h1]
    by_cases h2 : s = s'
    · rw [if_pos h2, decide_eq_true h1, decide_eq_true h2]; simp
    · rw [if_neg h2, decide_eq_false h2]; simp
  · rw [if_neg h1, decide_eq_false h1]; simp
open Go.Proofs.Ytdocdppimpapiaa.PInodeChecks in
theorem like_f (m s m' s' : Int) (a b : List Ex) (hL : a.length ≤ 1000) (hL' : b.length ≤ 1000) (k : Nat) (hk : 1000 < k) : catenarylaw28_like.f k m s (a.map toP) m' s' (b.map toR) = some (eqIno (m, s, a) (m', s', b)) := by
  unfold catenarylaw28_like.f
  rw [ours_f m' s' b hL' k hk]
  simp only [Option.bind_some]
  rw [same_f m s m' s' a b hL k hk]
  simp only [Option.bind_some]
  by_cases he : eqIno (m, s, a) (m', s', b) = true
  · have h := of_decide_eq_true he
    simp only [Prod.mk.injEq] at h
    rw [he, if_pos rfl, if_pos h.1, h.2.2]
    simp
  · rw [if_neg he]
    simp at he
    rw [he]

theorem inoSame_any (m s m' s' : Int) (A B : Option Addr) (n k c d : Nat) (a b : List Ex) (Q R : Nat → Prop) (w : World) (h : Sl eX 2 Q w A n c a) (h' : Sl eX 2 R w B k d b) (hl : a.length ≤ 1000) :
    Calls Try.prog 55 #[.agg #[.int .i64 m, .int .i64 s, .slice A n c], .agg #[.int .i64 m', .int .i64 s', .slice B k d]] w fun e w' => e = .returned (.bool (eqIno (m, s, a) (m', s', b))) ∧ Ext w w' := by
  have h1 := PInodeChecks.inode_Same.calls 1001 m s A c (a.map toP) m' s' B d (b.map toP) _ w (slP h) (by rw [List.length_map, ← h.len]; exact h.le) (slP h') (by rw [List.length_map, ← h'.len]; exact h'.le) (same_f m s m' s' a b hl 1001 (by omega))
  rw [List.length_map, List.length_map, ← h.len, ← h'.len] at h1
  exact h1.mono fun e w' ⟨he, hb⟩ => ⟨he, ⟨hb⟩⟩
theorem like28_any (m s m' s' : Int) (A B : Option Addr) (n k c d : Nat) (a b : List Ex) (Q R : Nat → Prop) (w : World) (h : Sl eX 2 Q w A n c a) (h' : Sl eX 2 R w B k d b) (hl : a.length ≤ 1000) (hl' : b.length ≤ 1000) :
    Calls Try.prog 37 #[.agg #[.int .i64 m, .int .i64 s, .slice A n c], .agg #[.int .i64 m', .int .i64 s', .slice B k d]] w fun e w' => e = .returned (.bool (eqIno (m, s, a) (m', s', b))) ∧ Ext w w' := by
  have h1 := PInodeChecks.catenarylaw28_like.calls 1001 m s A c (a.map toP) m' s' B d (b.map toR) _ w (slP h) (by rw [List.length_map, ← h.len]; exact h.le) (slR h') (by rw [List.length_map, ← h'.len]; exact h'.le) (like_f m s m' s' a b hl hl' 1001 (by omega))
  rw [List.length_map, List.length_map, ← h.len, ← h'.len] at h1
  exact h1.mono fun e w' ⟨he, hb⟩ => ⟨he, ⟨hb⟩⟩
theorem ours28_any (m s : Int) (A : Option Addr) (n c : Nat) (xs : List Ex) (Q : Nat → Prop) (w : World) (h : Sl eX 2 Q w A n c xs) (hl : xs.length ≤ 1000) :
    Calls Try.prog 43 #[.agg #[.int .i64 m, .int .i64 s, .slice A n c]] w fun e w' => ∃ A' n' c', e = .returned (.agg #[.int .i64 m, .int .i64 s, .slice A' n' c']) ∧ Sl eX 2 (fun _ => True) w' A' n' c' xs ∧ Ext w w' := by
  have h1 := PInodeChecks.catenarylaw28_ours.calls 1001 m s A c (xs.map toR) _ _ _ w (slR h) (by rw [List.length_map, ← h.len]; exact h.le) (ours_f m s xs hl 1001 (by omega))
  rw [List.length_map, ← h.len] at h1
  refine h1.mono fun e w' ⟨v, he, hR, hb⟩ => ?_
  obtain ⟨A', n', c', rfl, hS⟩ := sl_of_R _ toP rfl eX_len (by decide) (fun w x cs hc => PInodeChecks.k86_open hc) hR
  exact ⟨A', n', c', he, hS, ⟨hb⟩⟩

open Go.Proofs.Ytdocdppimpapiaa.PInodeChecks in
theorem put01_l0 (wd : Int) (hw : wd ≤ 8) : ∀ (d k i : Nat) (n : Int) (out : List Int), (i : Int) + d = wd → d < k → 0 ≤ n → n < 256 ^ d → out.length + d ≤ 1000 → catenaryref01_Put.l0 k n wd out (i : Int) = some (beB n d ++ out, 0) := by
  intro d
  induction d with
  | zero =>
    intro k i n out hi hk h0 h1 ho
    obtain ⟨k, rfl⟩ : ∃ q, k = q + 1 := ⟨k - 1, by omega⟩
    simp only [catenaryref01_Put.l0]
    simp only [Int.pow_zero] at h1
    rw [if_neg (by omega), if_neg (by omega)]
    rfl
  | succ d ih =>
    intro k i n out hi hk h0 h1 ho
    obtain ⟨k, rfl⟩ : ∃ q, k = q + 1 := ⟨k - 1, by omega⟩
    simp only [catenaryref01_Put.l0]
    have h2 : n / 256 < 256 ^ d := by rw [Int.pow_succ] at h1; omega
    have h3 : n < 18446744073709551616 := by
      have : (256 : Int) ^ (d + 1) ≤ 256 ^ 8 := by
        have h4 : d + 1 = 1 ∨ d + 1 = 2 ∨ d + 1 = 3 ∨ d + 1 = 4 ∨ d + 1 = 5 ∨ d + 1 = 6 ∨ d + 1 = 7 ∨ d + 1 = 8 := by omega
        rcases h4 with h4 | h4 | h4 | h4 | h4 | h4 | h4 | h4 <;> rw [h4] <;> decide
      omega
    rw [if_pos (by omega)]
    simp only [Option.bind_some]
    rw [if_pos (by simp; omega), Int.tdiv_eq_ediv_of_nonneg h0, Int.tmod_eq_emod_of_nonneg h0, wrap_u64 (by omega) (by omega), wrap_succ (by omega), ih k (i + 1) (n / 256) _ (by omega) (by omega) (by omega) h2 (by simp; omega)]
    rw [beB, List.append_assoc, show n % 256 % 256 = n % 256 by omega]
open Go.Proofs.Ytdocdppimpapiaa.PInodeChecks in
theorem big_f (n : Int) (wd : Nat) (h1 : 1 ≤ wd) (h8 : wd ≤ 8) (h0 : 0 ≤ n) (hn : n < 256 ^ wd) (k : Nat) (hk : 20 < k) : catenaryref01_Big.f k n wd = some (beB n wd) := by
  unfold catenaryref01_Big.f catenaryref01_Put.f
  rw [if_neg (by omega)]
  obtain ⟨k, rfl⟩ : ∃ q, k = q + 1 := ⟨k - 1, by omega⟩
  simp only [catenaryref01_Put.j0]
  rw [if_neg (by simp; omega)]
  have := put01_l0 (wd : Int) (by omega) wd k 0 n [] (by simp) (by omega) h0 hn (by simp; omega)
  rw [List.append_nil] at this
  exact (congrArg (fun o => o.bind fun bt : List Int × Int => some bt.1) this).trans rfl
end Go.Proofs.Ytdocdppimpapiaa

namespace Go.Proofs.Ytdocdppimpapiaa
open Go.RowKit

theorem p256_2 {x : Int} (h : x ≤ 4096) : x < 256 ^ 2 := by omega
def encE (e : Ex) : List Int := beB e.1 2 ++ beB e.2 2
def putISt (m s : Int) (xs : List Ex) (k : Nat) : List Int := ((beB m 1 ++ beB xs.length 1) ++ beB s 4) ++ (xs.take k).flatMap encE
def encI (x : Ino) : List Int := putISt x.1 x.2.1 x.2.2 x.2.2.length
def putI (x : Ino) : List Int := if checkI x = 0 then encI x else []
theorem encE_len (e : Ex) : (encE e).length = 4 := by unfold encE; rw [List.length_append, beB_len, beB_len]
theorem putISt_len (m s : Int) (xs : List Ex) (k : Nat) : (putISt m s xs k).length = 6 + (xs.take k).length * 4 := by
  unfold putISt
  rw [List.length_append, List.length_append, List.length_append, beB_len, beB_len, beB_len, flatMap_len encE_len]
theorem putISt_next {m s : Int} {xs : List Ex} {k : Nat} {e : Ex} (h : xs[k]? = some e) : putISt m s xs k ++ beB e.1 2 ++ beB e.2 2 = putISt m s xs (k + 1) := by
  unfold putISt
  rw [take_snoc h, List.flatMap_append]
  simp [encE, List.append_assoc]
theorem putISt_zero (m s : Int) (xs : List Ex) : ((beB m 1 ++ beB xs.length 1) ++ beB s 4) = putISt m s xs 0 := by simp [putISt]

set_option maxHeartbeats 3200000 in
theorem iput_any (m s : Int) (A : Option Addr) (n c : Nat) (xs : List Ex) (Q : Nat → Prop) (w : World) (h : Sl eX 2 Q w A n c xs) (hl : xs.length ≤ 1000) :
    Calls Try.prog 50 #[.agg #[.int .i64 m, .int .i64 s, .slice A n c]] w (RetBE (putI (m, s, xs)) (checkI (m, s, xs)) w) := by
  have HL := Lib.hid h.len
  have H := Lib.hid (h.inside fun x => by simp [eX])
  clear h
  by_cases hc : checkI (m, s, xs) = 0
  · have hp : putI (m, s, xs) = putISt m s xs n := by unfold putI encI; rw [if_pos hc, HL.out]
    rw [hp, hc]
    obtain ⟨⟨m0, m2⟩, ⟨s0, s5⟩, x8, hf, _, _⟩ := checkI_ok hc
    have hn8 : n ≤ 8 := by rw [HL.out]; exact x8
    have HF := Lib.hid (fineB_mem hf)
    have HC := Lib.hid hc
    have X8 := Lib.hid x8
    clear hc hp hf x8
    go_enter Try.func50, Try.ntmps50
    go_wp2_with (first
      | (go_at_call 53; go_must (refine (check_ino _ _ _ _ _ _ _ _ (H.out.ext ((Ext.refl _).alloc _)) hl).mono ?_); rintro e w1 ⟨rfl, he1⟩; rw [HC.out])
      | (go_at_call 69; go_must (refine (onew_any 64 _ (by decide)).mono ?_); rintro e w2 ⟨g, rfl, ho2, he2⟩; have hb2 := (he1.trans he2).heap (heap_alloc_new w _); have q0 := cell_of_heap hb2 0; have q1 := cell_of_heap hb2 1; have q2 := cell_of_heap hb2 2; simp only [List.getElem?_toArray, List.getElem?_cons_zero, List.getElem?_cons_succ] at q0 q1 q2; replace hb2 := Lib.hid hb2; replace ho2 := Lib.hid ho2))
    refine (oPut_any w1.heap.size _ 64 [] 0 m 1 _ ho2.out (by decide) (by decide) m0 (p256_1 (by omega)) (by decide) (by decide)).mono ?_
    rintro e w3 ⟨rfl, ho3, hk3⟩
    rw [putO_ok (by simp [beB_len])] at ho3
    have hx0 : Ext w w1 := ((Ext.refl _).alloc _).trans he1
    have hx3 : Ext w w3 := Kept.ext (hx0.trans he2) hk3 hx0.size
    have hb3 := hk3.oth _ _ _ _ hb2.out (by decide) (by decide)
    have r0 := cell_of_heap hb3 0; have r1 := cell_of_heap hb3 1; have r2 := cell_of_heap hb3 2; simp only [List.getElem?_toArray, List.getElem?_cons_zero, List.getElem?_cons_succ] at r0 r1 r2
    replace hb3 := Lib.hid hb3
    replace ho3 := Lib.hid ho3
    replace hx3 := Lib.hid hx3
    have HX0 := Lib.hid hx0.size
    clear hk3 he2 hx0
    go_wp2_with fail
    refine (oPut_any w1.heap.size _ 64 _ 0 n 1 _ ho3.out (by simp [beB_len]) (by decide) (by omega) (p256_1 (by omega)) (by decide) (by decide)).mono ?_
    rintro e w4 ⟨rfl, ho4, hk4⟩
    rw [putO_ok (by simp [beB_len])] at ho4
    have hx4 : Ext w w4 := Kept.ext hx3.out hk4 HX0.out
    have hb4 := hk4.oth _ _ _ _ hb3.out (by decide) (by decide)
    have t0 := cell_of_heap hb4 0; have t1 := cell_of_heap hb4 1; have t2 := cell_of_heap hb4 2; simp only [List.getElem?_toArray, List.getElem?_cons_zero, List.getElem?_cons_succ] at t0 t1 t2
    replace hb4 := Lib.hid hb4
    replace ho4 := Lib.hid ho4
    replace hx4 := Lib.hid hx4
    clear hk4
    go_wp2_with fail
    refine (oPut_any w1.heap.size _ 64 _ 0 s 4 _ ho4.out (by simp [beB_len]) (by decide) s0 (p256_4 (by omega)) (by decide) (by decide)).mono ?_
    rintro e w5 ⟨rfl, ho5, hk5⟩
    rw [putO_ok (by simp [beB_len])] at ho5
    have hx5 : Ext w w5 := Kept.ext hx4.out hk5 HX0.out
    have hb5 := hk5.oth _ _ _ _ hb4.out (by decide) (by decide)
    have u0 := cell_of_heap hb5 0; have u1 := cell_of_heap hb5 1; have u2 := cell_of_heap hb5 2; simp only [List.getElem?_toArray, List.getElem?_cons_zero, List.getElem?_cons_succ] at u0 u1 u2
    have hst : OutAt w1.heap.size w5 g 64 (putISt m s xs 0) 0 := by
      have h1 := ho5
      rw [List.nil_append] at h1
      rw [← putISt_zero, ← HL.out]
      exact h1
    replace hst := Lib.hid hst
    replace hx5 := Lib.hid hx5
    clear hk5 ho5 hb5
    go_wp2
    go_loopw [33] (fun i wr => ∃ k : Nat, k ≤ n ∧ i = .int .i64 k ∧ OutAt w1.heap.size wr g 64 (putISt m s xs k) 0 ∧ Ext w wr) (fun i _ => n - (intOf i).toNat)
    case atStart => exact ⟨0, Nat.zero_le _, rfl, hst.out, hx5.out⟩
    case round =>
      obtain ⟨k, hk, rfl, ho, hx⟩ := hrel
      have HT := Lib.hid ho
      have HX := Lib.hid hx
      clear ho hx
      have hlen := putISt_len m s xs k
      have hk8 : (xs.take k).length ≤ 8 := by rw [List.length_take]; have := X8.out; omega
      by_cases hlt : k < n
      · obtain ⟨b1, o1, s1, l1, rfl, hp, _, hbl, hc0, hc1⟩ := H.out.ex k hlt
        have hc0 := HX.out.at hc0
        have hc1 := HX.out.at hc1
        have hbd := okE_bd (HF.out _ (List.mem_of_getElem? hp))
        simp only at hbd
        obtain ⟨h1, h2, h3, h4, h5⟩ := hbd
        have HP := Lib.hid hp
        have k0 : (0 : Int) ≤ (k : Int) := by omega
        have k9 : (k : Int) < (n : Int) := by omega
        have HLN := Lib.hid hlen
        have hk7 : (xs.take k).length ≤ 7 := by rw [List.length_take]; omega
        clear hp hlen
        go_wp2_with fail
        refine (oPut_any w1.heap.size _ 64 _ 0 s1 2 _ (HT.out.ext ((Ext.refl _).alloc _)) (by rw [HLN.out]; omega) (by decide) h3 (p256_2 (by omega)) (by decide) (by decide)).mono ?_
        rintro e w6 ⟨rfl, ho6, hk6⟩
        rw [putO_ok (by rw [HLN.out, beB_len]; omega)] at ho6
        have hx6 : Ext w w6 := Kept.ext (HX.out.alloc _) hk6 HX0.out
        have hb6 := hk6.oth _ _ _ _ (heap_alloc_new wr _) (by decide) (by decide)
        have v0 := cell_of_heap hb6 0; have v1 := cell_of_heap hb6 1; simp only [List.getElem?_toArray, List.getElem?_cons_zero, List.getElem?_cons_succ] at v0 v1
        replace ho6 := Lib.hid ho6
        replace hx6 := Lib.hid hx6
        clear hk6 hb6
        go_wp2_with fail
        refine (oPut_any w1.heap.size _ 64 _ 0 l1 2 _ ho6.out (by rw [List.length_append, HLN.out, beB_len]; omega) (by decide) (by omega) (p256_2 (by omega)) (by decide) (by decide)).mono ?_
        rintro e w7 ⟨rfl, ho7, hk7⟩
        rw [putO_ok (by rw [List.length_append, HLN.out, beB_len, beB_len]; omega)] at ho7
        have hx7 : Ext w w7 := Kept.ext hx6.out hk7 HX0.out
        have hfin : OutAt w1.heap.size w7 g 64 (putISt m s xs (k + 1)) 0 := by rw [← putISt_next HP.out]; exact ho7
        replace hfin := Lib.hid hfin
        replace hx7 := Lib.hid hx7
        clear ho7 hk7
        go_wp2
        exact ⟨⟨k + 1, by omega, by go_num, hfin.out, hx7.out⟩, by simp [intOf]; omega⟩
      · obtain rfl : k = n := by omega
        go_wp2_with (go_at_call 72; refine (oDone_any _ _ _ _ _ _ HT.out (by omega)).mono ?_; rintro e w7 ⟨A7, n7, cap7, rfl, hs7, he7⟩)
        go_ret2
        exact ⟨A7, n7, cap7, rfl, hs7.mono fun j hj => Nat.le_trans HX.out.size hj, HX.out.trans he7⟩
  · rw [show putI (m, s, xs) = [] by unfold putI; rw [if_neg hc]]
    have e0 : (checkI (m, s, xs) != 0) = true := by simp [hc]
    clear hc
    go_enter Try.func50, Try.ntmps50
    go_wp2_with (go_at_call 53; refine (check_ino _ _ _ _ _ _ _ _ (H.out.ext ((Ext.refl _).alloc _)) hl).mono ?_; rintro e w1 ⟨rfl, he1⟩)
    go_ret2
    exact ⟨none, 0, 0, rfl, Sl.nil _ _ none 0 (Nat.zero_le _), ((Ext.refl _).alloc _).trans he1⟩

open Go.Proofs.Ytdocdppimpapiaa.PInodeChecks in
theorem big2 (n : Int) (h0 : 0 ≤ n) (hn : n < 256 ^ 2) (k : Nat) (hk : 20 < k) : catenaryref01_Big.f k n 2 = some (beB n 2) := big_f n 2 (by decide) (by decide) h0 hn k hk
open Go.Proofs.Ytdocdppimpapiaa.PInodeChecks in
theorem big4 (n : Int) (h0 : 0 ≤ n) (hn : n < 256 ^ 4) (k : Nat) (hk : 20 < k) : catenaryref01_Big.f k n 4 = some (beB n 4) := big_f n 4 (by decide) (by decide) h0 hn k hk
open Go.Proofs.Ytdocdppimpapiaa.PInodeChecks in
theorem bytes_l0 (m s : Int) (xs : List Ex) (hx : ∀ e ∈ xs, okE e = true) (hl : xs.length ≤ 8) : ∀ (d k i : Nat), i + d = xs.length → d + 30 < k → catenaryref28_Bytes.l0 k (putISt m s xs i) (i : Int) m s (xs.map toR) = some (putISt m s xs xs.length) := by
  intro d
  induction d with
  | zero =>
    intro k i hi hk
    obtain ⟨k, rfl⟩ : ∃ q, k = q + 1 := ⟨k - 1, by omega⟩
    simp only [catenaryref28_Bytes.l0]
    rw [if_neg (by rw [List.length_map]; omega), show i = xs.length by omega]
  | succ d ih =>
    intro k i hi hk
    obtain ⟨k, rfl⟩ : ∃ q, k = q + 1 := ⟨k - 1, by omega⟩
    have hxi : xs[i]? = some xs[i] := List.getElem?_eq_getElem (by omega)
    have hbd := okE_bd (hx xs[i] (List.getElem_mem _))
    have hlen := putISt_len m s xs i
    have h8 : (xs.take i).length ≤ 8 := by rw [List.length_take]; omega
    simp only [catenaryref28_Bytes.l0]
    rw [if_pos (by rw [List.length_map]; omega), if_pos (by omega)]
    unfold rd_T85
    rw [rd_at toR _ xs i _ hxi]
    simp only [toR]
    rw [wrap_u64 (by omega) (by omega), big2 xs[i].1 (by omega) (p256_2 (by omega)) k (by omega)]
    simp only [Option.bind_some]
    rw [if_pos (by rw [hlen, beB_len]; omega), wrap_u64 (by omega) (by omega), big2 xs[i].2 (by omega) (p256_2 (by omega)) k (by omega)]
    simp only [Option.bind_some]
    rw [if_pos (by rw [List.length_append, hlen, beB_len, beB_len]; omega), putISt_next hxi, wrap_succ (by omega)]
    exact ih k (i + 1) (by omega) (by omega)
open Go.Proofs.Ytdocdppimpapiaa.PInodeChecks in
theorem bytes_f (m s : Int) (xs : List Ex) (hc : checkI (m, s, xs) = 0) (k : Nat) (hk : 50 < k) : catenaryref28_Bytes.f k m s (xs.map toR) = some (encI (m, s, xs)) := by
  obtain ⟨⟨m0, m2⟩, ⟨s0, s5⟩, x8, hf, _, _⟩ := checkI_ok hc
  unfold catenaryref28_Bytes.f
  simp only [Option.bind_some]
  rw [wrap_u64 (by omega) (by omega), big4 s (by omega) (p256_4 (by omega)) k (by omega)]
  simp only [Option.bind_some]
  rw [if_pos (by rw [beB_len]; simp)]
  have e0 : [m % 256, ((List.map toR xs).length : Int) % 256] ++ beB s 4 = putISt m s xs 0 := by
    rw [← putISt_zero, List.length_map]
    rfl
  rw [e0]
  exact bytes_l0 m s xs (fineB_mem hf) x8 xs.length k 0 (by omega) (by omega)
theorem rbytes_any (m s : Int) (A : Option Addr) (n c : Nat) (xs : List Ex) (Q : Nat → Prop) (w : World) (h : Sl eX 2 Q w A n c xs) (hc : checkI (m, s, xs) = 0) :
    Calls Try.prog 58 #[.agg #[.int .i64 m, .int .i64 s, .slice A n c]] w fun e w' => ∃ A' n' c', e = .returned (.slice A' n' c') ∧ Sl (eI .u8) 1 (fun _ => True) w' A' n' c' (encI (m, s, xs)) ∧ Ext w w' := by
  have h1 := PInodeChecks.catenaryref28_Bytes.calls 100 m s A c (xs.map toR) _ w (slR h) (by rw [List.length_map, ← h.len]; exact h.le) (bytes_f m s xs hc 100 (by omega))
  rw [List.length_map, ← h.len] at h1
  refine h1.mono fun e w' ⟨v, he, hR, hb⟩ => ?_
  obtain ⟨A', n', c', rfl, hS⟩ := sl_of_R (enc := eI .u8) (sz := 1) _ (fun x : Int => x) rfl (eI_len _) (by decide) (fun w x cs hc => hc) (by rw [List.map_id']; exact hR)
  exact ⟨A', n', c', he, hS, ⟨hb⟩⟩
end Go.Proofs.Ytdocdppimpapiaa

namespace Go.Proofs.Ytdocdppimpapiaa
open Go.RowKit

theorem awk1 : ofI 1 100 [7, 8] = ((1, 100, [(7, 2)]), 0) := of_decide_eq_true (by kernel_rfl)
theorem awk2 : putI (1, 100, [(7, 2)]) = [1, 1, 0, 0, 0, 100, 0, 7, 0, 2] := of_decide_eq_true (by kernel_rfl)
theorem awk3 : checkI (1, 100, [(7, 2)]) = 0 := of_decide_eq_true (by kernel_rfl)

set_option maxRecDepth 100000 in
set_option maxHeartbeats 1600000 in
theorem awake28_any (w : World) : Calls Try.prog 34 #[] w fun e w' => e = .returned (.bool true) ∧ Ext w w' := by
  go_enter Try.func34, Try.ntmps34
  go_wp2_with (first
    | (go_at_call 35; go_must (refine (iof_any 1 100 _ _ _ [7, 8] _ _ (Sl.laid (eI_len _) w [7, 8] _ _ 2 rfl rfl (by decide)) (by decide)).mono ?_); rintro e w1 ⟨A1, n1, c1, rfl, hs1, he1⟩; rw [awk1] at hs1 ⊢; replace hs1 := Lib.hid hs1; have hx1 := ((Ext.refl w).alloc _).trans he1; replace hx1 := Lib.hid hx1))
  refine (iput_any 1 100 _ _ _ [(7, 2)] _ _ (hs1.out.ext ((Ext.refl _).alloc _)) (by decide)).mono ?_
  rintro e w2 ⟨A2, n2, c2, rfl, hs2, he2⟩
  rw [awk2] at hs2
  rw [awk3]
  obtain ⟨b2, o2, x2, rfl, _⟩ := hs2.num 0 (by rw [hs2.len]; decide)
  have hln := hs2.len
  have HK := run_convert_bytes_arg (P := Try.prog) (w := w2) 35 5 Try.underlying35 Try.underlying5 b2 o2 n2 c2 [1, 1, 0, 0, 0, 100, 0, 7, 0, 2] hln.symm (fun i hi => by
    obtain ⟨b3, o3, x3, hA, hx, _, _, hc⟩ := hs2.num i hi
    simp only [Option.some.injEq, Addr.mk.injEq, and_true] at hA
    obtain ⟨rfl, rfl⟩ := hA
    rw [hc, List.getD_eq_getElem?_getD, hx]
    rfl) 9 Try.underlying9
  have es : strOfNums [1, 1, 0, 0, 0, 100, 0, 7, 0, 2] = ⟨#[1, 1, 0, 0, 0, 100, 0, 7, 0, 2]⟩ := by rfl
  rw [es] at HK
  have hxx : Ext w w2 := (hx1.out.alloc _).trans he2
  clear hs2 hln
  go_wp2
  go_ret
  exact ⟨rfl, hxx⟩
end Go.Proofs.Ytdocdppimpapiaa
