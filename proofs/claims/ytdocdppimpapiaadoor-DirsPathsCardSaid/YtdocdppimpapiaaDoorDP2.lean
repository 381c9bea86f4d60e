/-
  A path's pieces, plain. No program in it. A bridge: what the printed contracts ask and give ('Kd.C', 'Kd.R'), in this seat's words ('Sl'). No function of the program. The printed contracts of the reference's Split, Join, Above, Under, SameTexts, in this seat's words. The reference's functions at paths: contracts in this seat's words. DirsPaths, the walk. What a row with listed variables hands over: texts; the cell of a variable of the library's. No function of the program.
-/
import Derived.Lib.SplitLaws
import Derived.Test.YtdocdppimpapiaaDoorWWords
import Derived.Test.YtdocdppimpapiaaDoorWLast
import Derived.Test.YtdocdppimpapiaaDoorPDirsPathsx3
import Derived.ProofKit
import Derived.Carry
import Derived.Lib.SmallJoins
import Derived.Deep.Slices
import Derived.HandedShaped
import Derived.Lay
import Derived.Shelf.Vars
import Derived.SliceStrings
import Derived.Test.YtdocdppimpapiaaDoorDP1
set_option linter.unusedSimpArgs false
set_option linter.unusedVariables false
namespace Go.Proofs.YtdocdppimpapiaaDoor
open Go.RowKit

def pcs : List UInt8 → List (List UInt8)
  | [] => [[]]
  | c :: r => if c = 47 then [] :: pcs r else match pcs r with
    | [] => [[c]]
    | p :: ps => (c :: p) :: ps
theorem pcs_ne (l : List UInt8) : pcs l ≠ [] := by
  cases l with
  | nil => simp [pcs]
  | cons c r =>
    unfold pcs
    split
    · simp
    · split <;> simp
theorem index_cons_ne (c : UInt8) (r : List UInt8) (h : c ≠ 47) : Lib.index (c :: r) [47] = if Lib.index r [47] == -1 then -1 else Lib.index r [47] + 1 := by
  have hp : ([47] : List UInt8).isPrefixOf (c :: r) = false := by simp [List.isPrefixOf, Ne.symm h]
  rw [Lib.index, hp]; simp
theorem splitK_cons_ne (c : UInt8) (r : List UInt8) (h : c ≠ 47) (k : Nat) : ∃ p ps, Lib.splitK [47] 0 k r = p :: ps ∧ Lib.splitK [47] 0 k (c :: r) = (c :: p) :: ps := by
  cases k with
  | zero => exact ⟨r, [], rfl, rfl⟩
  | succ k =>
    unfold Lib.splitK
    rw [index_cons_ne c r h]
    by_cases hm : Lib.index r [47] = -1
    · rw [hm]; exact ⟨r, [], rfl, rfl⟩
    · have hge := Lib.index_ge r [47]
      obtain ⟨j, hj⟩ : ∃ j : Nat, Lib.index r [47] = j := ⟨(Lib.index r [47]).toNat, by omega⟩
      rw [hj, if_neg (show ¬ ((j : Int) == -1) = true by simp), if_neg (show ¬ ((j : Int) == -1) = true by simp), if_neg (show ¬ ((j : Int) + 1 == -1) = true by simp; omega)]
      refine ⟨_, _, rfl, ?_⟩
      rw [show ((j : Int) + 1).toNat = j + 1 by omega, Int.toNat_natCast]
      simp only [Nat.add_zero, List.take_succ_cons, List.length_singleton, List.drop_succ_cons]
theorem split_pcs : ∀ s : List UInt8, Lib.splitK [47] 0 (Lib.count s [47]) s = pcs s
  | [] => by rw [Lib.count_one]; rfl
  | c :: r => by
    have ih := split_pcs r
    by_cases h : c = 47
    · subst h
      have hix : Lib.index (47 :: r) [47] = ((0 : Nat) : Int) := by rw [Lib.index]; simp [List.isPrefixOf]
      rw [Lib.count_cons_eq, Nat.add_comm]
      unfold Lib.splitK pcs
      rw [hix, if_neg (by decide), if_pos rfl, ← ih]
      rfl
    · rw [Lib.count_cons_ne c 47 r h]
      obtain ⟨p, ps, h1, h2⟩ := splitK_cons_ne c r h (Lib.count r [47])
      rw [h2]
      unfold pcs
      rw [if_neg h, ← ih, h1]
/-- Letters as a text. -/
def bOf (l : List UInt8) : ByteArray := ⟨l.toArray⟩
theorem bOf_data (s : ByteArray) : bOf s.data.toList = s := by cases s; rfl
theorem bOf_list (l : List UInt8) : (bOf l).data.toList = l := rfl
theorem bOf_size (l : List UInt8) : (bOf l).size = l.length := by show l.toArray.size = l.length; simp
theorem pcsB_is (s : ByteArray) : pcsB s = (pcs s.data.toList).map bOf := by
  have h := Lib.splitB_data ⟨#[47]⟩ 0 (Lib.countB s ⟨#[47]⟩) s
  have h2 : (pcsB s).map (·.data.toList) = pcs s.data.toList := h.trans (split_pcs _)
  rw [← h2, List.map_map]
  conv => lhs; rw [← List.map_id (pcsB s)]
  exact List.map_congr_left fun x _ => (bOf_data x).symm
/-- The pieces, the first of them begun. -/
def pcsC (cur : List UInt8) (r : List UInt8) : List (List UInt8) := match pcs r with
  | [] => [cur]
  | p :: ps => (cur ++ p) :: ps
theorem pcsC_end (cur : List UInt8) : pcsC cur [] = [cur] := by simp [pcsC, pcs]
theorem pcsC_slash (cur r : List UInt8) : pcsC cur (47 :: r) = cur :: pcsC [] r := by
  have := pcs_ne r
  unfold pcsC
  rw [pcs, if_pos rfl]
  cases hp : pcs r with
  | nil => exact absurd hp this
  | cons p ps => simp
theorem pcsC_more (cur : List UInt8) (c : UInt8) (r : List UInt8) (h : c ≠ 47) : pcsC cur (c :: r) = pcsC (cur ++ [c]) r := by
  have := pcs_ne r
  unfold pcsC
  rw [pcs, if_neg h]
  cases hp : pcs r with
  | nil => exact absurd hp this
  | cons p ps => simp
theorem pcsC_nil (r : List UInt8) : pcsC [] r = pcs r := by
  have := pcs_ne r
  unfold pcsC
  cases hp : pcs r with
  | nil => exact absurd hp this
  | cons p ps => simp
/-- What pieces make. -/
def finS (out : List ByteArray) (ls : List (List UInt8)) : List ByteArray × Int :=
  if namesB (ls.map bOf) = true ∧ (out ++ ls.map bOf).length ≤ 8 then (out ++ ls.map bOf, 0) else ([], 18)
/-- A path's names, over its letters. -/
def splitL (l : List UInt8) : List ByteArray × Int := match l with
  | [] => ([], 18)
  | c :: r => if c = 47 then (if r = [] then ([], 0) else finS [] (pcs r)) else ([], 18)
theorem splitP_is (p : ByteArray) : splitP p = splitL p.data.toList := by
  unfold splitP splitL
  cases hl : p.data.toList with
  | nil => rfl
  | cons c r =>
    by_cases h : c = 47
    · subst h
      have h1 : Lib.hasPrefix (47 :: r) [47] = true := by simp [Lib.hasPrefix]
      have h2 : restB p = bOf r := by unfold restB; rw [hl]; unfold Lib.trimPrefix; rw [if_pos (by simp [Lib.hasPrefix])]; rfl
      rw [if_pos h1, h2]
      show _ = if (47 : UInt8) = 47 then (if r = [] then ([], 0) else finS [] (pcs r)) else ([], 18)
      rw [if_pos rfl]
      by_cases hr : r = []
      · subst hr; rw [if_pos (show ((bOf []).toList == []) = true by rw [Lib.toList_data, bOf_list]; rfl), if_pos rfl]
      · have h3 : ¬ ((bOf r).toList == []) = true := by
          rw [Lib.toList_data, bOf_list]; simpa using hr
        rw [if_neg h3, if_neg hr, pcsB_is, bOf_list]
        unfold finS
        simp only [List.nil_append]
        by_cases hc : ((pcs r).map bOf).length ≤ 8 ∧ namesB ((pcs r).map bOf) = true
        · rw [if_pos hc, if_pos ⟨hc.2, hc.1⟩]
        · rw [if_neg hc, if_neg fun x => hc ⟨x.2, x.1⟩]
    · have h1 : ¬ Lib.hasPrefix (c :: r) [47] = true := by simp [Lib.hasPrefix, List.isPrefixOf, Ne.symm h]
      rw [if_neg h1]
      show _ = if c = 47 then (if r = [] then ([], 0) else finS [] (pcs r)) else ([], 18)
      rw [if_neg h]

/-- What is split is joined. -/
theorem join_pcs (r : List UInt8) : (pcs r).flatMap (fun p => 47 :: p) = 47 :: r := by
  induction r with
  | nil => rfl
  | cons c r ih =>
    unfold pcs
    by_cases h : c = 47
    · subst h
      rw [if_pos rfl, List.flatMap_cons, ih]; rfl
    · rw [if_neg h]
      have := pcs_ne r
      cases hp : pcs r with
      | nil => exact absurd hp this
      | cons p ps =>
        rw [hp, List.flatMap_cons] at ih
        simp only [List.flatMap_cons, List.cons_append] at ih ⊢
        injection ih with _ ih
        rw [ih]
theorem join_split {p : ByteArray} (h : (splitP p).2 = 0) : joinP (splitP p).1 = p := by
  rw [splitP_is] at h ⊢
  unfold splitL at h ⊢
  cases hl : p.data.toList with
  | nil => rw [hl] at h; cases h
  | cons c r =>
    rw [hl] at h
    simp only at h ⊢
    by_cases hc : c = 47
    · subst hc
      rw [if_pos rfl] at h ⊢
      by_cases hr : r = []
      · subst hr
        rw [if_pos rfl, ← bOf_data p, hl]; rfl
      · rw [if_neg hr] at h ⊢
        unfold finS at h ⊢
        split
        · rename_i hf
          simp only [List.nil_append]
          have hne : (pcs r).map bOf ≠ [] := by simpa using pcs_ne r
          unfold joinP
          rw [if_neg hne]
          have : joinU ((pcs r).map bOf) = 47 :: r := by
            unfold joinU
            rw [List.flatMap_map]
            exact join_pcs r
          rw [this, ← bOf_data p, hl]; rfl
        · rename_i hf; rw [if_neg hf] at h; cases h
    · rw [if_neg hc] at h; cases h
theorem split_slash : splitP ⟨#[47]⟩ = ([], 0) := by rw [splitP_is]; rfl
theorem under_root {p : ByteArray} (h : (splitP p).2 = 0) : underP p ⟨#[47]⟩ = true := by
  unfold underP
  rw [split_slash, h]
  simp
theorem under_self {p : ByteArray} (h : (splitP p).2 = 0) : underP p p = true := by
  unfold underP
  rw [h]
  simp
end Go.Proofs.YtdocdppimpapiaaDoor

namespace Go.Proofs.YtdocdppimpapiaaDoor
open Go.RowKit Go.Proofs.YtdocdppimpapiaaDoorW.PrintWords

theorem C_of_sl {α β : Type} {enc : α → List Value} {sz : Nat} {Q : Nat → Prop} {w : World} {A : Option Addr} {n cap : Nat} {l : List α} (d : Kd β) (f : α → β) (hsz : d.sz = sz) (hlen : ∀ x, (enc x).length = sz) (hK : ∀ w x, d.K w (f x) (enc x))
    (h : Sl enc sz Q w A n cap l) : d.C w A (l.map f).length (l.map f) := by
  refine ⟨rfl, by rw [List.length_map, ← h.len]; exact Nat.le_trans h.le h.mx, fun hn => ?_⟩
  rw [List.length_map] at hn
  obtain ⟨b, off, hA, hq, _⟩ := h.at_ 0 l[0] (List.getElem?_eq_getElem hn)
  refine ⟨⟨b, off, none⟩, hA, fun j p hp => ?_⟩
  rw [List.getElem?_map] at hp
  cases hx : l[j]? with
  | none => rw [hx] at hp; cases hp
  | some x =>
    rw [hx] at hp
    simp only [Option.map_some, Option.some.injEq] at hp
    subst hp
    obtain ⟨b', off', hA', _, hc⟩ := h.at_ j x hx
    rw [hA] at hA'
    simp only [Option.some.injEq, Addr.mk.injEq, and_true] at hA'
    obtain ⟨rfl, rfl⟩ := hA'
    refine ⟨enc x, (hlen x).trans hsz.symm, hK w x, fun i u hu => ?_⟩
    have := hc i u hu
    rw [hsz, Addr.add_lit, ← Nat.add_assoc]
    exact this
theorem sl_of_C {α β : Type} {enc : α → List Value} {sz : Nat} {w : World} {A : Option Addr} {n cap : Nat} {l : List α} (d : Kd β) (f : α → β) (hsz : d.sz = sz) (hlen : ∀ x, (enc x).length = sz) (hpos : 0 < sz) (hK : ∀ w x cs, d.K w (f x) cs → cs = enc x)
    (h : d.C w A n (l.map f)) (hc : n ≤ cap) (hm : cap ≤ 9223372036854775807) : Sl enc sz (fun _ => True) w A n cap l := by
  obtain ⟨h1, h2, h3⟩ := h
  rw [List.length_map] at h1
  refine ⟨h1.symm, hc, hm, fun i x hx => ?_⟩
  have hi : i < l.length := by
    rcases Nat.lt_or_ge i l.length with h4 | h4
    · exact h4
    · rw [List.getElem?_eq_none h4] at hx; cases hx
  obtain ⟨ad, hA, hcell⟩ := h3 (by omega)
  obtain ⟨c, hs, hr, hcc⟩ := hcell i (f x) (by rw [List.getElem?_map, hx]; rfl)
  obtain rfl := hK _ _ _ hr
  obtain ⟨b, off, spot⟩ := ad
  have hsp : spot = none := by
    have hi0 : 0 < l.length := by omega
    obtain ⟨c0, hs0, hr0, hc0⟩ := hcell 0 (f l[0]) (by rw [List.getElem?_map, List.getElem?_eq_getElem hi0]; rfl)
    have hp0 : 0 < c0.length := by rw [hs0, hsz]; exact hpos
    have := World.cell?_spot (hc0 0 _ (List.getElem?_eq_getElem hp0))
    simpa [Addr.add] using this
  subst hsp
  refine ⟨b, off, hA, trivial, fun j u hu => ?_⟩
  have := hcc j u hu
  rw [hsz, Addr.add_lit, ← Nat.add_assoc] at this
  exact this
/-- A row of the call's own that a printed contract gives, read. -/
theorem sl_of_R {α β : Type} {enc : α → List Value} {sz e base : Nat} {ok : Nat → Prop} {w : World} {v : Value} {l : List α} (d : Kd β) (f : α → β) (hsz : d.sz = sz) (hlen : ∀ x, (enc x).length = sz) (hpos : 0 < sz) (hK : ∀ w x cs, d.K w (f x) cs → cs = enc x)
    (h : d.R e w base ok v (l.map f)) : ∃ A n c, v = .slice A n c ∧ Sl enc sz (fun _ => True) w A n c l := by
  obtain ⟨A, c, hv, hc, hC⟩ := Kd.R_reads h
  obtain ⟨inner, ho⟩ := Kd.R_own h
  refine ⟨A, _, c, hv, sl_of_C d f hsz hlen hpos hK hC hc ?_⟩
  rcases ho.2 with ⟨hn, _⟩ | ⟨g, cap, cur, hn, _, _, _, hm, _⟩
  · rw [hv] at hn; injection hn with _ _ hn; omega
  · rw [hv] at hn; injection hn with _ _ hn; unfold maxLen at hm; omega

theorem rd_at {α β : Type} (f : α → β) (z : β) (l : List α) (i : Nat) (x : α) (h : l[i]? = some x) : (l.map f).getD ((i : Int)).toNat z = f x := by
  rw [Int.toNat_natCast, List.getD_eq_getElem?_getD, List.getElem?_map, h]; rfl
theorem wrap_succ {i : Nat} (h : i ≤ 1000000) : wrap64 ((i : Int) + 1) = ((i + 1 : Nat) : Int) := by unfold wrap64; omega

end Go.Proofs.YtdocdppimpapiaaDoor

namespace Go.Proofs.YtdocdppimpapiaaDoor
open Go.RowKit Go.Proofs.YtdocdppimpapiaaDoorW.PrintWords

theorem Drawn0.drawn {w w' : World} (h : Drawn0 w w') : Drawn w w' := by
  obtain ⟨n, rfl⟩ := h
  exact (Drawn.refl _).drewN _
theorem bt_at' (s : ByteArray) (i : Nat) (h : i < s.size) : bt s (i : Int) = (s[i].toNat : Int) := by
  unfold bt; rw [dif_pos (by simpa using h)]; rfl
open PDirsPaths in
theorem name_step (k : Nat) (s : ByteArray) (i : Nat) (hs : s.size ≤ 1000) (h : i < s.size) : catenaryref29_Name.l0 (k + 1) s (i : Int) = if plainU s[i] = true then catenaryref29_Name.l0 k s ((i + 1 : Nat) : Int) else some false := by
  simp only [catenaryref29_Name.l0]
  rw [if_pos (by omega), if_pos (by omega), wrap_succ (by omega), bt_at' s i h]
  unfold plainU
  obtain ⟨c, hc⟩ : ∃ c : Int, (s[i].toNat : Int) = c := ⟨_, rfl⟩
  rw [hc]
  have hp : plainI c = true ↔ ((97 ≤ c ∧ c ≤ 122) ∨ (48 ≤ c ∧ c ≤ 57) ∨ c = 46 ∨ c = 95 ∨ c = 45) := by unfold plainI; simp
  by_cases hP : plainI c = true
  · rw [if_pos hP]
    have := hp.1 hP
    (repeat' split) <;> first | rfl | omega
  · rw [if_neg hP]
    have : ¬ ((97 ≤ c ∧ c ≤ 122) ∨ (48 ≤ c ∧ c ≤ 57) ∨ c = 46 ∨ c = 95 ∨ c = 45) := fun h => hP (hp.2 h)
    (repeat' split) <;> first | rfl | omega
open PDirsPaths in
theorem name_l0 (s : ByteArray) (hs : s.size ≤ 1000) : ∀ (d k i : Nat), i + d = s.size → d < k → (∀ (j : Nat) (hj : j < s.size), j < i → plainU s[j] = true) → catenaryref29_Name.l0 k s (i : Int) = some (s.data.toList.all plainU) := by
  intro d
  induction d with
  | zero =>
    intro k i hi hk hp
    obtain ⟨k, rfl⟩ : ∃ q, k = q + 1 := ⟨k - 1, by omega⟩
    simp only [catenaryref29_Name.l0]
    rw [if_neg (by omega), all_upto fun j hj => hp j hj (by omega)]
  | succ d ih =>
    intro k i hi hk hp
    obtain ⟨k, rfl⟩ : ∃ q, k = q + 1 := ⟨k - 1, by omega⟩
    have hlt : i < s.size := by omega
    rw [name_step k s i hs hlt]
    by_cases hq : plainU s[i] = true
    · rw [if_pos hq]
      exact ih k (i + 1) (by omega) (by omega) fun j hj h => by
        by_cases e : j = i
        · subst e; exact hq
        · exact hp j hj (by omega)
    · rw [if_neg hq, all_not hlt (by simpa using hq)]
open PDirsPaths in
theorem name_f (s : ByteArray) (k : Nat) (hk : 20 < k) : catenaryref29_Name.f k s = some (nameB s) := by
  obtain ⟨k, rfl⟩ : ∃ q, k = q + 1 := ⟨k - 1, by omega⟩
  unfold catenaryref29_Name.f nameB
  simp only [catenaryref29_Name.j0]
  by_cases h0 : s.size = 0
  · rw [if_pos (by omega), if_pos trivial, decide_eq_false (by omega)]; rfl
  · rw [if_neg (by omega), decide_eq_true (show 1 ≤ s.size by omega)]
    by_cases h1 : s.size ≤ 11
    · rw [if_neg (by omega), decide_eq_true h1]
      by_cases h2 : s.toList = [46]
      · rw [if_pos h2, if_pos trivial, h2]; rfl
      · rw [if_neg h2, beq_eq_false_iff_ne.2 h2]
        by_cases h3 : s.toList = [46, 46]
        · rw [h3]; rfl
        · rw [beq_eq_false_iff_ne.2 h3, if_neg (by decide), show (0 : Int) = ((0 : Nat) : Int) from rfl, name_l0 s (by omega) s.size k 0 (by omega) (by omega) (fun j hj h => by omega)]
          rfl
    · rw [if_pos (by omega), if_pos trivial, decide_eq_false h1]; rfl
theorem toList_eq' {a b : ByteArray} (h : a.toList = b.toList) : a = b := by
  rw [Lib.toList_data, Lib.toList_data] at h
  cases a; cases b
  simpa using h
theorem take_ne {α : Type} {a b : List α} {k : Nat} {x y : α} (hx : a[k]? = some x) (hy : b[k]? = some y) (h : x ≠ y) : a ≠ b := fun e => by
  rw [e, hy] at hx; injection hx with hx; exact h hx.symm
theorem take_step {α : Type} {a b : List α} {k : Nat} {x : α} (h : a.take k = b.take k) (hx : a[k]? = some x) (hy : b[k]? = some x) : a.take (k + 1) = b.take (k + 1) := by
  rw [List.take_add_one, List.take_add_one, h, hx, hy]
def eqT (a b : List ByteArray) : Bool := decide (a = b)
theorem eqT_self (a : List ByteArray) : eqT a a = true := decide_eq_true rfl
theorem c_str {Q : Nat → Prop} {w : World} {A : Option Addr} {n cap : Nat} {l : List ByteArray} (h : Sl eT 1 Q w A n cap l) : Kd.C Kd.string w A l.length l := by
  have := C_of_sl (Kd.string) (id : ByteArray → ByteArray) rfl eT_len (fun w x => rfl) h
  rw [List.map_id] at this
  exact this
open PDirsPaths in
theorem texts_l0 (a b : List ByteArray) (hab : a.length = b.length) (hL : a.length ≤ 1000) : ∀ (d k i : Nat), i + d = a.length → d < k → a.take i = b.take i → catenaryref29_SameTexts.l0 k a b (i : Int) = some (eqT a b) := by
  intro d
  induction d with
  | zero =>
    intro k i hi hk ht
    obtain ⟨k, rfl⟩ : ∃ q, k = q + 1 := ⟨k - 1, by omega⟩
    simp only [catenaryref29_SameTexts.l0]
    rw [List.take_of_length_le (by omega), List.take_of_length_le (by omega)] at ht
    rw [if_neg (by omega), eqT, decide_eq_true ht]
  | succ d ih =>
    intro k i hi hk ht
    obtain ⟨k, rfl⟩ : ∃ q, k = q + 1 := ⟨k - 1, by omega⟩
    have hx : a[i]? = some a[i] := List.getElem?_eq_getElem (by omega)
    have hy : b[i]? = some b[i] := List.getElem?_eq_getElem (by omega)
    have h1 : rdOf ByteArray.empty a (i : Int) = a[i] := by unfold rdOf; rw [Int.toNat_natCast, List.getD_eq_getElem?_getD, hx]; rfl
    have h2 : rdOf ByteArray.empty b (i : Int) = b[i] := by unfold rdOf; rw [Int.toNat_natCast, List.getD_eq_getElem?_getD, hy]; rfl
    simp only [catenaryref29_SameTexts.l0]
    rw [if_pos (by omega), if_pos (by omega), if_pos (by omega), h1, h2, wrap_succ (by omega)]
    by_cases hn : a[i].toList = b[i].toList
    · rw [if_pos hn]
      exact ih k (i + 1) (by omega) (by omega) (take_step ht hx (by rw [hy, toList_eq' hn]))
    · rw [if_neg hn, eqT, decide_eq_false (take_ne hx hy fun e => hn (by rw [e]))]
theorem texts29_any (A B : Option Addr) (n m c d : Nat) (a b : List ByteArray) (Q R : Nat → Prop) (w : World) (h : Sl eT 1 Q w A n c a) (h' : Sl eT 1 R w B m d b) (hL : a.length ≤ 1000) : Calls Tryd.prog 9 #[.slice A n c, .slice B m d] w fun e w' => e = .returned (.bool (eqT a b)) ∧ Drawn w w' := by
  have hf : PDirsPaths.catenaryref29_SameTexts.f 1001 a b = some (eqT a b) := by
    unfold PDirsPaths.catenaryref29_SameTexts.f
    by_cases hab : a.length = b.length
    · rw [if_pos (by omega)]
      exact texts_l0 a b hab hL a.length 1001 0 (by omega) (by omega) rfl
    · rw [if_neg (by omega), eqT, decide_eq_false fun e => hab (by rw [e])]
  have h1 := PDirsPaths.catenaryref29_SameTexts.calls 1001 A c a B d b _ w (c_str h) (by rw [← h.len]; exact h.le) (c_str h') (by rw [← h'.len]; exact h'.le) hf
  rw [← h.len, ← h'.len] at h1
  exact h1.mono fun _ _ r => ⟨r.1, Drawn0.drawn r.2⟩

theorem bOf_append (a b : List UInt8) : bOf a ++ bOf b = bOf (a ++ b) := by
  rw [← bOf_data (bOf a ++ bOf b), ByteArray.data_append, Array.toList_append]; rfl
theorem get_list (p : ByteArray) (i : Nat) (h : i < p.size) : p.data.toList[i]? = some p[i] := by
  rw [List.getElem?_eq_getElem (by simpa using h)]; rfl
theorem extract_one (p : ByteArray) (i : Nat) (h : i < p.size) : p.extract i (i + 1) = bOf [p[i]] := by
  rw [← bOf_data (p.extract i (i + 1)), ByteArray.data_extract, Array.toList_extract, List.extract_eq_take_drop, List.drop_eq_getElem_cons (by simpa using h), show i + 1 - i = 1 by omega, List.take_succ_cons, List.take_zero]
  rfl
theorem finS_cons (out : List ByteArray) (cur : List UInt8) (ls : List (List UInt8)) : finS out (cur :: ls) = if nameB (bOf cur) = true then finS (out ++ [bOf cur]) ls else ([], 18) := by
  have hn : namesB ((cur :: ls).map bOf) = (nameB (bOf cur) && namesB (ls.map bOf)) := rfl
  have ho : out ++ (cur :: ls).map bOf = out ++ [bOf cur] ++ ls.map bOf := by simp
  unfold finS
  rw [hn, ho]
  cases h : nameB (bOf cur)
  · rw [Bool.false_and, if_neg (by rintro ⟨h, _⟩; cases h), if_neg (by decide)]
  · rw [Bool.true_and, if_pos rfl]
open PDirsPaths in
theorem split_l0 (p : ByteArray) (hp : p.size ≤ 1000) : ∀ (d k i : Nat) (out : List ByteArray) (cur : List UInt8), i + d = p.size → 2 * d + 40 < k → cur.length ≤ i → out.length ≤ i → catenaryref29_Split.l0 k p out (bOf cur) (i : Int) = some (finS out (pcsC cur (p.data.toList.drop i))) := by
  intro d
  induction d with
  | zero =>
    intro k i out cur hi hk hc ho
    obtain ⟨k, rfl⟩ : ∃ q, k = q + 3 := ⟨k - 3, by omega⟩
    have hlen : p.data.toList.length = p.size := by rw [Array.length_toList]; rfl
    have hdr : p.data.toList.drop i = [] := List.drop_eq_nil_of_le (by omega)
    rw [hdr, pcsC_end, finS_cons]
    rw [show k + 3 = (k + 2) + 1 from rfl, catenaryref29_Split.l0, if_pos (by omega), if_neg (by omega), catenaryref29_Split.j2, if_neg (by decide), name_f _ _ (by omega)]
    simp only [Option.bind_some]
    by_cases hn : nameB (bOf cur) = true
    · rw [if_pos hn, if_pos hn, if_pos (by omega), wrap_succ (by omega), catenaryref29_Split.l0, if_neg (by omega)]
      unfold finS
      simp only [List.map_nil, List.append_nil]
      by_cases h8 : (out ++ [bOf cur]).length ≤ 8
      · rw [if_neg (by omega), if_pos ⟨rfl, h8⟩]
      · rw [if_pos (by omega), if_neg fun x => h8 x.2]
    · rw [if_neg hn, if_neg hn]
  | succ d ih =>
    intro k i out cur hi hk hc ho
    obtain ⟨k, rfl⟩ : ∃ q, k = q + 2 := ⟨k - 2, by omega⟩
    have hlt : i < p.size := by omega
    have hdr : p.data.toList.drop i = p[i] :: p.data.toList.drop (i + 1) := by
      rw [List.drop_eq_getElem_cons (by simpa using hlt)]; rfl
    rw [hdr, catenaryref29_Split.l0, if_pos (by omega), if_pos (by omega), if_pos (by omega), bt_at' p i hlt]
    by_cases h : p[i] = 47
    · have hb : (((p[i].toNat : Int)) != 47) = false := by rw [h]; rfl
      rw [hb, catenaryref29_Split.j2, if_neg (by decide), name_f _ _ (by omega), h, pcsC_slash, finS_cons]
      simp only [Option.bind_some]
      by_cases hn : nameB (bOf cur) = true
      · rw [if_pos hn, if_pos hn, if_pos (by omega), wrap_succ (by omega)]
        exact ih k (i + 1) (out ++ [bOf cur]) [] (by omega) (by omega) (Nat.zero_le _) (by rw [List.length_append, List.length_singleton]; omega)
      · rw [if_neg hn, if_neg hn]
    · have hb : (((p[i].toNat : Int)) != 47) = true := by
        have : p[i].toNat ≠ 47 := fun e => h (UInt8.toNat_inj.1 e)
        simp; omega
      have hw := wrap_succ (i := i) (by omega)
      rw [hb, catenaryref29_Split.j2, if_pos rfl, if_pos (by omega), hw, if_pos (by omega), if_pos (by omega)]
      rw [show ((i : Int)).toNat = i from rfl, show (((i + 1 : Nat) : Int)).toNat = i + 1 from rfl, extract_one p i hlt, bOf_append, if_pos (by rw [bOf_size, bOf_size, List.length_singleton]; omega), pcsC_more _ _ _ h]
      exact ih k (i + 1) out (cur ++ [p[i]]) (by omega) (by omega) (by rw [List.length_append, List.length_singleton]; omega) (by omega)
open PDirsPaths in
theorem rsplit_f (p : ByteArray) (hp : p.size ≤ 1000) (k : Nat) (hk : 2100 < k) : catenaryref29_Split.f k p = some (splitP p) := by
  obtain ⟨k, rfl⟩ : ∃ q, k = q + 1 := ⟨k - 1, by omega⟩
  have hl : p.data.toList.length = p.size := by rw [Array.length_toList]; rfl
  rw [splitP_is]
  unfold catenaryref29_Split.f splitL
  by_cases h0 : p.size = 0
  · rw [if_pos (by omega), catenaryref29_Split.j0, if_pos rfl]
    rw [show p.data.toList = [] from List.eq_nil_of_length_eq_zero (by omega)]
  · have hlt : 0 < p.size := by omega
    have hd : p.data.toList = p[0] :: p.data.toList.drop 1 := by
      have := List.drop_eq_getElem_cons (l := p.data.toList) (i := 0) (by omega)
      rw [List.drop_zero] at this
      exact this
    have hbt := bt_at' p 0 hlt
    rw [if_neg (by omega), if_pos (by omega), show (0 : Int) = ((0 : Nat) : Int) from rfl, hbt, catenaryref29_Split.j0]
    obtain ⟨c, hc⟩ : ∃ c, p[0] = c := ⟨_, rfl⟩
    obtain ⟨r, hr⟩ : ∃ r, p.data.toList.drop 1 = r := ⟨_, rfl⟩
    rw [hc, hr] at hd
    rw [hc, hd]
    simp only
    by_cases h : c = 47
    · subst h
      rw [if_neg (by decide), if_pos rfl]
      by_cases hrr : r = []
      · subst hrr
        rw [if_pos (by rw [Lib.toList_data, hd]), if_pos rfl]; rfl
      · rw [if_neg (by rw [Lib.toList_data, hd]; simpa using hrr), if_neg hrr]
        have := split_l0 p hp (p.size - 1) k 1 [] [] (by omega) (by omega) (Nat.zero_le _) (Nat.zero_le _)
        rw [hr, pcsC_nil] at this
        exact this
    · rw [if_neg h, if_pos (by have : c.toNat ≠ 47 := fun e => h (UInt8.toNat_inj.1 e)
                               simp; omega)]
open PDirsPaths in
theorem rjoin_l0 (L : List ByteArray) (hL : (joinU L).length ≤ 100000) : ∀ (d k i : Nat), i + d = L.length → d < k → L.length ≤ 1000 → catenaryref29_Join.l0 k L (bOf (joinU (L.take i))) (i : Int) = some (bOf (joinU L)) := by
  intro d
  induction d with
  | zero =>
    intro k i hi hk _
    obtain ⟨k, rfl⟩ : ∃ q, k = q + 1 := ⟨k - 1, by omega⟩
    simp only [catenaryref29_Join.l0]
    rw [if_neg (by omega), List.take_of_length_le (by omega)]
  | succ d ih =>
    intro k i hi hk h1000
    obtain ⟨k, rfl⟩ : ∃ q, k = q + 1 := ⟨k - 1, by omega⟩
    have hx : L[i]? = some L[i] := List.getElem?_eq_getElem (by omega)
    have h1 : rdOf ByteArray.empty L (i : Int) = L[i] := by unfold rdOf; rw [Int.toNat_natCast, List.getD_eq_getElem?_getD, hx]; rfl
    have h2 := joinU_one hx
    have h3 : (bOf (joinU (L.take i)) ++ (⟨#[47]⟩ : ByteArray)) ++ L[i] = bOf (joinU (L.take (i + 1))) := by
      rw [show (⟨#[47]⟩ : ByteArray) = bOf [47] from rfl, bOf_append, show L[i] = bOf L[i].data.toList from (bOf_data _).symm, bOf_append, List.take_add_one, hx]
      unfold joinU
      rw [List.flatMap_append]
      simp [bOf]
    simp only [catenaryref29_Join.l0]
    rw [h1, h3, if_pos (by omega), if_pos (by rw [bOf_size]; omega), if_pos (by omega), if_pos (by rw [ByteArray.size_append, bOf_size]; show (_ + 1 + _ : Nat) ≤ _; omega), wrap_succ (by omega)]
    exact ih k (i + 1) (by omega) (by omega) h1000
open PDirsPaths in
theorem rjoin_f (L : List ByteArray) (hL : (joinU L).length ≤ 100000) (h1000 : L.length ≤ 1000) (k : Nat) (hk : 1000 < k) : catenaryref29_Join.f k L = some (joinP L) := by
  unfold catenaryref29_Join.f joinP
  by_cases h : L = []
  · subst h; rfl
  · have : L.length ≠ 0 := fun e => h (List.eq_nil_of_length_eq_zero e)
    rw [if_neg (by omega), if_neg h]
    exact rjoin_l0 L hL L.length k 0 (by omega) (by omega) h1000
open PDirsPaths in
theorem rabove_f (p : ByteArray) (hp : p.size ≤ 1000) (k : Nat) (hk : 2100 < k) : catenaryref29_Above.f k p = some (aboveP p) := by
  have hok := splitP_ok (p := p)
  unfold catenaryref29_Above.f aboveP
  rw [rsplit_f p hp k hk]
  obtain ⟨⟨l, er⟩, hl⟩ : ∃ x, splitP p = x := ⟨_, rfl⟩
  rw [hl] at hok ⊢
  simp only [Option.bind_some]
  simp only at hok
  by_cases he : er = 0
  · subst he
    obtain ⟨h8, hnm⟩ := hok rfl
    rw [if_pos rfl]
    by_cases h0 : l.length = 0
    · rw [if_pos (by omega), if_pos (.inr h0)]; rfl
    · have hw : wrap64 ((l.length : Int) - 1) = ((l.length - 1 : Nat) : Int) := by unfold wrap64; omega
      rw [if_neg (by omega), hw, if_pos (by omega), if_pos (by omega), if_neg (by rintro (h | h); exact h rfl; exact h0 h), Int.toNat_natCast]
      have hj := joinU_bd (namesB_take hnm (l.length - 1))
      rw [List.length_take] at hj
      rw [rjoin_f _ (by omega) (by rw [List.length_take]; omega) k (by omega)]
      simp only [Option.bind_some]
      rw [if_pos (by omega)]
      have h1 : rdOf ByteArray.empty l ((l.length - 1 : Nat) : Int) = l.getD (l.length - 1) nilB := by unfold rdOf; rw [Int.toNat_natCast]; rfl
      rw [h1]
  · rw [if_neg he, if_pos (.inl he)]; rfl
open PDirsPaths in
theorem texts_f (a b : List ByteArray) (hL : a.length ≤ 1000) (k : Nat) (hk : 1000 < k) : catenaryref29_SameTexts.f k a b = some (eqT a b) := by
  unfold catenaryref29_SameTexts.f
  by_cases hab : a.length = b.length
  · rw [if_pos (by omega)]
    exact texts_l0 a b hab hL a.length k 0 (by omega) (by omega) rfl
  · rw [if_neg (by omega), eqT, decide_eq_false fun e => hab (by rw [e])]
open PDirsPaths in
theorem runder_f (p t : ByteArray) (hp : p.size ≤ 1000) (ht : t.size ≤ 1000) (k : Nat) (hk : 2100 < k) : catenaryref29_Under.f k p t = some (underP p t) := by
  have hok := splitP_ok (p := p)
  have hok2 := splitP_ok (p := t)
  unfold catenaryref29_Under.f underP
  rw [rsplit_f p hp k hk, rsplit_f t ht k hk]
  obtain ⟨⟨l, er⟩, hl⟩ : ∃ x, splitP p = x := ⟨_, rfl⟩
  obtain ⟨⟨l2, er2⟩, hl2⟩ : ∃ x, splitP t = x := ⟨_, rfl⟩
  rw [hl] at hok ⊢
  rw [hl2] at hok2 ⊢
  simp only [Option.bind_some]
  simp only at hok hok2
  by_cases he : er = 0
  · subst he
    rw [if_pos rfl, decide_eq_true rfl, Bool.true_and]
    by_cases he2 : er2 = 0
    · subst he2
      have h8 := (hok rfl).1
      have h82 := (hok2 rfl).1
      rw [if_pos rfl, decide_eq_true rfl, Bool.true_and]
      by_cases hle : l2.length ≤ l.length
      · rw [if_neg (by omega), if_pos (by omega), if_pos (by omega), decide_eq_true hle, Bool.true_and, Int.toNat_natCast, texts_f _ _ (by rw [List.length_take]; omega) k (by omega)]
        rfl
      · rw [if_pos (by omega), decide_eq_false hle]; rfl
    · rw [if_neg he2, decide_eq_false he2]; rfl
  · rw [if_neg he, decide_eq_false he]; rfl
end Go.Proofs.YtdocdppimpapiaaDoor

namespace Go.Proofs.YtdocdppimpapiaaDoor
open Go.RowKit Go.Proofs.YtdocdppimpapiaaDoorW.PrintWords

theorem rsplit_any (p : ByteArray) (hp : p.size ≤ 1000) (w : World) : Calls Tryd.prog 6 #[.string p] w (RetTx (splitP p) w) := by
  have hf := rsplit_f p hp 2101 (by omega)
  obtain ⟨⟨l, er⟩, hl⟩ : ∃ x, splitP p = x := ⟨_, rfl⟩
  rw [hl] at hf ⊢
  refine (PDirsPaths.catenaryref29_Split.calls 2101 p _ _ w hf).mono fun e w' ⟨v, he, hR, hb⟩ => ?_
  rw [← List.map_id l] at hR
  have hgb := Kd.R_own hR
  obtain ⟨A', n', c', rfl, hS⟩ := sl_of_R Kd.string id rfl eT_len (by decide) (fun w x cs hc => hc) hR
  refine ⟨A', n', c', he, ⟨hS.len, hS.le, hS.mx, fun i x hx => ?_⟩, ⟨hb⟩⟩
  obtain ⟨b, off, ha, _, hc⟩ := hS.at_ i x hx
  refine ⟨b, off, ha, ?_, hc⟩
  obtain ⟨inner, ho⟩ := hgb
  subst ha
  exact (ho.lt b rfl).1
theorem rjoin_any (A : Option Addr) (n c : Nat) (l : List ByteArray) (Q : Nat → Prop) (w : World) (h : Sl eT 1 Q w A n c l) (hL : (joinU l).length ≤ 100000) (h1000 : l.length ≤ 1000) : Calls Tryd.prog 13 #[.slice A n c] w fun e w' => e = .returned (.string (joinP l)) ∧ Drawn w w' := by
  have h1 := PDirsPaths.catenaryref29_Join.calls 1001 A c l _ w (c_str h) (by rw [← h.len]; exact h.le) (rjoin_f l hL h1000 1001 (by omega))
  rw [← h.len] at h1
  exact h1.mono fun _ _ r => ⟨r.1, Drawn0.drawn r.2⟩
theorem rabove_any (p : ByteArray) (hp : p.size ≤ 1000) (w : World) : Calls Tryd.prog 8 #[.string p] w fun e w' => e = .returned (.tuple #[.string (aboveP p).1, .string (aboveP p).2.1, .int .i64 (aboveP p).2.2]) ∧ Ext w w' :=
  (PDirsPaths.catenaryref29_Above.calls 2101 p _ _ _ w (rabove_f p hp 2101 (by omega))).mono fun _ _ r => ⟨r.1, ⟨r.2⟩⟩
theorem runder_any (p t : ByteArray) (hp : p.size ≤ 1000) (ht : t.size ≤ 1000) (w : World) : Calls Tryd.prog 11 #[.string p, .string t] w fun e w' => e = .returned (.bool (underP p t)) ∧ Ext w w' :=
  (PDirsPaths.catenaryref29_Under.calls 2101 p t _ w (runder_f p t hp ht 2101 (by omega))).mono fun _ _ r => ⟨r.1, ⟨r.2⟩⟩
end Go.Proofs.YtdocdppimpapiaaDoor

namespace Go.Proofs.YtdocdppimpapiaaDoor
open Go.RowKit

theorem bne_int_self (x : Int) : (x != x) = false := by simp
theorem bne_bool_self (x : Bool) : (x != x) = false := by cases x <;> rfl
theorem joinU_le30 : ∀ {l : List ByteArray}, (∀ s ∈ l, s.size ≤ 30) → (joinU l).length ≤ 31 * l.length
  | [], _ => Nat.zero_le _
  | s :: l, h => by
    have ih := joinU_le30 (l := l) fun x hx => h x (List.mem_cons_of_mem _ hx)
    have h2 : s.data.toList.length = s.size := by rw [Array.length_toList]; rfl
    have h3 := h s List.mem_cons_self
    unfold joinU at ih ⊢
    rw [List.flatMap_cons, List.length_append, List.length_cons, List.length_cons, h2]
    omega

set_option maxHeartbeats 6400000 in
set_option maxRecDepth 100000 in
theorem dirsPaths_any (p o : ByteArray) (A : Option Addr) (n c : Nat) (l : List ByteArray) (m : Int) (Q : Nat → Prop) (w : World) (h : Sl eT 1 Q w A n c l) (hm : w.cell? ⟨0, 0, none⟩ = some (.int .i64 m)) :
    Calls Tryd.prog 3 #[.string p, .string o, .slice A n c] w fun e w' => e = .returned (.bool true) ∧ Ext w w' := by
  have H := Lib.hid h
  have HM := Lib.hid hm
  clear h hm
  by_cases hp : 200 < (p.size : Int)
  · go_enter Tryd.func3, Tryd.ntmps3
    go_wp2_with fail
    refine (awake29_any m _ HM.out).mono ?_
    rintro e w1 ⟨rfl, h1⟩
    replace h1 := Lib.hid h1
    go_wp2
    go_ret
    exact ⟨rfl, h1.out⟩
  by_cases ho : 200 < (o.size : Int)
  · go_enter Tryd.func3, Tryd.ntmps3
    go_wp2_with fail
    refine (awake29_any m _ HM.out).mono ?_
    rintro e w1 ⟨rfl, h1⟩
    replace h1 := Lib.hid h1
    go_wp2
    go_ret
    exact ⟨rfl, h1.out⟩
  by_cases hn : 20 < (n : Int)
  · go_enter Tryd.func3, Tryd.ntmps3
    go_wp2_with fail
    refine (awake29_any m _ HM.out).mono ?_
    rintro e w1 ⟨rfl, h1⟩
    replace h1 := Lib.hid h1
    go_wp2
    go_ret
    exact ⟨rfl, h1.out⟩
  have hp1 : p.size ≤ 1000 := by omega
  have ho1 : o.size ≤ 1000 := by omega
  have HP1 := Lib.hid hp1
  have HO1 := Lib.hid ho1
  have HPB := Lib.hid (show p.size ≤ 1048576 by omega)
  have HOB := Lib.hid (show o.size ≤ 1048576 by omega)
  have HLN := Lib.hid H.out.len
  have hn20 : n ≤ 20 := by omega
  clear hp1 ho1
  go_enter Tryd.func3, Tryd.ntmps3
  go_wp2
  go_loop [7] (fun i => ∃ k : Nat, k ≤ n ∧ i = .int .i64 k ∧ ∀ s ∈ l.take k, s.size ≤ 30) (fun i => n - (intOf i).toNat)
  case atStart => exact ⟨0, Nat.zero_le _, rfl, fun s hs => by cases hs⟩
  case round =>
    obtain ⟨k, hk, rfl, hall⟩ := hrel
    have HALL := Lib.hid hall
    clear hall
    by_cases hlt : k < n
    · obtain ⟨b, off, s, rfl, hps, _, hbl, hc0⟩ := H.out.txt k hlt
      have HPS := Lib.hid hps
      have k0 : (0 : Int) ≤ (k : Int) := by omega
      have k9 : (k : Int) < (n : Int) := by omega
      clear hps
      by_cases hs : 30 < (s.size : Int)
      · go_wp2_with fail
        refine (awake29_any m _ HM.out).mono ?_
        rintro e w1 ⟨rfl, h1⟩
        replace h1 := Lib.hid h1
        go_wp2
        go_ret
        exact ⟨rfl, h1.out⟩
      · go_wp2
        refine ⟨⟨k + 1, by omega, by go_num, fun x hx => ?_⟩, by simp [intOf]; omega⟩
        rw [List.take_add_one, HPS.out, List.mem_append] at hx
        rcases hx with hx | hx
        · exact HALL.out x hx
        · simp only [Option.toList_some, List.mem_singleton] at hx
          subst hx; omega
    · obtain rfl : k = n := by omega
      have hall : ∀ s ∈ l, s.size ≤ 30 := fun s hs => HALL.out s (by rw [List.take_of_length_le (by rw [HLN.out]; exact Nat.le_refl _)]; exact hs)
      have hj := joinU_le30 hall
      have hjj : (joinU l).length ≤ 1000 := by have := HLN.out; omega
      have HJ := Lib.hid hjj
      have HL := Lib.hid (show l.length ≤ 1000 by have := HLN.out; omega)
      clear hall hj hjj hlt
      obtain ⟨⟨sl, se⟩, hsp⟩ : ∃ r, splitP p = r := ⟨_, rfl⟩
      obtain ⟨⟨aa, ab, ae⟩, hab⟩ : ∃ r, aboveP p = r := ⟨_, rfl⟩
      obtain ⟨ub, hub⟩ : ∃ r, underP p o = r := ⟨_, rfl⟩
      obtain ⟨jn, hjn⟩ : ∃ r, joinP l = r := ⟨_, rfl⟩
      have hok := splitP_ok (p := p)
      rw [hsp] at hok
      simp only at hok
      have hsl : sl.length ≤ 1000 ∧ (joinU sl).length ≤ 1000 := by
        by_cases he : se = 0
        · obtain ⟨h1, h2⟩ := hok he
          have := joinU_bd h2
          omega
        · have := splitP_err (p := p) (by rw [hsp]; exact he)
          rw [hsp] at this
          injection this with h1 h2
          subst h1
          exact ⟨Nat.zero_le _, Nat.zero_le _⟩
      have HSP := Lib.hid hsp
      have HAB := Lib.hid hab
      have HUB := Lib.hid hub
      have HJN := Lib.hid hjn
      have HSL := Lib.hid hsl
      have s1 := bne_int_self se
      have s2 := bne_int_self ae
      have s3 := bne_bool_self ub
      clear hsp hab hub hjn hok hsl
      go_wp2_with fail
      refine (dsplit_any p m _ HPB.out HM.out).mono ?_
      rw [HSP.out]
      rintro e w1 ⟨A1, n1, c1, rfl, S1, h1⟩
      replace S1 := Lib.hid S1
      replace h1 := Lib.hid h1
      go_wp2_with fail
      refine (rsplit_any p HP1.out _).mono ?_
      rw [HSP.out]
      rintro e w2 ⟨A2, n2, c2, rfl, S2, h2⟩
      have T1 := Lib.hid (S1.out.ext h2)
      replace S2 := Lib.hid S2
      have X2 := Lib.hid (h1.out.trans h2)
      clear h2 S1
      go_wp2_with fail
      refine (dabove_any p m _ HPB.out (X2.out.at HM.out)).mono ?_
      rw [HAB.out]
      rintro e w3 ⟨rfl, h3⟩
      have T2 := Lib.hid (T1.out.ext h3)
      have S3 := Lib.hid (S2.out.ext h3)
      have X3 := Lib.hid (X2.out.trans h3)
      clear h3 T1 S2
      go_wp2_with fail
      refine (rabove_any p HP1.out _).mono ?_
      rw [HAB.out]
      rintro e w4 ⟨rfl, h4⟩
      have T3 := Lib.hid (T2.out.ext h4)
      have S4 := Lib.hid (S3.out.ext h4)
      have X4 := Lib.hid (X3.out.trans h4)
      clear h4 T2 S3
      go_wp2_with fail
      refine (texts29_any _ _ _ _ _ _ _ _ _ _ _ T3.out S4.out HSL.out.1).mono ?_
      rw [eqT_self]
      rintro e w5 ⟨rfl, h5⟩
      have T5 := Lib.hid (T3.out.ext h5.ext)
      have X5 := Lib.hid (X4.out.trans h5.ext)
      clear h5 T3 S4
      go_wp2_with fail
      refine (dunder_any p o m _ HPB.out HOB.out (X5.out.at HM.out)).mono ?_
      rw [HUB.out]
      rintro e w6 ⟨rfl, h6⟩
      have T6 := Lib.hid (T5.out.ext h6)
      have X6 := Lib.hid (X5.out.trans h6)
      clear h6 T5
      go_wp2_with fail
      refine (runder_any p o HP1.out HO1.out _).mono ?_
      rw [HUB.out]
      rintro e w7 ⟨rfl, h7⟩
      have T7 := Lib.hid (T6.out.ext h7)
      have X7 := Lib.hid (X6.out.trans h7)
      clear h7 T6
      go_wp2_with fail
      refine (djoin_any _ _ _ _ _ _ (H.out.ext X7.out) (by have := HJ.out; omega)).mono ?_
      rw [HJN.out]
      rintro e w8 ⟨rfl, h8⟩
      have T8 := Lib.hid (T7.out.ext h8)
      have X8 := Lib.hid (X7.out.trans h8)
      clear h8 T7
      go_wp2_with fail
      refine (rjoin_any _ _ _ _ _ _ (H.out.ext X8.out) (by have := HJ.out; omega) HL.out).mono ?_
      rw [HJN.out]
      rintro e w9 ⟨rfl, h9⟩
      have T9 := Lib.hid (T8.out.ext h9.ext)
      have X9 := Lib.hid (X8.out.trans h9.ext)
      clear h9 T8
      by_cases he : se = 0
      · subst he
        have hjs := Lib.hid (show joinP sl = p by have := join_split (p := p) (by rw [HSP.out]); rw [HSP.out] at this; exact this)
        have hur := Lib.hid (under_root (p := p) (by rw [HSP.out]))
        have hus := Lib.hid (under_self (p := p) (by rw [HSP.out]))
        have hsz := Lib.hid (show (⟨#[47]⟩ : ByteArray).size ≤ 1048576 by show 1 ≤ 1048576; omega)
        go_wp2_with fail
        refine (djoin_any _ _ _ _ _ _ T9.out (by have := HSL.out.2; omega)).mono ?_
        rw [hjs.out]
        rintro e w10 ⟨rfl, h10⟩
        have X10 := Lib.hid (X9.out.trans h10)
        clear h10
        go_wp2_with fail
        refine (dunder_any p ⟨#[47]⟩ m _ HPB.out hsz.out (X10.out.at HM.out)).mono ?_
        rw [hur.out]
        rintro e w11 ⟨rfl, h11⟩
        have X11 := Lib.hid (X10.out.trans h11)
        clear h11
        go_wp2_with fail
        refine (dunder_any p p m _ HPB.out HPB.out (X11.out.at HM.out)).mono ?_
        rw [hus.out]
        rintro e w12 ⟨rfl, h12⟩
        have X12 := Lib.hid (X11.out.trans h12)
        clear h12
        go_wp2_with fail
        refine (awake29_any m _ (X12.out.at HM.out)).mono ?_
        rintro e w13 ⟨rfl, h13⟩
        replace h13 := Lib.hid h13
        go_wp2
        go_ret
        exact ⟨rfl, X12.out.trans h13.out⟩
      · have hne : (se != 0) = true := by simpa using he
        clear he
        go_wp2_with fail
        refine (awake29_any m _ (X9.out.at HM.out)).mono ?_
        rintro e w13 ⟨rfl, h13⟩
        replace h13 := Lib.hid h13
        go_wp2
        go_ret
        exact ⟨rfl, X9.out.trans h13.out⟩
end Go.Proofs.YtdocdppimpapiaaDoor

namespace Go.Proofs.YtdocdppimpapiaaDoor
open Go.ChangeShapes Go.WideShapes Go.ChangeAt Go.RowKit Go.Joins Go.Deep

/-- The wrap of a row that lists variables, the world's shape kept. -/
theorem returns_both {H : Type} {enc : TypeId × Value → H} {a : Assume} {C : Checked} {os : Os} {f : FuncId} {fn : Func} {s : ChangeSpec} {conds : List PathCond} {apart fresh handsOn again : Bool} {X : World → Array Value → Prop}
    (hX : ∀ (w w' : World) (args : Array Value), w.heap = w'.heap → X w args → X w' args)
    (own : ownKnob C.prog.godebug = none) (started : os.Started) (noInit : C.prog.inits.idxOf? f = none) (hfn : C.prog.funcs[f]? = some fn)
    (witness : ∃ (w : World) (tape : Tape) (i : Input), w.os = os ∧ (w.forCall tape i).Shaped C.prog ∧ i.vars = [] ∧ Input.okWide C.prog (w.forCall tape i) .any w.heap.size f i ∧
      ((s.pre enc C.prog fn conds apart (w.forCall tape i).memory i.args ∧ X (w.forCall tape i).memory i.args) ∧ sizedMet enc C.prog fn (OpenSpec.ofChange s) apart (w.forCall tape i).memory i.args) ∧ a.holds C.prog (lone (Frame.enter C.prog f i.args .normal) [] (w.forCall tape i)))
    (contract : ∀ (W : World) (base : Nat) (args : Array Value) (ds gs : List (DataW H)) (before : List MemPlace),
      (∀ (j : Nat) t v, fn.params[j]? = some t → args[j]? = some v → Value.okWide C.prog W .any base t v) →
      DataW.Whole enc C.prog fn.params.toList s.vars apart W args.toList ds gs before →
      conds.all (PathCond.test C.prog ⟨fn.params.toList, ds, s.plain.varTypes C.prog, gs⟩) = true →
      (DataW.weightsEach C.prog (fn.params.toList ++ s.plain.varTypes C.prog) (ds ++ gs)).all (· ≤ reachBytes) = true → X W args →
      W.ShapedOpen C.prog →
      a.holds C.prog (lone (Frame.enter C.prog f args .normal) [] W) →
      Calls C.prog f args W fun e W' => ∃ v, e = .returned v ∧ s.post enc C.prog fn apart fresh handsOn again W args v W') :
    ReturnsInHanded a C os f .any (fun w args => (s.pre enc C.prog fn conds apart w args ∧ X w args) ∧ sizedMet enc C.prog fn (OpenSpec.ofChange s) apart w args) (s.post enc C.prog fn apart fresh handsOn again) := by
  refine returnsInHanded_of_calls own started noInit witness ?_
  intro w tape i _ hsh _ hok hpre hholds
  obtain ⟨_, _, _, fn', hfn', _, _, _, _, hval⟩ := hok
  have e : fn' = fn := Option.some.inj (hfn'.symm.trans hfn)
  subst e
  obtain ⟨⟨⟨ds, gs, before, hw, hc⟩, hx⟩, hz⟩ := hpre
  have hw' := DataW.Whole.of_heap (w' := w.forCall tape i) (by rfl) hw
  refine (contract (w.forCall tape i) w.heap.size i.args ds gs before hval hw' hc (hz.weights hw) (hX _ _ _ (by rfl) hx) hsh hholds).mono fun e W' ⟨v, he, hp⟩ => ?_
  subst he
  exact ChangeSpec.post_blind hp

/-- What the library's variable at block 0 holds: some number. -/
theorem maxlen_int (W : World) (h : W.ShapedOpen Tryd.prog) : ∃ m, W.cell? ⟨0, 0, none⟩ = some (.int .i64 m) :=
  Go.Proofs.cell_of_shapedOpen_int (zero := #[.int .i64 0]) (t := 3) h (of_decide_eq_true (by kernel_rfl)) (by kernel_rfl) rfl (by kernel_rfl) (by kernel_rfl) Tryd.underlying3

theorem strs_sl {H : Type} {enc : TypeId × Value → H} {w : World} {base fuel : Nat} {spare : Nat → Bool} {hb : Bool} {v : Value} {x : DataW H × List MemPlace}
    (h : DataW.trod enc Tryd.prog w base spare hb fuel 22 [v] = some x) :
    ∃ A n c l, v = .slice A n c ∧ Sl eT 1 (fun j => j < w.heap.size) w A n c l ∧ True := by
  rcases open_strings Tryd.underlying22 Tryd.underlying9 (by kernel_rfl) h with ⟨hcs, _⟩ | ⟨a, n, c, ss, hcs, _, hl, hm, hz, _, hcell, _⟩
  · simp only [List.cons.injEq, and_true] at hcs
    exact ⟨none, 0, 0, [], hcs, Sl.nil _ _ _ _ (Nat.zero_le _), trivial⟩
  · simp only [List.cons.injEq, and_true] at hcs
    have hzl : n ≤ ss.length := by rw [hz]; split <;> omega
    refine ⟨some a, n, c, ss.take n, hcs, ⟨by rw [List.length_take]; omega, hl, Nat.le_trans hm (by decide), fun i y hy => ?_⟩, trivial⟩
    rw [List.getElem?_take] at hy
    split at hy
    · rename_i hi
      have h1 := hcell i (by omega)
      obtain ⟨b, off, spot⟩ := a
      have hs : spot = none := by simpa [Addr.add] using World.cell?_spot (hcell 0 (by omega))
      subst hs
      have h2 : w.cell? ⟨b, off + i, none⟩ = some (.string y) := by
        have := h1
        rw [List.getD_eq_getElem?_getD, hy, Addr.add_lit] at this
        exact this
      refine ⟨b, off, rfl, World.block_lt_of_cell? w _ h2, fun j u hu => ?_⟩
      cases j with
      | zero =>
        simp only [eT, List.getElem?_cons_zero, Option.some.injEq] at hu
        subst hu
        simpa using h2
      | succ j => simp [eT] at hu
    · cases hy
end Go.Proofs.YtdocdppimpapiaaDoor
