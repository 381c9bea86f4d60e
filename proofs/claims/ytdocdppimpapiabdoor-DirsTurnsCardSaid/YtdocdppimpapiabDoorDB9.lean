/-
  dirs.at, dirs.Find: where an entry of a name stands. slices.Clone and slices.Delete at entries; dirs.Remove. Texts in order; entries in order: plain. No program in it. slices.SortFunc at entries: the shelf's laying (lay-plain). slices.SortFunc at entries, by their names. The printed contracts of the reference's Find, Remove, Add, SameTexts and of dirs.Names, in this seat's words. dirs.Add: entries with one more. Entries turned, plain: the program's Remove is the reference's; what was added can be removed. dirs.Names, SameTexts, in this seat's words. DirsTurns, the walk. What a row hands over: an entry by value. No function of the program.
-/
import Derived.Lib.IndexBytes
import Derived.Deep.RegionLaw
import Derived.Lib.SliceRun
import Derived.Laws.IdiomCopy
import Derived.Lib.Bytealg
import Derived.Test.YtdocdppimpapiabDoorProg
import Derived.Shelf.SlSortCmp.WholeK
import Derived.Deep.RegionHeld3
import Derived.Test.YtdocdppimpapiabDoorDB2
import Derived.Test.YtdocdppimpapiabDoorDB3
import Derived.Test.YtdocdppimpapiabDoorDB4
import Derived.Test.YtdocdppimpapiabDoorDB5
import Derived.Test.YtdocdppimpapiabDoorDB6
import Derived.Test.YtdocdppimpapiabDoorDB7
import Derived.Test.YtdocdppimpapiabDoorDB8
set_option linter.unusedSimpArgs false
set_option linter.unusedVariables false
namespace Go.Proofs.YtdocdppimpapiabDoor
open Go.RowKit

def eqN (a b : ByteArray) : Bool := a.toList == b.toList
theorem eqN_iff {a b : ByteArray} : eqN a b = true ↔ a = b := by
  unfold eqN
  rw [beq_iff_eq]
  refine ⟨fun h => ?_, fun h => by rw [h]⟩
  rw [Lib.toList_data, Lib.toList_data] at h
  cases a; cases b
  simpa using h

set_option maxHeartbeats 400000 in
theorem at1_any (s nm : ByteArray) (v : Int) (b : Nat) (w : World) (hc : w.cell? ⟨b, 0, none⟩ = some (.string nm)) :
    Calls Tryd.prog 70 #[.agg #[.string s, .int .i64 v], .pointer (some ⟨b, 0, none⟩)] w fun e w' => e = .returned (.bool (eqN s nm)) ∧ Ext w w' := by
  have hc2 := ((Ext.refl w).alloc (.cells #[.string s, .int .i64 v] 47)).at hc
  go_enter Tryd.func70, Tryd.ntmps70
  go_wp2
  go_ret
  exact ⟨rfl, (Ext.refl _).alloc _⟩

/-- Where the first entry of a name stands, counted from k. -/
def posE (nm : ByteArray) : List En → Nat → Int
  | [], _ => -1
  | e :: l, k => if eqN e.1 nm = true then (k : Int) else posE nm l (k + 1)
theorem posE_step {nm : ByteArray} {l : List En} {k : Nat} {e : En} (h : l[k]? = some e) : posE nm (l.drop k) k = if eqN e.1 nm = true then (k : Int) else posE nm (l.drop (k + 1)) (k + 1) := by
  have hk : k < l.length := by
    rcases Nat.lt_or_ge k l.length with h1 | h1
    · exact h1
    · rw [List.getElem?_eq_none h1] at h; cases h
  have h2 : l[k] = e := by rw [List.getElem?_eq_getElem hk] at h; injection h
  rw [List.drop_eq_getElem_cons hk, h2]
  rfl
theorem posE_cases (nm : ByteArray) : ∀ (l : List En) (k : Nat), (posE nm l k = -1 ∧ ∀ e ∈ l, e.1 ≠ nm) ∨ ∃ i e, posE nm l k = ((k + i : Nat) : Int) ∧ l[i]? = some e ∧ e.1 = nm ∧ ∀ j x, j < i → l[j]? = some x → x.1 ≠ nm
  | [], k => .inl ⟨rfl, fun e he => by cases he⟩
  | e :: l, k => by
    by_cases h : eqN e.1 nm = true
    · exact .inr ⟨0, e, by unfold posE; rw [if_pos h]; rfl, rfl, eqN_iff.1 h, fun j x hj => by omega⟩
    · have hne : e.1 ≠ nm := fun h2 => h (eqN_iff.2 h2)
      rcases posE_cases nm l (k + 1) with ⟨h1, h2⟩ | ⟨i, x, h1, h2, h3, h4⟩
      · refine .inl ⟨by unfold posE; rw [if_neg h]; exact h1, fun y hy => ?_⟩
        rcases List.mem_cons.1 hy with rfl | hy
        · exact hne
        · exact h2 y hy
      · refine .inr ⟨i + 1, x, by unfold posE; rw [if_neg h, h1]; omega, by rw [List.getElem?_cons_succ]; exact h2, h3, fun j y hj hy => ?_⟩
        cases j with
        | zero => simp only [List.getElem?_cons_zero, Option.some.injEq] at hy; subst hy; exact hne
        | succ j => rw [List.getElem?_cons_succ] at hy; exact h4 j y (by omega) hy

set_option maxHeartbeats 1600000 in
theorem idxE_any (A : Option Addr) (n c b0 : Nat) (l : List En) (nm : ByteArray) (Q : Nat → Prop) (w : World) (h : Sl eE 2 Q w A n c l) (hn : n ≤ 1048576) (hb : w.cell? ⟨b0, 0, none⟩ = some (.string nm)) :
    Calls Tryd.prog 69 #[.slice A n c, .func (.func 70) #[] #[.pointer (some ⟨b0, 0, none⟩)]] w fun e w' => e = .returned (.int .i64 (posE nm l 0)) ∧ Ext w w' := by
  have HN := Lib.hid h.len
  have H := Lib.hid h
  have HB := Lib.hid hb
  clear h hb
  go_enter Tryd.func69, Tryd.ntmps69
  go_wp2
  go_loopw [8] (fun i wr => ∃ k : Nat, k ≤ n ∧ i = .int .i64 k ∧ posE nm (l.drop k) k = posE nm l 0 ∧ Ext w wr) (fun i _ => n - (intOf i).toNat)
  case atStart => exact ⟨0, Nat.zero_le _, rfl, rfl, Ext.refl _⟩
  case round =>
    obtain ⟨k, hk, rfl, hch, hx⟩ := hrel
    have HCH := Lib.hid hch
    have HX := Lib.hid hx
    clear hch hx
    by_cases hlt : k < n
    · obtain ⟨b, o, s, v, rfl, hp, _, hbl, hc0, hc1⟩ := H.out.en k hlt
      replace hc0 := HX.out.at hc0
      replace hc1 := HX.out.at hc1
      have hst := posE_step (nm := nm) hp
      have k0 : (0 : Int) ≤ (k : Int) := by omega
      have k9 : (k : Int) < (n : Int) := by omega
      obtain ⟨nb, hnb⟩ : ∃ nb, eqN s nm = nb := ⟨_, rfl⟩
      simp only [hnb] at hst
      have H1 := Lib.hid (HCH.out.symm.trans hst)
      have HNB := Lib.hid hnb
      clear hst hp hnb
      go_wp2_with fail
      refine (at1_any s nm v b0 _ (HX.out.at HB.out)).mono ?_
      rw [HNB.out]
      rintro e w3 ⟨rfl, he3⟩
      replace he3 := Lib.hid he3
      cases nb
      · go_wp2
        exact ⟨⟨k + 1, by omega, by go_num, H1.out.symm, HX.out.trans he3.out⟩, by simp [intOf]; omega⟩
      · go_wp2
        go_ret
        exact ⟨ret_int H1.out.symm, HX.out.trans he3.out⟩
    · have hE : posE nm l 0 = -1 := by
        have h1 := HCH.out
        rw [List.drop_eq_nil_of_le (by rw [← HN.out]; omega)] at h1
        exact h1.symm
      have H1 := Lib.hid hE
      clear hE
      go_wp2
      go_ret
      exact ⟨ret_int H1.out.symm, HX.out⟩

set_option maxHeartbeats 400000 in
theorem at_any (A : Option Addr) (n c : Nat) (l : List En) (nm : ByteArray) (Q : Nat → Prop) (w : World) (h : Sl eE 2 Q w A n c l) (hn : n ≤ 1048576) :
    Calls Tryd.prog 43 #[.slice A n c, .string nm] w fun e w' => e = .returned (.int .i64 (posE nm l 0)) ∧ Ext w w' := by
  have H := Lib.hid h
  clear h
  go_enter Tryd.func43, Tryd.ntmps43
  go_wp2_with fail
  refine (idxE_any _ _ _ _ _ nm _ _ (H.out.ext ((Ext.refl _).alloc _)) hn (cell_new _ _ _ _ _ rfl)).mono ?_
  rintro e w1 ⟨rfl, h1⟩
  replace h1 := Lib.hid h1
  go_wp2
  go_ret
  exact ⟨rfl, ((Ext.refl _).alloc _).trans h1.out⟩

/-- The inode of a name, and is there one? -/
def findE (l : List En) (nm : ByteArray) : Int × Bool := if posE nm l 0 < 0 then (0, false) else ((l.getD (posE nm l 0).toNat (⟨#[]⟩, 0)).2, true)

set_option maxHeartbeats 800000 in
theorem find_any (A : Option Addr) (n c : Nat) (l : List En) (nm : ByteArray) (Q : Nat → Prop) (w : World) (h : Sl eE 2 Q w A n c l) (hn : n ≤ 1048576) :
    Calls Tryd.prog 24 #[.slice A n c, .string nm] w fun e w' => e = .returned (.tuple #[.int .i64 (findE l nm).1, .bool (findE l nm).2]) ∧ Ext w w' := by
  obtain ⟨r, hr⟩ : ∃ r, findE l nm = r := ⟨_, rfl⟩
  have HR := Lib.hid hr
  have H := Lib.hid h
  rw [hr]
  clear hr h
  rcases posE_cases nm l 0 with ⟨hp, _⟩ | ⟨i, e, hp, hi, _, _⟩
  · have HF := Lib.hid (show r = (0, false) by rw [← HR.out]; unfold findE; rw [hp, if_pos (by decide)])
    have HP := Lib.hid hp
    clear hp
    go_enter Tryd.func24, Tryd.ntmps24
    go_wp2_with (go_at_call 43; refine (at_any _ _ _ _ _ _ _ H.out hn).mono ?_; rw [HP.out]; rintro e w1 ⟨rfl, h1⟩; replace h1 := Lib.hid h1)
    go_ret2
    rw [HF.out]
    exact ⟨rfl, h1.out⟩
  · rw [Nat.zero_add] at hp
    have HF := Lib.hid (show r = (e.2, true) by rw [← HR.out]; unfold findE; rw [hp, if_neg (by omega), Int.toNat_natCast, List.getD_eq_getElem?_getD, hi]; rfl)
    have HP := Lib.hid hp
    have hin : i < n := by
      rw [H.out.len]
      rcases Nat.lt_or_ge i l.length with h1 | h1
      · exact h1
      · rw [List.getElem?_eq_none h1] at hi; cases hi
    obtain ⟨b, o, s, v, rfl, hp2, _, hbl, hc0, hc1⟩ := H.out.en i hin
    have he : e.2 = v := by rw [hi] at hp2; injection hp2 with h; rw [h]
    have HE := Lib.hid he
    have i0 : (0 : Int) ≤ (i : Int) := by omega
    have i9 : (i : Int) < (n : Int) := by omega
    clear hp hi hp2 he
    go_enter Tryd.func24, Tryd.ntmps24
    go_wp2_with (go_at_call 43; refine (at_any _ _ _ _ _ _ _ H.out hn).mono ?_; rw [HP.out]; rintro e w1 ⟨rfl, h1⟩; have c1 := h1.at hc1; replace h1 := Lib.hid h1)
    go_ret2
    rw [HF.out, HE.out]
    exact ⟨rfl, h1.out⟩
end Go.Proofs.YtdocdppimpapiabDoor

namespace Go.Proofs.YtdocdppimpapiabDoor
open Go.RowKit

theorem info_en : (Tryd.prog.info? 47).map (fun i => (i.zero, i.size, i.bytes)) = some (some (.agg #[.string ⟨#[]⟩, .int .i64 0]), 2, 24) := by kernel_rfl

set_option maxHeartbeats 800000 in
/-- The clone is the call's own. -/
theorem cloneE_any (A : Option Addr) (n cap : Nat) (l : List En) (Q : Nat → Prop) (w : World) (h : Sl eE 2 Q w A n cap l) (hl : l.length ≤ 1048576) :
    Calls Tryd.prog 44 #[.slice A n cap] w fun e w' => ∃ A' n' cap', e = .returned (.slice A' n' cap') ∧ Ow eE 2 47 w.heap.size w' A' n' cap' l ∧ Ext w w' := by
  have qn := fun (w : World) (a : Option Addr) (n c : Nat) => Lib.run_eql_slice_nil (P := Tryd.prog) w 27 47 a n c 0 0 Tryd.underlying27
  cases A with
  | none =>
    obtain ⟨rfl, rfl⟩ := h.noAddr
    go_enter Tryd.func44, Tryd.ntmps44
    go_wp2
    go_ret
    exact ⟨none, 0, 0, rfl, Ow.nil _, Ext.refl _⟩
  | some a =>
    have H := Lib.hid h
    clear h
    go_enter Tryd.func44, Tryd.ntmps44
    go_wp2_with (at_builtin; refine wpList_app _ rfl _ _ 27 rfl info_en Tryd.underlying27 rfl (by decide) eE_len eE_one (Ow.laid (base := w.heap.size) eE_len w [] #[] 0 rfl rfl (by decide) (Nat.le_refl _)) rfl (H.out.ext ((Ext.refl _).alloc _)) rfl (by simp; omega) (by simp; omega) (by simp) ?_; intro A' n' cap' w' hO hg _ _; replace hO := Lib.hid hO; replace hg := Lib.hid hg)
    go_ret
    refine ⟨A', n', cap', rfl, hO.out, Ext.grown ((Ext.refl _).alloc _) hg.out fun k hk => ?_⟩
    have : w.heap.size = k := by simpa [Value.ownBlock] using hk
    omega

theorem heap_setCells (b : Nat) : ∀ (vs : List Value) (o : Nat) (w : World) (k : Nat), k ≠ b → (w.setCells b o vs).heap[k]? = w.heap[k]?
  | [], _, _, _, _ => rfl
  | v :: vs, o, w, k, h => by
    unfold World.setCells
    rw [heap_setCells b vs _ _ k h]
    exact Below.heap_setCell _ _ _ _ h
theorem mut_setCells (b : Nat) : ∀ (vs : List Value) (o : Nat) (w : World), Mut b w (w.setCells b o vs)
  | [], _, _ => Mut.refl _ _
  | v :: vs, o, w => by
    unfold World.setCells
    exact ((Mut.refl b w).setCell o v).trans (mut_setCells b vs _ _)
theorem run_clear_one (w : World) (ty : TypeId) (b o c : Nat) (hc : ∀ j, j < 2 → (w.cell? ⟨b, o + j, none⟩).isSome = true) (hf : ∀ j, j < 2 → w.frozen? ⟨b, o + j, none⟩ = false) :
    (Builtin.clear_ #[27] ty #[.slice (some ⟨b, o, none⟩) 1 c]).run Tryd.prog w = .ok (.tuple #[]) (w.setCells b o [.string ⟨#[]⟩, .int .i64 0]) := by
  have hv : ∀ w, (zeroValue 47).run Tryd.prog w = .ok (.agg #[.string ⟨#[]⟩, .int .i64 0]) w := fun w => by kernel_rfl
  have hz : (Builtin.zeroCells (Value.agg #[.string ⟨#[]⟩, .int .i64 0]).cells 1).toList = [.string ⟨#[]⟩, .int .i64 0] := by kernel_rfl
  have hst := run_storeCells_cells (P := Tryd.prog) b o [.string ⟨#[]⟩, .int .i64 0] 0 w (by simpa using hc) (by simpa using hf) (by intro v hv'; simp only [List.mem_cons, List.mem_nil_iff, or_false] at hv'; rcases hv' with rfl | rfl <;> rfl)
  simp only [Nat.add_zero] at hst
  simp [Builtin.clear_, run_underlying Tryd.underlying27, hv, hz, hst]

theorem own_block {e base g n cap : Nat} {w : World} {l : List En} (h : Ow eE 2 e base w (some ⟨g, 0, none⟩) n cap l) : ∃ cur, w.heap[g]? = some (.cells cur e (0, 0)) ∧ cur.size = cap * 2 ∧ n ≤ cap ∧ cap ≤ 9223372036854775807 ∧ base ≤ g := by
  rcases h.own.2 with ⟨hv, _⟩ | ⟨g', cap', cur, hv, hb, hh, hc, hm, hs, _⟩
  · cases hv
  · injection hv with h1 h2 h3
    injection h1 with h1
    injection h1 with h1
    subst h1 h3
    exact ⟨cur, hh, hs, hc, hm, hb⟩

set_option maxHeartbeats 3200000 in
set_option maxRecDepth 100000 in
theorem delE_any (base g cap i r : Nat) (l : List En) (w : World) (h : Ow eE 2 47 base w (some ⟨g, 0, none⟩) (i + 1 + r) cap l) (hn : i + 1 + r ≤ 1048576) :
    Calls Tryd.prog 48 #[.slice (some ⟨g, 0, none⟩) (i + 1 + r) cap, .int .i64 i, .int .i64 ((i : Int) + 1)] w fun e w' => e = .returned (.slice (some ⟨g, 0, none⟩) (i + r) cap) ∧ Sl eE 2 (fun k => k = g) w' (some ⟨g, 0, none⟩) (i + r) cap (l.eraseIdx i) ∧ Mut g w w' := by
  obtain ⟨cur, hh, hsz, hnc, hm, _⟩ := own_block h
  obtain ⟨i0, hi0, hz0, hz1, hz2⟩ := info_parts info_en
  have hS := h.sl eE_len
  have hll := h.len
  have hfree := fun j => h.free (g := g) j
  have hcell : ∀ j, j < cap * 2 → (w.cell? ⟨g, j, none⟩).isSome = true := fun j hj => by
    rw [cell_of_heap hh, Array.getElem?_eq_getElem (by omega)]; rfl
  obtain ⟨news, hnews⟩ : ∃ news, news = (l.drop (i + 1)).flatMap eE := ⟨_, rfl⟩
  have hlen : news.length = r * 2 := by rw [hnews, flatMap_len eE_len, List.length_drop, ← hll]; omega
  have hget : ∀ t u, news[t]? = some u → w.cell? ⟨g, (i + 1) * 2 + t, none⟩ = some u := fun t u hu => by
    have ht : t < r * 2 := by
      rcases Nat.lt_or_ge t news.length with h1 | h1
      · rw [hlen] at h1; exact h1
      · rw [List.getElem?_eq_none h1] at hu; cases hu
    have hx : l[i + 1 + t / 2]? = some (l[i + 1 + t / 2]'(by rw [← hll]; omega)) := List.getElem?_eq_getElem _
    have hx2 : (l.drop (i + 1))[t / 2]? = some (l[i + 1 + t / 2]'(by rw [← hll]; omega)) := by rw [List.getElem?_drop]; exact hx
    have hlt : t % 2 < (eE (l[i + 1 + t / 2]'(by rw [← hll]; omega))).length := by rw [eE_len]; omega
    have h5 := flatMap_get eE_len _ _ _ hx2 (t % 2) _ (List.getElem?_eq_getElem hlt)
    rw [show t / 2 * 2 + t % 2 = t by omega, ← hnews, hu] at h5
    obtain ⟨b, off, ha, _, hc⟩ := hS.at_ _ _ hx
    simp only [Option.some.injEq, Addr.mk.injEq, and_true] at ha
    obtain ⟨rfl, rfl⟩ := ha
    have h6 := hc (t % 2) _ (List.getElem?_eq_getElem hlt)
    rw [show 0 + (i + 1 + t / 2) * 2 + t % 2 = (i + 1) * 2 + t by omega] at h6
    rw [h6, h5]
  obtain ⟨A, hA, hsrc⟩ : ∃ A : Addr, (if cap = i + 1 then (some ⟨g, 0, none⟩ : Option Addr) else some ⟨g, (i + 1) * 2, none⟩) = some A ∧ Hid (∀ t u, news[t]? = some u → w.drew.cell? (A.add t) = some u) := by
    by_cases h1 : cap = i + 1
    · refine ⟨⟨g, 0, none⟩, by simp [h1], fun t u hu => ?_⟩
      have h0 : news.length = 0 := by rw [hlen]; omega
      rw [List.length_eq_zero_iff.1 h0] at hu
      simp at hu
    · refine ⟨⟨g, (i + 1) * 2, none⟩, by simp [h1], fun t u hu => ?_⟩
      rw [Addr.add_lit]
      exact hget t u hu
  have s1 : Hid (news.length = r * 2) := hlen
  have s2 : Hid (∀ u ∈ news, u.oneCell' = true) := Lib.hid fun u hu => by
    rw [hnews] at hu
    obtain ⟨x, _, hx⟩ := List.mem_flatMap.1 hu
    exact eE_one x u hx
  have s3 : Hid (∀ t, t < news.length → (w.drew.cell? ⟨g, 0 + i * 2 + t, none⟩).isSome = true ∧ w.drew.frozen? ⟨g, 0 + i * 2 + t, none⟩ = false) := Lib.hid fun t ht => by
    rw [hlen] at ht
    exact ⟨by show (w.cell? _).isSome = true; exact hcell _ (by omega), hfree _⟩
  obtain ⟨W1, hW1⟩ : ∃ W1, W1 = w.drew.setCells g (0 + i * 2) news := ⟨_, rfl⟩
  have hc1 : ∀ j, j < cap * 2 → (W1.cell? ⟨g, j, none⟩).isSome = true := fun j hj => by
    rw [hW1]
    by_cases h1 : i * 2 ≤ j ∧ j < i * 2 + news.length
    · have := World.cell?_setCells_in g news (0 + i * 2) w.drew (fun t ht => (s3.out t ht).1) (j - i * 2) (by omega)
      rw [show 0 + i * 2 + (j - i * 2) = j by omega] at this
      rw [this]; rfl
    · rw [World.cell?_setCells_out g news _ _ _ (fun _ _ => by simp only; omega)]
      exact hcell j hj
  have hf1 : ∀ j, W1.frozen? ⟨g, j, none⟩ = false := fun j => by rw [hW1, World.frozen?_setCells]; exact hfree j
  have HCL := fun ty c' => run_clear_one W1 ty g ((i + r) * 2) c' (fun j hj => hc1 _ (by omega)) (fun j _ => hf1 _)
  have hW : Hid (W1 = w.drew.setCells g (0 + i * 2) news) := hW1
  have HGET := Lib.hid hget
  have HS := Lib.hid hS
  have HC1 := Lib.hid hc1
  have HLL := Lib.hid hll
  have hic : i ≤ cap := by omega
  have hjc : i + 1 ≤ cap := by omega
  have z0 : (0 : Int) ≤ (i : Int) := by omega
  have z1 : (0 : Int) ≤ (i : Int) + 1 := by omega
  have z2 : (i : Int) ≤ (i : Int) + 1 := by omega
  have z3 : (i : Int) + 1 ≤ (i : Int) + 1 + (r : Int) := by omega
  have z4 : (i : Int) + 1 + (r : Int) ≤ (cap : Int) := by omega
  have z5 : (i : Int) ≤ (cap : Int) := by omega
  have z6 : (((i : Int) == (i : Int) + 1)) = false := by simp; omega
  have n1 : ((i : Int) + 1).toNat = i + 1 := by omega
  have n2 : ((i : Int) + 1 + (r : Int)).toNat = i + 1 + r := by omega
  have HNEWS := Lib.hid hnews
  clear hW1 hc1 hf1 hget hlen hcell hfree hS hh hsz h hnews hll
  go_enter Tryd.func48, Tryd.ntmps48
  go_wp2
  go_region_law (go_must (refine step_append_room rfl (.tmp 22) (.tmp 25) 27 rfl 47 i0 2 Tryd.underlying27 hi0 hz1 g 0 i cap (by simp [Act.eval, Act.put]) A r (cap - (i + 1)) news (by simp [Act.eval, Act.put]) s1.out hsrc.out s2.out (by omega) s3.out ?_); rw [← hW.out])
  have y1 : (cap = i + r) = False := eq_false (by omega)
  have y2 : i + 1 + r - (i + r) = 1 := by omega
  have y3 : ((i : Int) + (r : Int)).toNat = i + r := by omega
  have y4 : (0 : Int) ≤ (i : Int) + (r : Int) := by omega
  have y5 : (i : Int) + (r : Int) ≤ (i : Int) + 1 + (r : Int) := by omega
  go_wp2
  go_ret
  have hll := HLL.out
  refine ⟨rfl, ⟨by rw [List.length_eraseIdx, if_pos (by omega), ← hll]; omega, by omega, hm, fun j x hx => ⟨g, 0, rfl, rfl, fun t u hu => ?_⟩⟩, ?_⟩
  · have ht : t < 2 := by
      rcases Nat.lt_or_ge t (eE x).length with h1 | h1
      · exact h1
      · rw [List.getElem?_eq_none h1] at hu; cases hu
    have hj : j < i + r := by
      rcases Nat.lt_or_ge j (l.eraseIdx i).length with h1 | h1
      · rw [List.length_eraseIdx, if_pos (by omega), ← hll] at h1; omega
      · rw [List.getElem?_eq_none h1] at hx; cases hx
    rw [World.cell?_setCells_out g _ _ _ _ (fun _ _ => .inl (by simp only; omega)), hW.out]
    rw [List.getElem?_eraseIdx] at hx
    by_cases hji : j < i
    · rw [if_pos hji] at hx
      rw [World.cell?_setCells_out g _ _ _ _ (fun _ _ => .inl (by simp only; omega))]
      obtain ⟨b, off, ha, _, hc⟩ := HS.out.at_ _ _ hx
      simp only [Option.some.injEq, Addr.mk.injEq, and_true] at ha
      obtain ⟨rfl, rfl⟩ := ha
      exact hc t u hu
    · rw [if_neg hji] at hx
      have h1 : (l.drop (i + 1))[j - i]? = some x := by rw [List.getElem?_drop, ← hx]; congr 1; omega
      have h2 := flatMap_get eE_len _ _ _ h1 t u hu
      rw [← HNEWS.out] at h2
      have h3 : (j - i) * 2 + t < news.length := by rw [s1.out]; omega
      have h4 := World.cell?_setCells_in g news (0 + i * 2) w.drew (fun q hq => (s3.out q hq).1) ((j - i) * 2 + t) h3
      rw [show 0 + j * 2 + t = 0 + i * 2 + ((j - i) * 2 + t) by omega, h4]
      rw [List.getElem?_eq_getElem h3] at h2
      exact h2
  · rw [hW.out]
    exact ((Ext.mut g ((Ext.refl w).drew)).trans (mut_setCells g _ _ _)).trans (mut_setCells g _ _ _)

/-- Entries without the one of a name, and the error. -/
def removeE (l : List En) (nm : ByteArray) : List En × Int :=
  if checkE l ≠ 0 then ([], checkE l) else if posE nm l 0 < 0 then ([], 13) else (l.eraseIdx (posE nm l 0).toNat, 0)

set_option maxHeartbeats 3200000 in
set_option maxRecDepth 100000 in
theorem remove_any (A : Option Addr) (n c : Nat) (l : List En) (nm : ByteArray) (Q : Nat → Prop) (w : World) (h : Sl eE 2 Q w A n c l) (hn : n ≤ 1048576) :
    Calls Tryd.prog 22 #[.slice A n c, .string nm] w (RetEn (removeE l nm) w) := by
  obtain ⟨r, hr⟩ : ∃ r, removeE l nm = r := ⟨_, rfl⟩
  have HR := Lib.hid hr
  have H := Lib.hid h
  rw [hr]
  clear hr h
  obtain ⟨ce, hce⟩ : ∃ ce, checkE l = ce := ⟨_, rfl⟩
  have HCE := Lib.hid hce
  by_cases hc0 : ce = 0
  · subst hc0
    rcases posE_cases nm l 0 with ⟨hp, _⟩ | ⟨i, e, hp, hi, _, _⟩
    · have HF := Lib.hid (show r = ([], 13) by rw [← HR.out]; unfold removeE; rw [hp, hce, if_neg (by decide), if_pos (by decide)])
      have HP := Lib.hid hp
      clear hp hce
      go_enter Tryd.func22, Tryd.ntmps22
      go_wp2_with (first
        | (go_at_call 8; refine (dcheck_any _ _ _ _ _ _ H.out).mono ?_; rw [HCE.out]; rintro e w1 ⟨rfl, h1⟩; replace h1 := Lib.hid h1)
        | (go_at_call 43; refine (at_any _ _ _ _ _ _ _ (H.out.ext h1.out) hn).mono ?_; rw [HP.out]; rintro e w2 ⟨rfl, h2⟩; replace h2 := Lib.hid h2))
      go_ret2
      rw [HF.out]
      exact ⟨none, 0, 0, rfl, Sl.nil _ _ none 0 (Nat.zero_le _), h1.out.trans h2.out⟩
    · rw [Nat.zero_add] at hp
      have HF := Lib.hid (show r = (l.eraseIdx i, 0) by rw [← HR.out]; unfold removeE; rw [hp, hce, if_neg (by decide), if_neg (by omega), Int.toNat_natCast])
      have HP := Lib.hid hp
      have hin : i < n := by
        rw [H.out.len]
        rcases Nat.lt_or_ge i l.length with h1 | h1
        · exact h1
        · rw [List.getElem?_eq_none h1] at hi; cases hi
      obtain ⟨d, rfl⟩ : ∃ d, n = i + 1 + d := ⟨n - (i + 1), by omega⟩
      have hlen := H.out.len
      have HLEN := Lib.hid hlen
      have i0 : (0 : Int) ≤ (i : Int) := by omega
      have hl32 := (checkE_ok HCE.out).1
      have i9 : (i : Int) < 100 := by omega
      clear hl32
      have HN := Lib.hid hn
      clear hp hce hi hlen hn hin
      go_enter Tryd.func22, Tryd.ntmps22
      go_wp2_with fail
      refine (dcheck_any _ _ _ _ _ _ H.out).mono ?_
      rw [HCE.out]
      rintro e w1 ⟨rfl, h1⟩
      replace h1 := Lib.hid h1
      trace "1"
      go_wp2_with fail
      refine (at_any _ _ _ _ _ _ _ (H.out.ext h1.out) HN.out).mono ?_
      rw [HP.out]
      rintro e w2 ⟨rfl, h2⟩
      replace h2 := Lib.hid h2
      trace "2"
      go_wp2_with fail
      trace "3"
      refine (cloneE_any _ _ _ _ _ _ (H.out.ext (h1.out.trans h2.out)) (by rw [← HLEN.out]; exact HN.out)).mono ?_
      rintro e w3 ⟨A3, n3, c3, rfl, ho3, h3⟩
      obtain rfl : n3 = i + 1 + d := ho3.len.trans HLEN.out.symm
      replace ho3 := Lib.hid ho3
      replace h3 := Lib.hid h3
      trace "4"
      go_wp2_with fail
      trace "5"
      obtain ⟨g, rfl⟩ : ∃ g, A3 = some ⟨g, 0, none⟩ := by
        rcases ho3.out.own.2 with ⟨hv, _⟩ | ⟨g', cap', cur, hv, _⟩
        · injection hv with h1 h2; omega
        · injection hv with h1; exact ⟨g', h1⟩
      have hgb := (ho3.out.lt g rfl).1
      have HGB := Lib.hid hgb
      clear hgb
      refine (delE_any _ g c3 i d l w3 ho3.out HN.out).mono ?_
      rintro e w4 ⟨rfl, hs4, hm4⟩
      replace hs4 := Lib.hid hs4
      replace hm4 := Lib.hid hm4
      go_wp2
      go_ret2
      rw [HF.out]
      have hx12 := h1.out.trans h2.out
      exact ⟨_, _, _, rfl, hs4.out.mono fun k hk => by subst hk; exact Nat.le_trans hx12.size HGB.out, Mut.ext (hx12.trans h3.out) hm4.out (Nat.le_trans hx12.size HGB.out)⟩
  · have HF := Lib.hid (show r = ([], ce) by rw [← HR.out]; unfold removeE; rw [hce, if_pos hc0])
    have hcb : (ce != 0) = true := by simpa using hc0
    clear hce hc0
    go_enter Tryd.func22, Tryd.ntmps22
    go_wp2_with (go_at_call 8; refine (dcheck_any _ _ _ _ _ _ H.out).mono ?_; rw [HCE.out]; rintro e w1 ⟨rfl, h1⟩; replace h1 := Lib.hid h1)
    go_ret2
    rw [HF.out]
    exact ⟨none, 0, 0, rfl, Sl.nil _ _ none 0 (Nat.zero_le _), h1.out⟩
end Go.Proofs.YtdocdppimpapiabDoor

namespace Go.Proofs.YtdocdppimpapiabDoor
open Go.RowKit

theorem cmp_less : ∀ a b : List UInt8, decide (Lib.compareBytes a b < 0) = Op.bytesLess a b
  | [], [] => rfl
  | [], _ :: _ => rfl
  | _ :: _, [] => rfl
  | a :: x, b :: y => by
    have ih := cmp_less x y
    unfold Lib.compareBytes Op.bytesLess
    by_cases h : a < b
    · simp [h]
    · by_cases h2 : b < a
      · have h3 : (a == b) = false := by
          rw [beq_eq_false_iff_ne]; rintro rfl; exact h h2
        simp [h, h2, h3]
      · have h3 : a = b := by
          rw [UInt8.lt_iff_toNat_lt] at h h2
          exact UInt8.toNat_inj.1 (by omega)
        subst h3
        simp only [h, if_false, ih]
        simp
theorem less_irr : ∀ a : List UInt8, Op.bytesLess a a = false := fun a => by
  have h := less_tot a a
  cases h1 : Op.bytesLess a a
  · rfl
  · rw [h1] at h; simp at h
theorem less_trans : ∀ a b c : List UInt8, Op.bytesLess a b = true → Op.bytesLess b c = true → Op.bytesLess a c = true
  | [], [], _, h, _ => by cases h
  | [], _ :: _, [], _, h => by cases h
  | [], _ :: _, _ :: _, _, _ => rfl
  | _ :: _, [], _, h, _ => by cases h
  | _ :: _, _ :: _, [], _, h => by cases h
  | a :: x, b :: y, c :: z, h1, h2 => by
    have ih := less_trans x y z
    unfold Op.bytesLess at h1 h2 ⊢
    simp only [Bool.or_eq_true, Bool.and_eq_true, decide_eq_true_eq, beq_iff_eq] at h1 h2 ⊢
    rcases h1 with h1 | ⟨rfl, h1⟩
    · rcases h2 with h2 | ⟨rfl, h2⟩
      · exact .inl (by rw [UInt8.lt_iff_toNat_lt] at *; omega)
      · exact .inl h1
    · rcases h2 with h2 | ⟨rfl, h2⟩
      · exact .inl h2
      · exact .inr ⟨rfl, ih h1 h2⟩
theorem toList_eq {a b : ByteArray} (h : a.toList = b.toList) : a = b := by
  rw [Lib.toList_data, Lib.toList_data] at h
  cases a; cases b
  simpa using h
theorem lessB_irr (a : ByteArray) : lessB a a = false := less_irr _
theorem lessB_trans {a b c : ByteArray} (h : lessB a b = true) (k : lessB b c = true) : lessB a c = true := less_trans _ _ _ h k
theorem lessB_tri (a b : ByteArray) : lessB a b = true ∨ a = b ∨ lessB b a = true := by
  have h := less_tot a.toList b.toList
  cases h1 : Op.bytesLess b.toList a.toList
  · rw [h1] at h
    simp only [Bool.not_false, Bool.or_eq_true, beq_iff_eq] at h
    rcases h with h | h
    · exact .inl h
    · exact .inr (.inl (toList_eq h))
  · exact .inr (.inr h1)
theorem lessB_anti {a b : ByteArray} (h : lessB a b = true) : lessB b a = false := by
  cases h1 : lessB b a
  · rfl
  · have := lessB_trans h h1
    rw [lessB_irr] at this; cases this
theorem lessB_not {a b c : ByteArray} (h : lessB a b = false) (k : lessB b c = false) : lessB a c = false := by
  cases h1 : lessB a c
  · rfl
  · rcases lessB_tri a b with h2 | rfl | h2
    · rw [h] at h2; cases h2
    · rw [k] at h1; cases h1
    · have := lessB_trans h2 h1
      rw [k] at this; cases this

/-- Rising names. -/
def Rising (l : List En) : Prop := l.Pairwise fun a b => lessB a.1 b.1 = true
theorem chkN_rising : ∀ (l : List En) (p : Option ByteArray), chkN p l = 0 → Rising l ∧ ∀ q, p = some q → ∀ e ∈ l, lessB q e.1 = true
  | [], p, _ => ⟨List.Pairwise.nil, fun q _ e he => by cases he⟩
  | x :: l, p, h => by
    unfold chkN at h
    by_cases h1 : nameB x.1 = false
    · rw [if_pos h1] at h; cases h
    · rw [if_neg h1] at h
      by_cases h2 : nodeB x.2 = false ∨ prevNot p x.1 = true
      · rw [if_pos h2] at h; cases h
      · rw [if_neg h2] at h
        obtain ⟨h3, h4⟩ := chkN_rising l (some x.1) h
        have h5 := h4 x.1 rfl
        refine ⟨List.Pairwise.cons h5 h3, fun q hq e he => ?_⟩
        subst hq
        have h6 : lessB q x.1 = true := by
          cases h7 : lessB q x.1
          · exact absurd (.inr (by simp only [prevNot, h7]; rfl)) h2
          · rfl
        rcases List.mem_cons.1 he with rfl | he
        · exact h6
        · exact lessB_trans h6 (h5 e he)
theorem checkE_rising {l : List En} (h : checkE l = 0) : Rising l := by
  unfold checkE at h
  by_cases h1 : 32 < l.length
  · rw [if_pos h1] at h; cases h
  · rw [if_neg h1] at h; exact (chkN_rising l none h).1
theorem chkN_of : ∀ (l : List En) (p : Option ByteArray), (∀ e ∈ l, nameB e.1 = true ∧ nodeB e.2 = true) → Rising l → (∀ q, p = some q → ∀ e ∈ l, lessB q e.1 = true) → chkN p l = 0
  | [], _, _, _, _ => rfl
  | x :: l, p, h, hr, hp => by
    obtain ⟨h1, h2⟩ := h x List.mem_cons_self
    have hr' := List.pairwise_cons.1 hr
    unfold chkN
    rw [if_neg (by rw [h1]; decide), if_neg]
    · exact chkN_of l (some x.1) (fun e he => h e (List.mem_cons_of_mem _ he)) hr'.2 (fun q hq e he => by injection hq with hq; subst hq; exact hr'.1 e he)
    · rintro (h3 | h3)
      · rw [h2] at h3; cases h3
      · cases p with
        | none => cases h3
        | some q =>
          have := hp q rfl x List.mem_cons_self
          simp only [prevNot, this] at h3
          cases h3
theorem rising_inj {l : List En} (h : Rising l) {a b : En} (ha : a ∈ l) (hb : b ∈ l) (hn : a.1 = b.1) : a = b := by
  induction l with
  | nil => cases ha
  | cons x l ih =>
    have hr := List.pairwise_cons.1 h
    rcases List.mem_cons.1 ha with rfl | ha'
    · rcases List.mem_cons.1 hb with rfl | hb'
      · rfl
      · have := hr.1 b hb'
        rw [hn, lessB_irr] at this; cases this
    · rcases List.mem_cons.1 hb with rfl | hb'
      · have := hr.1 a ha'
        rw [hn, lessB_irr] at this; cases this
      · exact ih hr.2 ha' hb'
theorem rising_eq {l m : List En} (hl : Rising l) (hm : m.Pairwise fun a b => lessB b.1 a.1 = false) (hp : m.Perm l) : m = l := by
  have hl' : l.Pairwise fun a b => lessB b.1 a.1 = false := hl.imp fun h => lessB_anti h
  refine List.Perm.eq_of_pairwise (le := fun a b : En => lessB b.1 a.1 = false) (fun a b ha hb h1 h2 => ?_) hm hl' hp
  refine rising_inj hl (hp.mem_iff.1 ha) hb ?_
  rcases lessB_tri a.1 b.1 with h | h | h
  · rw [h2] at h; cases h
  · exact h
  · rw [h1] at h; cases h
end Go.Proofs.YtdocdppimpapiabDoor

namespace Go.Proofs
open Go.Shelf
def Tryd.sortE_ren : Go.Shelf.Ren := ⟨fun | 6 => 45 | 15 => 72 | 14 => 71 | 28 => 93 | 29 => 94 | 20 => 85 | 21 => 86 | 22 => 87 | 23 => 88 | 24 => 89 | 25 => 90 | 26 => 91 | 27 => 92 | 46 => 103 | 47 => 104 | 48 => 105 | 49 => 106 | 50 => 107 | 57 => 117 | n => n, fun | 22 => 27 | 24 => 47 | 25 => 81 | 3 => 3 | 39 => 108 | 0 => 0 | 53 => 133 | 55 => 65 | 4 => 4 | 46 => 127 | 45 => 126 | 50 => 51 | 5 => 5 | 9 => 9 | 66 => 139 | 70 => 143 | 76 => 154 | 77 => 155 | n => n, fun | n => n⟩
theorem Tryd.sortE : Go.Proofs.SlLaysF0.n6 Tryd.prog Tryd.sortE_ren := {
  mixed := by kernel_rfl
  f6 := ⟨Tryd.f45.name, by decide, Tryd.func45.trans (congrArg some (by kernel_rfl))⟩
  f14 := ⟨Tryd.f71.name, by decide, Tryd.func71.trans (congrArg some (by kernel_rfl))⟩
  f15 := Tryd.func72.trans (congrArg some (by kernel_rfl))
  f20 := ⟨Tryd.f85.name, by decide, Tryd.func85.trans (congrArg some (by kernel_rfl))⟩
  f21 := ⟨Tryd.f86.name, by decide, Tryd.func86.trans (congrArg some (by kernel_rfl))⟩
  f22 := ⟨Tryd.f87.name, by decide, Tryd.func87.trans (congrArg some (by kernel_rfl))⟩
  f23 := ⟨Tryd.f88.name, by decide, Tryd.func88.trans (congrArg some (by kernel_rfl))⟩
  f24 := ⟨Tryd.f89.name, by decide, Tryd.func89.trans (congrArg some (by kernel_rfl))⟩
  f25 := ⟨Tryd.f90.name, by decide, Tryd.func90.trans (congrArg some (by kernel_rfl))⟩
  f26 := ⟨Tryd.f91.name, by decide, Tryd.func91.trans (congrArg some (by kernel_rfl))⟩
  f27 := ⟨Tryd.f92.name, by decide, Tryd.func92.trans (congrArg some (by kernel_rfl))⟩
  f28 := Tryd.func93.trans (congrArg some (by kernel_rfl))
  f29 := Tryd.func94.trans (congrArg some (by kernel_rfl))
  f46 := ⟨Tryd.f103.name, by decide, Tryd.func103.trans (congrArg some (by kernel_rfl))⟩
  f47 := Tryd.func104.trans (congrArg some (by kernel_rfl))
  f48 := Tryd.func105.trans (congrArg some (by kernel_rfl))
  f49 := ⟨Tryd.f106.name, by decide, Tryd.func106.trans (congrArg some (by kernel_rfl))⟩
  f50 := ⟨Tryd.f107.name, by decide, Tryd.func107.trans (congrArg some (by kernel_rfl))⟩
  f57 := ⟨Tryd.f117.name, by decide, Tryd.func117.trans (congrArg some (by kernel_rfl))⟩
  t0 := Tryd.underlying0
  a0 := Tryd.isAgg0
  z0 := Tryd.sizeOf0
  v0 := Tryd.zeroValue0
  t3 := Tryd.underlying3
  a3 := Tryd.isAgg3
  z3 := Tryd.sizeOf3
  v3 := Tryd.zeroValue3
  t4 := Tryd.underlying4
  a4 := Tryd.isAgg4
  z4 := Tryd.sizeOf4
  v4 := Tryd.zeroValue4
  t5 := Tryd.underlying5
  a5 := Tryd.isAgg5
  z5 := Tryd.sizeOf5
  v5 := Tryd.zeroValue5
  t9 := Tryd.underlying9
  a9 := Tryd.isAgg9
  z9 := Tryd.sizeOf9
  v9 := Tryd.zeroValue9
  t22 := Tryd.underlying27
  a22 := Tryd.isAgg27
  z22 := Tryd.sizeOf27
  v22 := Tryd.zeroValue27
  t25 := Tryd.underlying81
  a25 := Tryd.isAgg81
  z25 := Tryd.sizeOf81
  v25 := Tryd.zeroValue81
  t39 := Tryd.underlying108
  a39 := Tryd.isAgg108
  z39 := Tryd.sizeOf108
  v39 := Tryd.zeroValue108
  t45 := Tryd.underlying126
  a45 := Tryd.isAgg126
  z45 := Tryd.sizeOf126
  v45 := Tryd.zeroValue126
  t46 := Tryd.underlying127
  a46 := Tryd.isAgg127
  z46 := Tryd.sizeOf127
  v46 := Tryd.zeroValue127
  t50 := Tryd.underlying51
  a50 := Tryd.isAgg51
  z50 := Tryd.sizeOf51
  v50 := Tryd.zeroValue51
  t53 := Tryd.underlying133
  a53 := Tryd.isAgg133
  z53 := Tryd.sizeOf133
  v53 := Tryd.zeroValue133
  t55 := Tryd.underlying65
  a55 := Tryd.isAgg65
  z55 := Tryd.sizeOf65
  v55 := Tryd.zeroValue65
  t66 := Tryd.underlying139
  a66 := Tryd.isAgg139
  z66 := Tryd.sizeOf139
  v66 := Tryd.zeroValue139
  t70 := Tryd.underlying143
  a70 := Tryd.isAgg143
  z70 := Tryd.sizeOf143
  v70 := Tryd.zeroValue143
  t76 := Tryd.underlying154
  a76 := Tryd.isAgg154
  z76 := Tryd.sizeOf154
  v76 := Tryd.zeroValue154
  t77 := Tryd.underlying155
  a77 := Tryd.isAgg155
  z77 := Tryd.sizeOf155
  v77 := Tryd.zeroValue155 }
end Go.Proofs

namespace Go.Proofs.YtdocdppimpapiabDoor
open Go.RowKit Go.Sort

def cfE (x y : En) : Int := Lib.compareBytes x.1.data.toList y.1.data.toList
theorem ltE (x y : En) : ltOf cfE x y = lessB x.1 y.1 := by
  unfold ltOf cfE lessB
  rw [Lib.toList_data, Lib.toList_data]
  exact cmp_less _ _
theorem swoE : SWO (ltOf cfE) where
  irrefl x := by rw [ltE]; exact lessB_irr _
  trans x y z h k := by rw [ltE] at *; exact lessB_trans h k
  ntrans x y z h k := by rw [ltE] at *; exact lessB_not h k

set_option maxHeartbeats 800000 in
theorem addCmp_any (x y : En) (W : World) : Calls Tryd.prog 46 #[.agg #[.string x.1, .int .i64 x.2], .agg #[.string y.1, .int .i64 y.2]] W fun e w' => e = .returned (.int .i64 (cfE x y)) ∧ ∃ q os', w' = grow (W.drewN q) os' := by
  have hcon := fun W' => Tryd.strings_Compare x.1 y.1 W'
  obtain ⟨r, hr⟩ : ∃ r, cfE x y = r := ⟨_, rfl⟩
  have hr2 : Lib.compareBytes x.1.data.toList y.1.data.toList = r := hr
  rw [hr]
  rw [hr2] at hcon
  have HC := Lib.hid hcon
  clear hr hr2 hcon
  go_enter Tryd.func46, Tryd.ntmps46
  go_wp2_with (go_at_call 47; refine (HC.out _).mono ?_; rintro e w' ⟨rfl, rfl⟩)
  go_ret
  exact ⟨rfl, 0, _, by rw [alloc_eq_grow, alloc_eq_grow, grow_grow]; rfl⟩

theorem ahead_eq (w : World) (n : Nat) : ∀ k : Nat, (Go.Sort.ahead w n).heap[k]? = w.heap[k]? := fun _ => rfl
theorem put_other (w : World) (g : Nat) (F : Array Value) (k : Nat) (h : k ≠ g) : (putRow id w g 0 F).heap[k]? = w.heap[k]? := by
  unfold putRow mapBlock
  simp only [Array.getElem?_modify]
  rw [if_neg (fun e => h e.symm)]

theorem flat_get (l : List En) (i t : Nat) (x : En) (hx : l[i]? = some x) (u : Value) (hu : (eE x)[t]? = some u) : i * 2 + t < (flatK eE 2 l.toArray).size ∧ (flatK eE 2 l.toArray)[i * 2 + t]! = u := by
  have hi : i < l.length := by
    rcases Nat.lt_or_ge i l.length with h1 | h1
    · exact h1
    · rw [List.getElem?_eq_none h1] at hx; cases hx
  have ht : t < 2 := by
    rcases Nat.lt_or_ge t (eE x).length with h1 | h1
    · exact h1
    · rw [List.getElem?_eq_none h1] at hu; cases hu
  have hlt : i * 2 + t < l.toArray.size * 2 := by simp; omega
  refine ⟨by rw [size_flatK]; exact hlt, ?_⟩
  rw [get_flatK _ _ _ _ hlt, show (i * 2 + t) / 2 = i by omega, show (i * 2 + t) % 2 = t by omega]
  have h1 : l.toArray[i]! = x := by
    rw [getElem!_pos _ _ (by simpa using hi)]
    simp only [List.getElem_toArray]
    rw [List.getElem?_eq_getElem hi] at hx
    injection hx
  rw [h1, getElem!_pos _ _ (by rw [eE_len]; exact ht)]
  rw [List.getElem?_eq_getElem (by rw [eE_len]; exact ht)] at hu
  injection hu

set_option maxHeartbeats 800000 in
theorem sortE_any (base g n cap : Nat) (l : List En) (w : World) (h : Ow eE 2 47 base w (some ⟨g, 0, none⟩) n cap l) (hn : n ≤ 1048576) :
    Calls Tryd.prog 45 #[.slice (some ⟨g, 0, none⟩) n cap, .func (.func 46) #[] #[]] w fun e w' => e = .returned (.tuple #[]) ∧ ∃ l', l'.Perm l ∧ l'.Pairwise (fun a b => lessB b.1 a.1 = false) ∧ Sl eE 2 (fun k => k = g) w' (some ⟨g, 0, none⟩) n cap l' ∧ Mut g w w' := by
  have hS := h.sl eE_len
  have hlen := h.len
  have hlt := (h.lt g rfl).2
  have hH : HoldsK eE 2 w g 0 l.toArray := fun j hj => by
    rw [size_flatK] at hj
    have hj2 : j < l.length * 2 := by simpa using hj
    have hx : l[j / 2]? = some (l[j / 2]'(by omega)) := List.getElem?_eq_getElem _
    have hu : (eE (l[j / 2]'(by omega)))[j % 2]? = some ((eE (l[j / 2]'(by omega)))[j % 2]'(by rw [eE_len]; omega)) := List.getElem?_eq_getElem _
    have h1 := (flat_get l (j / 2) (j % 2) _ hx _ hu).2
    rw [show j / 2 * 2 + j % 2 = j by omega] at h1
    obtain ⟨b, off, ha, _, hc⟩ := hS.at_ _ _ hx
    simp only [Option.some.injEq, Addr.mk.injEq, and_true] at ha
    obtain ⟨rfl, rfl⟩ := ha
    have h2 := hc _ _ hu
    rw [show 0 + j / 2 * 2 + j % 2 = 0 + j by omega] at h2
    exact ⟨by rw [h2, h1]; rfl, h.free _⟩
  have eg : ∀ args w, (callFunc 46 args).run Tryd.prog w = .ok (.enter 46 args) w := enters_of Tryd.func46 (by kernel_rfl) rfl
  have hcon := AnyQ.slices_SortFunc Tryd.sortE 2 Tryd.isAgg47 Tryd.sizeOf47 eE (fun _ => rfl) eE_one cfE swoE 46 #[] g 0 cap l.toArray w eg (fun _ _ _ _ x y => addCmp_any x y _) hH hlt (by simp; omega)
  have hsz : l.toArray.size = n := by simp [hlen]
  rw [hsz] at hcon
  refine hcon.mono ?_
  rintro e w' ⟨rfl, d', m, os, ⟨hps, _, hpp⟩, hso, rfl⟩
  refine ⟨rfl, d'.toList, ?_, ?_, ?_, ?_⟩
  · have e1 : (d'.extract 0 n).toList = d'.toList := by rw [← hsz, ← hps]; simp
    have e2 : (l.toArray.extract 0 n).toList = l := by rw [← hsz]; simp
    rw [e1, e2] at hpp
    exact hpp
  · rw [List.pairwise_iff_getElem]
    intro i j hi hj hij
    have h1 := hso i j (Nat.zero_le _) hij (by rw [← hsz, ← hps]; simpa using hj)
    rw [ltE, getElem!_pos d' j (by simpa using hj), getElem!_pos d' i (by simpa using hi)] at h1
    simpa using h1
  · have hd : d'.size = n := by rw [hps, hsz]
    have hh := holdsK_grow eE 2 (putRowK eE 2 (Go.Sort.ahead w m) g 0 d') os g 0 d' (by unfold putRowK; rw [size_putRow]; exact hlt) (holdsK_putRowK eE 2 (Go.Sort.ahead w m) g 0 l.toArray d' hH hps)
    refine ⟨by rw [Array.length_toList, hd], hS.le, hS.mx, fun i x hx => ⟨g, 0, rfl, rfl, fun t u hu => ?_⟩⟩
    obtain ⟨h1, h2⟩ := flat_get d'.toList i t x hx u hu
    have h3 := (hh (i * 2 + t) h1).1
    rw [h2] at h3
    rw [show 0 + i * 2 + t = 0 + (i * 2 + t) by omega]
    exact h3
  · refine ⟨rfl, rfl, rfl, ?_, fun k hk hne => ?_⟩
    · show w.heap.size ≤ (sortWorldK eE 2 w g 0 m d' os).heap.size
      unfold sortWorldK grow putRowK
      simp only [Array.size_append, size_putRow]
      exact Nat.le_add_right _ _
    · have hkg : k ≠ g := fun e => hne (by rw [e])
      show (sortWorldK eE 2 w g 0 m d' os).heap[k]? = w.heap[k]?
      unfold sortWorldK grow putRowK
      simp only
      rw [Array.getElem?_append_left (by rw [size_putRow]; exact hk), put_other _ _ _ _ hkg]
      rfl
end Go.Proofs.YtdocdppimpapiabDoor

namespace Go.Proofs.YtdocdppimpapiabDoor
open Go.RowKit Go.Proofs.YtdocdppimpapiabDoorW.PrintWords

open PDirsGets in
theorem find_l0 (L : List En) (nm : ByteArray) (hL : L.length ≤ 1000) : ∀ (d k i : Nat), i + d = L.length → d < k → catenaryref29_Find.l0 k (L.map gR) nm (i : Int) = some (if posE nm (L.drop i) i < 0 then (0, false) else ((L.getD (posE nm (L.drop i) i).toNat (⟨#[]⟩, 0)).2, true)) := by
  intro d
  induction d with
  | zero =>
    intro k i hi hk
    obtain ⟨k, rfl⟩ : ∃ q, k = q + 1 := ⟨k - 1, by omega⟩
    simp only [catenaryref29_Find.l0, List.length_map]
    rw [if_neg (by omega), List.drop_eq_nil_of_le (by omega)]
    rfl
  | succ d ih =>
    intro k i hi hk
    obtain ⟨k, rfl⟩ : ∃ q, k = q + 1 := ⟨k - 1, by omega⟩
    have hx : L[i]? = some L[i] := List.getElem?_eq_getElem (by omega)
    have hr : rd_T45 (L.map gR) (i : Int) = gR L[i] := rd_at gR _ L i _ hx
    have e0 : ∀ e : En, (gR e).f0 = e.1 := fun _ => rfl
    have e1 : ∀ e : En, (gR e).f1 = e.2 := fun _ => rfl
    simp only [catenaryref29_Find.l0, List.length_map]
    rw [if_pos (by omega), if_pos (by omega), hr, e0, e1, posE_step hx]
    by_cases h : L[i].1.toList = nm.toList
    · rw [if_pos h, if_pos (show eqN L[i].1 nm = true from beq_iff_eq.2 h), if_neg (by omega), Int.toNat_natCast, List.getD_eq_getElem?_getD, hx]
      rfl
    · rw [if_neg h, if_neg (show ¬ eqN L[i].1 nm = true from fun x => h (beq_iff_eq.1 x)), wrap_succ (by omega)]
      exact ih k (i + 1) (by omega) (by omega)
open PDirsGets in
theorem find_f (L : List En) (nm : ByteArray) (hL : L.length ≤ 1000) (k : Nat) (hk : 1000 < k) : catenaryref29_Find.f k (L.map gR) nm = some (findE L nm) := by
  have := find_l0 L nm hL L.length k 0 (by omega) (by omega)
  exact this
theorem rfind_any (A : Option Addr) (n c : Nat) (l : List En) (nm : ByteArray) (Q : Nat → Prop) (w : World) (h : Sl eE 2 Q w A n c l) (hL : l.length ≤ 1000) :
    Calls Tryd.prog 25 #[.slice A n c, .string nm] w fun e w' => e = .returned (.tuple #[.int .i64 (findE l nm).1, .bool (findE l nm).2]) ∧ Drawn w w' := by
  have h1 := PDirsGets.catenaryref29_Find.calls 1001 A c (l.map gR) nm _ _ w (c_gR h) (by rw [List.length_map, ← h.len]; exact h.le) (find_f l nm hL 1001 (by omega))
  rw [List.length_map, ← h.len] at h1
  exact h1.mono fun _ _ r => ⟨r.1, Drawn0.drawn r.2⟩

/-- The entries but those of a name. -/
def butE (l : List En) (nm : ByteArray) : List En := l.filter fun e => !(eqN e.1 nm)
theorem butE_snoc {l : List En} {i : Nat} {e : En} (h : l[i]? = some e) (nm : ByteArray) : butE (l.take (i + 1)) nm = if eqN e.1 nm = true then butE (l.take i) nm else butE (l.take i) nm ++ [e] := by
  unfold butE
  rw [List.take_add_one, h, Option.toList_some, List.filter_append]
  cases hq : eqN e.1 nm
  · rw [if_neg (by decide)]; simp [hq]
  · rw [if_pos rfl]; simp [hq]
open PDirsGets in
theorem remove_l0 (L : List En) (nm : ByteArray) (hL : L.length ≤ 1000) : ∀ (d k i : Nat), i + d = L.length → d < k → catenaryref29_Remove.l0 k (L.map gR) nm ((butE (L.take i) nm).map gR) (i : Int) = some (if (butE L nm).length = L.length then ([], 13) else ((butE L nm).map gR, 0)) := by
  intro d
  induction d with
  | zero =>
    intro k i hi hk
    obtain ⟨k, rfl⟩ : ∃ q, k = q + 1 := ⟨k - 1, by omega⟩
    simp only [catenaryref29_Remove.l0, List.length_map]
    rw [if_neg (by omega), List.take_of_length_le (by omega)]
    by_cases h : (butE L nm).length = L.length
    · rw [if_pos h, if_pos (by omega)]
    · rw [if_neg h, if_neg (by omega)]
  | succ d ih =>
    intro k i hi hk
    obtain ⟨k, rfl⟩ : ∃ q, k = q + 1 := ⟨k - 1, by omega⟩
    have hx : L[i]? = some L[i] := List.getElem?_eq_getElem (by omega)
    have hr : rd_T45 (L.map gR) (i : Int) = gR L[i] := rd_at gR _ L i _ hx
    have e0 : ∀ e : En, (gR e).f0 = e.1 := fun _ => rfl
    have hle : (butE (L.take i) nm).length ≤ 1000 := by
      have h1 := List.length_filter_le (fun e : En => !(eqN e.1 nm)) (L.take i)
      rw [List.length_take] at h1
      unfold butE; omega
    have ih2 := ih k (i + 1) (by omega) (by omega)
    rw [butE_snoc hx] at ih2
    simp only [catenaryref29_Remove.l0, List.length_map]
    rw [if_pos (by omega), if_pos (by omega), hr, e0, wrap_succ (by omega)]
    by_cases h : L[i].1.toList = nm.toList
    · rw [if_pos h]
      rw [if_pos (show eqN L[i].1 nm = true from beq_iff_eq.2 h)] at ih2
      exact ih2
    · rw [if_neg h, if_pos (by omega)]
      rw [if_neg (show ¬ eqN L[i].1 nm = true from fun x => h (beq_iff_eq.1 x)), List.map_append] at ih2
      exact ih2
/-- The reference's Remove. -/
def removeR (l : List En) (nm : ByteArray) : List En × Int := if checkE l ≠ 0 then ([], checkE l) else if (butE l nm).length = l.length then ([], 13) else (butE l nm, 0)
open PDirsGets in
theorem remove_f (L : List En) (nm : ByteArray) (hL : L.length ≤ 1000) (k : Nat) (hk : 1100 < k) : catenaryref29_Remove.f k (L.map gR) nm = some ((removeR L nm).1.map gR, (removeR L nm).2) := by
  unfold catenaryref29_Remove.f removeR
  rw [check_f L k (by omega)]
  simp only [Option.bind_some]
  by_cases hc : checkE L = 0
  · rw [if_pos hc, if_neg (by rw [hc]; decide)]
    have := remove_l0 L nm hL L.length k 0 (by omega) (by omega)
    exact this.trans (by split <;> rfl)
  · rw [if_neg hc, if_pos hc]; rfl
theorem rremove_any (A : Option Addr) (n c : Nat) (l : List En) (nm : ByteArray) (Q : Nat → Prop) (w : World) (h : Sl eE 2 Q w A n c l) (hL : l.length ≤ 1000) :
    Calls Tryd.prog 23 #[.slice A n c, .string nm] w fun e w' => ∃ A' n' c', e = .returned (.tuple #[.slice A' n' c', .int .i64 (removeR l nm).2]) ∧ Sl eE 2 (fun _ => True) w' A' n' c' (removeR l nm).1 ∧ Ext w w' := by
  have h1 := PDirsGets.catenaryref29_Remove.calls 1101 A c (l.map gR) nm _ _ w (c_gR h) (by rw [List.length_map, ← h.len]; exact h.le) (remove_f l nm hL 1101 (by omega))
  rw [List.length_map, ← h.len] at h1
  refine h1.mono fun e w' ⟨v, he, hR, hb⟩ => ?_
  obtain ⟨A', n', c', rfl, hS⟩ := sl_of_R _ gR rfl eE_len (by decide) (fun w x cs hc => PDirsGets.k45_open hc) hR
  exact ⟨A', n', c', he, hS, ⟨hb⟩⟩

/-- One more, ahead of the first that is not before it. -/
def insE (e : En) : List En → List En
  | [] => [e]
  | x :: l => if lessB x.1 e.1 = true then x :: insE e l else e :: x :: l
theorem insE_drop (e : En) {l : List En} {i : Nat} {x : En} (h : l[i]? = some x) : insE e (l.drop i) = if lessB x.1 e.1 = true then x :: insE e (l.drop (i + 1)) else e :: l.drop i := by
  have hk : i < l.length := by
    rcases Nat.lt_or_ge i l.length with h1 | h1
    · exact h1
    · rw [List.getElem?_eq_none h1] at h; cases h
  have h2 : l[i] = x := by rw [List.getElem?_eq_getElem hk] at h; injection h
  rw [List.drop_eq_getElem_cons hk, h2]
  rfl
open PDirsGets in
theorem add_l0 (L : List En) (e : En) (hL : L.length ≤ 1000) : ∀ (d k i : Nat), i + d = L.length → d < k → catenaryref29_Add.l0 k (L.map gR) ((L.take i).map gR) (i : Int) e.1 e.2 = some ((L.take i ++ insE e (L.drop i)).map gR, 0) := by
  intro d
  induction d with
  | zero =>
    intro k i hi hk
    obtain ⟨k, rfl⟩ : ∃ q, k = q + 1 := ⟨k - 1, by omega⟩
    simp only [catenaryref29_Add.l0, List.length_map, Option.bind_some]
    rw [if_neg (by omega), if_pos (by rw [List.length_take]; omega), if_pos (by omega), if_pos (by omega), if_pos (by rw [List.length_append, List.length_map, List.length_take, List.length_drop, List.length_map, List.length_singleton]; omega)]
    rw [Int.toNat_natCast, List.drop_eq_nil_of_le (by rw [List.length_map]; omega), List.drop_eq_nil_of_le (by omega), List.append_nil, List.map_append]
    rfl
  | succ d ih =>
    intro k i hi hk
    obtain ⟨k, rfl⟩ : ∃ q, k = q + 1 := ⟨k - 1, by omega⟩
    have hx : L[i]? = some L[i] := List.getElem?_eq_getElem (by omega)
    have hr : rd_T45 (L.map gR) (i : Int) = gR L[i] := rd_at gR _ L i _ hx
    have e0 : ∀ e : En, (gR e).f0 = e.1 := fun _ => rfl
    have ih2 := ih k (i + 1) (by omega) (by omega)
    simp only [catenaryref29_Add.l0, List.length_map, Option.bind_some]
    rw [if_pos (by omega), if_pos (by omega), hr, e0, wrap_succ (by omega), insE_drop e hx]
    by_cases h : lessB L[i].1 e.1 = true
    · rw [if_pos (show Op.bytesLess L[i].1.toList e.1.toList = true from h), if_pos (by rw [List.length_take]; omega), if_pos h]
      rw [List.take_add_one, hx, List.map_append] at ih2
      refine Eq.trans (Eq.trans ?_ ih2) ?_
      · rfl
      · rw [Option.toList_some, List.append_assoc]; rfl
    · rw [if_neg (show ¬ Op.bytesLess L[i].1.toList e.1.toList = true from h), if_pos (by rw [List.length_take]; omega), if_pos (by omega), if_pos (by rw [List.length_append, List.length_map, List.length_take, List.length_drop, List.length_map, List.length_singleton]; omega), if_neg h, Int.toNat_natCast, ← List.map_drop, List.map_append, List.append_assoc]
      rfl
/-- The reference's Add. -/
def addR (l : List En) (e : En) : List En × Int :=
  if checkE l ≠ 0 then ([], checkE l) else if nameB e.1 = false then ([], 18) else if nodeB e.2 = false then ([], 4) else if (findE l e.1).2 = true then ([], 8) else if l.length = 32 then ([], 17) else (insE e l, 0)
open PDirsGets in
theorem add_f (L : List En) (e : En) (hL : L.length ≤ 1000) (k : Nat) (hk : 1100 < k) : catenaryref29_Add.f k (L.map gR) e.1 e.2 = some ((addR L e).1.map gR, (addR L e).2) := by
  obtain ⟨k, rfl⟩ : ∃ q, k = q + 1 := ⟨k - 1, by omega⟩
  unfold catenaryref29_Add.f addR
  rw [check_f L (k + 1) (by omega), name_f e.1 (k + 1) (by omega)]
  simp only [Option.bind_some]
  by_cases hc : checkE L = 0
  · rw [if_pos hc, if_neg (show ¬ checkE L ≠ 0 by rw [hc]; decide)]
    cases hn : nameB e.1
    · rw [if_neg (show ¬ false = true by decide), if_pos rfl]; rfl
    · rw [if_pos rfl, if_neg (show ¬ true = false by decide)]
      have hj : ∀ b : Bool, b = !(nodeB e.2) → catenaryref29_Add.j0 (k + 1) (L.map gR) b e.1 e.2 = some ((if nodeB e.2 = false then (([] : List En), (4 : Int)) else if (findE L e.1).2 = true then ([], 8) else if L.length = 32 then ([], 17) else (insE e L, 0)).1.map gR, (if nodeB e.2 = false then (([] : List En), (4 : Int)) else if (findE L e.1).2 = true then ([], 8) else if L.length = 32 then ([], 17) else (insE e L, 0)).2) := fun b hb => by
        simp only [catenaryref29_Add.j0, List.length_map]
        cases hv : nodeB e.2
        · rw [hv] at hb; subst hb
          rw [if_pos (show (!false) = true by decide), if_pos rfl]; rfl
        · rw [hv] at hb; subst hb
          rw [if_neg (show ¬ (!true) = true by decide), if_neg (show ¬ true = false by decide), find_f L e.1 hL k (by omega)]
          simp only [Option.bind_some]
          by_cases hf : (findE L e.1).2 = true
          · rw [if_pos hf, if_pos hf]; rfl
          · rw [if_neg hf, if_neg hf]
            by_cases h32 : L.length = 32
            · rw [if_pos (by omega), if_pos h32]; rfl
            · rw [if_neg (by omega), if_neg h32]
              have := add_l0 L e hL L.length k 0 (by omega) (by omega)
              exact this
      by_cases h1 : e.2 < 1
      · rw [if_pos h1]
        exact hj true (by unfold nodeB; rw [decide_eq_false (show ¬ 1 ≤ e.2 by omega)]; rfl)
      · rw [if_neg h1]
        refine hj _ ?_
        unfold nodeB
        rw [decide_eq_true (show 1 ≤ e.2 by omega), Bool.true_and, Bool.eq_iff_iff]
        simp
  · rw [if_neg hc, if_pos hc]; rfl
theorem radd_any (A : Option Addr) (n c : Nat) (l : List En) (s : ByteArray) (v : Int) (Q : Nat → Prop) (w : World) (h : Sl eE 2 Q w A n c l) (hL : l.length ≤ 1000) :
    Calls Tryd.prog 21 #[.slice A n c, .agg #[.string s, .int .i64 v]] w fun e w' => ∃ A' n' c', e = .returned (.tuple #[.slice A' n' c', .int .i64 (addR l (s, v)).2]) ∧ Sl eE 2 (fun _ => True) w' A' n' c' (addR l (s, v)).1 ∧ Ext w w' := by
  have h1 := PDirsGets.catenaryref29_Add.calls 1101 A c (l.map gR) s v _ _ w (c_gR h) (by rw [List.length_map, ← h.len]; exact h.le) (add_f l (s, v) hL 1101 (by omega))
  rw [List.length_map, ← h.len] at h1
  refine h1.mono fun e w' ⟨u, he, hR, hb⟩ => ?_
  obtain ⟨A', n', c', rfl, hS⟩ := sl_of_R _ gR rfl eE_len (by decide) (fun w x cs hc => PDirsGets.k45_open hc) hR
  exact ⟨A', n', c', he, hS, ⟨hb⟩⟩
end Go.Proofs.YtdocdppimpapiabDoor

namespace Go.Proofs.YtdocdppimpapiabDoor
open Go.RowKit

theorem insE_perm (e : En) : ∀ l : List En, (insE e l).Perm (l ++ [e])
  | [] => List.Perm.refl _
  | x :: l => by
    unfold insE
    split
    · exact List.Perm.cons x (insE_perm e l)
    · have h : (e :: x :: l).Perm ((x :: l) ++ [e]) := (List.perm_append_comm (l₁ := [e]) (l₂ := x :: l))
      exact h
theorem insE_mem {e x : En} {l : List En} : x ∈ insE e l ↔ x = e ∨ x ∈ l := by
  rw [(insE_perm e l).mem_iff, List.mem_append, List.mem_singleton]
  exact or_comm
theorem insE_rising (e : En) : ∀ l : List En, Rising l → (∀ x ∈ l, x.1 ≠ e.1) → Rising (insE e l)
  | [], _, _ => List.pairwise_cons.2 ⟨(fun x hx => by cases hx), List.Pairwise.nil⟩
  | x :: l, h, hne => by
    have hr := List.pairwise_cons.1 h
    unfold insE
    by_cases hl : lessB x.1 e.1 = true
    · rw [if_pos hl]
      refine List.pairwise_cons.2 ⟨fun y hy => ?_, insE_rising e l hr.2 fun y hy => hne y (List.mem_cons_of_mem _ hy)⟩
      rcases insE_mem.1 hy with rfl | hy
      · exact hl
      · exact hr.1 y hy
    · rw [if_neg hl]
      have hlt : lessB e.1 x.1 = true := by
        rcases lessB_tri x.1 e.1 with h1 | h1 | h1
        · exact absurd h1 hl
        · exact absurd h1 (hne x List.mem_cons_self)
        · exact h1
      refine List.pairwise_cons.2 ⟨fun y hy => ?_, h⟩
      rcases List.mem_cons.1 hy with rfl | hy
      · exact hlt
      · exact lessB_trans hlt (hr.1 y hy)
/-- What the sorting leaves is the reference's entries. -/
theorem sorted_is {l l' : List En} {e : En} (hc : checkE l = 0) (hn : ∀ x ∈ l, x.1 ≠ e.1) (hp : l'.Perm (l ++ [e])) (hs : l'.Pairwise fun a b => lessB b.1 a.1 = false) : l' = insE e l :=
  rising_eq (insE_rising e l (checkE_rising hc) hn) hs (hp.trans (insE_perm e l).symm)

theorem ext_base {a b c : World} (h : Ext a b) (_ : Ext b c) : a.heap.size ≤ b.heap.size := h.size
set_option maxHeartbeats 6400000 in
set_option maxRecDepth 100000 in
theorem dadd_any (A : Option Addr) (n c : Nat) (l : List En) (s : ByteArray) (v : Int) (Q : Nat → Prop) (w : World) (h : Sl eE 2 Q w A n c l) (hn : n ≤ 1048576) :
    Calls Tryd.prog 20 #[.slice A n c, .agg #[.string s, .int .i64 v]] w (RetEn (addR l (s, v)) w) := by
  obtain ⟨r, hr⟩ : ∃ r, addR l (s, v) = r := ⟨_, rfl⟩
  have HR := Lib.hid hr
  have H := Lib.hid h
  have HN := Lib.hid hn
  rw [hr]
  clear hr h hn
  obtain ⟨ce, hce⟩ : ∃ ce, checkE l = ce := ⟨_, rfl⟩
  have HCE := Lib.hid hce
  have hb0 := heap_alloc_new w (.cells #[.string s, .int .i64 v] 47)
  have HB0 := Lib.hid hb0
  have hX0 := (Ext.refl w).alloc (.cells #[.string s, .int .i64 v] 47)
  have HX0 := Lib.hid hX0
  clear hb0 hX0
  by_cases hc0 : ce = 0
  · subst hc0
    cases hnm : nameB s
    · have HF := Lib.hid (show r = ([], 18) by rw [← HR.out]; unfold addR; rw [hce, if_neg (by decide), if_pos hnm])
      have HNM := Lib.hid hnm
      clear hce hnm
      go_enter Tryd.func20, Tryd.ntmps20
      go_wp2_with fail
      refine (dcheck_any _ _ _ _ _ _ (H.out.ext HX0.out)).mono ?_
      rw [HCE.out]
      rintro e w1 ⟨rfl, h1⟩
      have b1 := h1.heap HB0.out
      have x0 := cell_of_heap b1 0; have x1 := cell_of_heap b1 1; simp only [List.getElem?_toArray, List.getElem?_cons_zero, List.getElem?_cons_succ] at x0 x1
      have X1 := Lib.hid (HX0.out.trans h1)
      clear h1 b1
      go_wp2_with fail
      refine (name_any _ _).mono ?_
      rw [HNM.out]
      rintro e w2 ⟨rfl, h2⟩
      replace h2 := Lib.hid h2
      go_wp2
      go_ret2
      rw [HF.out]
      exact ⟨none, 0, 0, rfl, Sl.nil _ _ none 0 (Nat.zero_le _), X1.out.trans h2.out⟩
    · cases hnd : nodeB v
      · have HF := Lib.hid (show r = ([], 4) by rw [← HR.out]; unfold addR; rw [hce, if_neg (by decide), if_neg (by rw [hnm]; decide), if_pos hnd])
        have HNM := Lib.hid hnm
        have HND := Lib.hid hnd
        clear hce hnm hnd
        go_enter Tryd.func20, Tryd.ntmps20
        go_wp2_with fail
        refine (dcheck_any _ _ _ _ _ _ (H.out.ext HX0.out)).mono ?_
        rw [HCE.out]
        rintro e w1 ⟨rfl, h1⟩
        have b1 := h1.heap HB0.out
        have x0 := cell_of_heap b1 0; have x1 := cell_of_heap b1 1; simp only [List.getElem?_toArray, List.getElem?_cons_zero, List.getElem?_cons_succ] at x0 x1
        have X1 := Lib.hid (HX0.out.trans h1)
        have B1 := Lib.hid b1
        clear h1 b1
        go_wp2_with fail
        refine (name_any _ _).mono ?_
        rw [HNM.out]
        rintro e w2 ⟨rfl, h2⟩
        have b2 := h2.heap B1.out
        have y0 := cell_of_heap b2 0; have y1 := cell_of_heap b2 1; simp only [List.getElem?_toArray, List.getElem?_cons_zero, List.getElem?_cons_succ] at y0 y1
        replace h2 := Lib.hid h2
        clear b2
        go_wp2_with fail
        refine (node_any _ _).mono ?_
        rw [HND.out]
        rintro e w3 ⟨rfl, rfl⟩
        go_wp2
        go_ret2
        rw [HF.out]
        exact ⟨none, 0, 0, rfl, Sl.nil _ _ none 0 (Nat.zero_le _), X1.out.trans h2.out⟩
      · have HNM := Lib.hid hnm
        have HND := Lib.hid hnd
        have hcs := posE_cases s l 0
        obtain ⟨ps, hps⟩ : ∃ ps, posE s l 0 = ps := ⟨_, rfl⟩
        have HPS := Lib.hid hps
        have HCS := Lib.hid hcs
        have hff : (findE l s).2 = !(decide (ps < 0)) := by
          unfold findE
          rw [hps]
          by_cases h0 : ps < 0
          · rw [if_pos h0, decide_eq_true h0]; rfl
          · rw [if_neg h0, decide_eq_false h0]; rfl
        have HFF := Lib.hid hff
        clear hcs hps hff
        by_cases hp0 : 0 ≤ ps
        · have HF := Lib.hid (show r = ([], 8) by rw [← HR.out]; unfold addR; rw [hce, if_neg (by decide), if_neg (by rw [hnm]; decide), if_neg (by rw [hnd]; decide), if_pos (by rw [HFF.out, decide_eq_false (by omega)]; rfl)])
          clear hce hnm hnd
          go_enter Tryd.func20, Tryd.ntmps20
          go_wp2_with fail
          refine (dcheck_any _ _ _ _ _ _ (H.out.ext HX0.out)).mono ?_
          rw [HCE.out]
          rintro e w1 ⟨rfl, h1⟩
          have b1 := h1.heap HB0.out
          have x0 := cell_of_heap b1 0; have x1 := cell_of_heap b1 1; simp only [List.getElem?_toArray, List.getElem?_cons_zero, List.getElem?_cons_succ] at x0 x1
          have X1 := Lib.hid (HX0.out.trans h1)
          have B1 := Lib.hid b1
          clear h1 b1
          go_wp2_with fail
          refine (name_any _ _).mono ?_
          rw [HNM.out]
          rintro e w2 ⟨rfl, h2⟩
          have b2 := h2.heap B1.out
          have y0 := cell_of_heap b2 0; have y1 := cell_of_heap b2 1; simp only [List.getElem?_toArray, List.getElem?_cons_zero, List.getElem?_cons_succ] at y0 y1
          have X2 := Lib.hid (X1.out.trans h2)
          clear b2 h2
          go_wp2_with fail
          refine (node_any _ _).mono ?_
          rw [HND.out]
          rintro e w3 ⟨rfl, rfl⟩
          go_wp2_with fail
          refine (at_any _ _ _ _ _ _ _ (H.out.ext X2.out) HN.out).mono ?_
          rw [HPS.out]
          rintro e w4 ⟨rfl, h4⟩
          replace h4 := Lib.hid h4
          go_wp2
          go_ret2
          rw [HF.out]
          exact ⟨none, 0, 0, rfl, Sl.nil _ _ none 0 (Nat.zero_le _), X2.out.trans h4.out⟩
        · by_cases h32 : n = 32
          · have HF := Lib.hid (show r = ([], 17) by rw [← HR.out]; unfold addR; rw [hce, if_neg (by decide), if_neg (by rw [hnm]; decide), if_neg (by rw [hnd]; decide), if_neg (by rw [HFF.out, decide_eq_true (by omega)]; decide), if_pos (by rw [← H.out.len]; exact h32)])
            have g32 : decide ((32 : Int) ≤ (n : Int)) = true := decide_eq_true (by omega)
            clear hce hnm hnd h32
            go_enter Tryd.func20, Tryd.ntmps20
            go_wp2_with fail
            refine (dcheck_any _ _ _ _ _ _ (H.out.ext HX0.out)).mono ?_
            rw [HCE.out]
            rintro e w1 ⟨rfl, h1⟩
            have b1 := h1.heap HB0.out
            have x0 := cell_of_heap b1 0; have x1 := cell_of_heap b1 1; simp only [List.getElem?_toArray, List.getElem?_cons_zero, List.getElem?_cons_succ] at x0 x1
            have X1 := Lib.hid (HX0.out.trans h1)
            have B1 := Lib.hid b1
            clear h1 b1
            go_wp2_with fail
            refine (name_any _ _).mono ?_
            rw [HNM.out]
            rintro e w2 ⟨rfl, h2⟩
            have b2 := h2.heap B1.out
            have y0 := cell_of_heap b2 0; have y1 := cell_of_heap b2 1; simp only [List.getElem?_toArray, List.getElem?_cons_zero, List.getElem?_cons_succ] at y0 y1
            have X2 := Lib.hid (X1.out.trans h2)
            clear b2 h2
            go_wp2_with fail
            refine (node_any _ _).mono ?_
            rw [HND.out]
            rintro e w3 ⟨rfl, rfl⟩
            go_wp2_with fail
            refine (at_any _ _ _ _ _ _ _ (H.out.ext X2.out) HN.out).mono ?_
            rw [HPS.out]
            rintro e w4 ⟨rfl, h4⟩
            replace h4 := Lib.hid h4
            go_wp2
            go_ret2
            rw [HF.out]
            exact ⟨none, 0, 0, rfl, Sl.nil _ _ none 0 (Nat.zero_le _), X2.out.trans h4.out⟩
          · have HF := Lib.hid (show r = (insE (s, v) l, 0) by rw [← HR.out]; unfold addR; rw [hce, if_neg (by decide), if_neg (by rw [hnm]; decide), if_neg (by rw [hnd]; decide), if_neg (by rw [HFF.out, decide_eq_true (by omega)]; decide), if_neg (by rw [← H.out.len]; exact h32)])
            have hl32 := (checkE_ok HCE.out).1
            have hn31 : n ≤ 31 := by have := H.out.len; omega
            have g32 : decide ((32 : Int) ≤ (n : Int)) = false := decide_eq_false (by omega)
            have hne : ∀ x ∈ l, x.1 ≠ s := by
              rcases HCS.out with ⟨_, h2⟩ | ⟨i, e, h1, _⟩
              · exact h2
              · have := HPS.out; omega
            have HNE := Lib.hid hne
            have HL := Lib.hid (show l.length = n from H.out.len.symm)
            clear hce hnm hnd h32 hl32 hne
            go_enter Tryd.func20, Tryd.ntmps20
            go_wp2_with fail
            refine (dcheck_any _ _ _ _ _ _ (H.out.ext HX0.out)).mono ?_
            rw [HCE.out]
            rintro e w1 ⟨rfl, h1⟩
            have b1 := h1.heap HB0.out
            have x0 := cell_of_heap b1 0; have x1 := cell_of_heap b1 1; simp only [List.getElem?_toArray, List.getElem?_cons_zero, List.getElem?_cons_succ] at x0 x1
            have X1 := Lib.hid (HX0.out.trans h1)
            have B1 := Lib.hid b1
            clear h1 b1
            go_wp2_with fail
            refine (name_any _ _).mono ?_
            rw [HNM.out]
            rintro e w2 ⟨rfl, h2⟩
            have b2 := h2.heap B1.out
            have y0 := cell_of_heap b2 0; have y1 := cell_of_heap b2 1; simp only [List.getElem?_toArray, List.getElem?_cons_zero, List.getElem?_cons_succ] at y0 y1
            have X2 := Lib.hid (X1.out.trans h2)
            have B2 := Lib.hid b2
            clear b2 h2
            go_wp2_with fail
            refine (node_any _ _).mono ?_
            rw [HND.out]
            rintro e w3 ⟨rfl, rfl⟩
            go_wp2_with fail
            refine (at_any _ _ _ _ _ _ _ (H.out.ext X2.out) HN.out).mono ?_
            rw [HPS.out]
            rintro e w4 ⟨rfl, h4⟩
            have b4 := h4.heap B2.out
            have z0 := cell_of_heap b4 0; have z1 := cell_of_heap b4 1; simp only [List.getElem?_toArray, List.getElem?_cons_zero, List.getElem?_cons_succ] at z0 z1
            have X4 := Lib.hid (X2.out.trans h4)
            have B4 := Lib.hid b4
            clear b4 h4
            go_wp2
            have hlen5 : l.length ≤ 1048576 := by rw [HL.out]; omega
            have HLEN5 := Lib.hid hlen5
            clear hlen5
            have hX4 := X4.out
            go_region_law (first
              | (go_simp; go_at_call 44; go_must (refine (cloneE_any _ _ _ _ _ _ (H.out.ext (by (repeat (first | exact Ext.refl _ | assumption | refine Ext.alloc ?_ _ | refine Ext.drew ?_ | refine Ext.drewN ?_ _ | refine Ext.setCell ?_ (by simp) _ | (refine Ext.trans ?_ (by assumption)))))) HLEN5.out).mono ?_); rintro e w5 ⟨A5, n5, c5, rfl, ho5, h5⟩; have X5 := Lib.hid (Ext.trans (a := w) (by (repeat (first | exact Ext.refl _ | assumption | refine Ext.alloc ?_ _ | refine Ext.drew ?_ | refine Ext.drewN ?_ _ | refine Ext.setCell ?_ (by simp) _ | (refine Ext.trans ?_ (by assumption))))) h5); have E45 : Ext w4 w5 := Ext.trans (by (repeat (first | exact Ext.refl _ | assumption | refine Ext.alloc ?_ _ | refine Ext.drew ?_ | refine Ext.drewN ?_ _ | refine Ext.setCell ?_ (by simp) _ | (refine Ext.trans ?_ (by assumption))))) h5; have b5 := E45.heap B4.out; have q0 := cell_of_heap b5 0; have q1 := cell_of_heap b5 1; simp only [List.getElem?_toArray, List.getElem?_cons_zero, List.getElem?_cons_succ] at q0 q1; (try (have hsl := (Sl.laid eE_len w4 [(s, v)] #[.string s, .int .i64 v] 47 1 rfl rfl (by decide)).ext (((Ext.refl _).drew).trans h5); replace hsl := Lib.hid hsl)); replace ho5 := Lib.hid ho5; have hz5 := Lib.hid h5.size; have hy5 := Lib.hid (ext_base (a := w) (by (repeat (first | exact Ext.refl _ | assumption | refine Ext.alloc ?_ _ | refine Ext.drew ?_ | refine Ext.drewN ?_ _ | refine Ext.setCell ?_ (by simp) _ | (refine Ext.trans ?_ (by assumption))))) h5); clear b5 h5 E45)
              | (refine step_app _ rfl _ _ 27 rfl info_en Tryd.underlying27 rfl (by decide) eE_len eE_one (ho5.out.ext ((Ext.refl w5).alloc _)) rfl (Sl.laid eE_len w5 [(s, v)] #[.string s, .int .i64 v] 47 1 rfl rfl (by decide)) rfl (by rw [HL.out, List.length_singleton]; omega) (by rw [HL.out, List.length_singleton]; omega) (Nat.le_trans hz5.out ((Ext.refl w5).alloc _).size) ?_; intro A6 n6 c6 w6 ho6 hg6 _ hnn; replace ho6 := Lib.hid ho6; replace hg6 := Lib.hid hg6; replace hnn := Lib.hid hnn)
              | (go_must (refine step_app _ rfl _ _ 27 rfl info_en Tryd.underlying27 rfl (by decide) eE_len eE_one ho5.out rfl hsl.out rfl (by rw [HL.out, List.length_singleton]; omega) (by rw [HL.out, List.length_singleton]; omega) hz5.out ?_); intro A6 n6 c6 w6 ho6 hg6 _ hnn; replace ho6 := Lib.hid ho6; replace hg6 := Lib.hid hg6; replace hnn := Lib.hid hnn))
            all_goals (
              have hrow : ∀ k, (Value.slice A5 n5 c5).ownBlock = some k → w.heap.size ≤ k := fun k hk => Nat.le_trans hy5.out (ho5.out.lt k hk).1
              have hE6 : Ext w w6 := by first | exact (X5.out.alloc _).grown hg6.out hrow | exact X5.out.grown hg6.out hrow
              obtain ⟨g, rfl⟩ := hnn.out (by simp)
              have hgb := Nat.le_trans hy5.out (ho6.out.lt g rfl).1
              have HE6 := Lib.hid hE6
              have HGB := Lib.hid hgb
              have hl6 := ho6.out.len
              have hn6 : n6 ≤ 1048576 := by rw [hl6, List.length_append, HL.out, List.length_singleton]; omega
              have HSO := Lib.hid (sortE_any _ g n6 c6 (l ++ [(s, v)]) w6 ho6.out hn6)
              clear hrow hE6 hgb hl6 hn6)
            all_goals go_wp2_with (go_at_call 45; refine HSO.out.mono ?_; rintro e w7 ⟨rfl, l', hp7, hs7, hS7, hM7⟩; replace hp7 := Lib.hid hp7; replace hs7 := Lib.hid hs7; replace hS7 := Lib.hid hS7; replace hM7 := Lib.hid hM7)
            all_goals (
              go_ret2
              rw [HF.out]
              have hl7 := sorted_is HCE.out HNE.out hp7.out hs7.out
              exact ⟨_, _, _, rfl, by rw [← hl7]; exact hS7.out.mono fun k hk => by subst hk; exact HGB.out, Mut.ext HE6.out hM7.out HGB.out⟩)
  · have HF := Lib.hid (show r = ([], ce) by rw [← HR.out]; unfold addR; rw [hce, if_pos hc0])
    have hcb : (ce != 0) = true := by simpa using hc0
    clear hce hc0
    go_enter Tryd.func20, Tryd.ntmps20
    go_wp2_with fail
    refine (dcheck_any _ _ _ _ _ _ (H.out.ext HX0.out)).mono ?_
    rw [HCE.out]
    rintro e w1 ⟨rfl, h1⟩
    replace h1 := Lib.hid h1
    go_wp2
    go_ret2
    rw [HF.out]
    exact ⟨none, 0, 0, rfl, Sl.nil _ _ none 0 (Nat.zero_le _), HX0.out.trans h1.out⟩
end Go.Proofs.YtdocdppimpapiabDoor

namespace Go.Proofs.YtdocdppimpapiabDoor
open Go.RowKit Go.Proofs.YtdocdppimpapiabDoorW.PrintWords

theorem butE_all {l : List En} {nm : ByteArray} (h : ∀ e ∈ l, e.1 ≠ nm) : butE l nm = l := by
  unfold butE
  rw [List.filter_eq_self]
  intro e he
  cases hq : eqN e.1 nm
  · rfl
  · exact absurd (eqN_iff.1 hq) (h e he)
theorem butE_erase : ∀ {l : List En} {nm : ByteArray} {i : Nat} {e : En}, Rising l → l[i]? = some e → e.1 = nm → butE l nm = l.eraseIdx i
  | [], _, i, _, _, h, _ => by simp at h
  | x :: l, nm, 0, e, hr, h, hn => by
    simp only [List.getElem?_cons_zero, Option.some.injEq] at h
    subst h
    have hr' := List.pairwise_cons.1 hr
    have h1 : eqN x.1 nm = true := eqN_iff.2 hn
    have h2 : butE l nm = l := butE_all fun y hy hy2 => by
      have := hr'.1 y hy
      rw [hy2, hn, lessB_irr] at this; cases this
    unfold butE at h2 ⊢
    rw [List.filter_cons, h1]
    simp only [Bool.not_true, List.eraseIdx_cons_zero]
    exact h2
  | x :: l, nm, i + 1, e, hr, h, hn => by
    rw [List.getElem?_cons_succ] at h
    have hr' := List.pairwise_cons.1 hr
    have ih := butE_erase hr'.2 h hn
    have h1 : eqN x.1 nm = false := by
      cases hq : eqN x.1 nm
      · rfl
      · have := hr'.1 e (List.mem_of_getElem? h)
        rw [eqN_iff.1 hq, hn, lessB_irr] at this; cases this
    unfold butE at ih ⊢
    rw [List.filter_cons, h1, List.eraseIdx_cons_succ, ← ih]
    rfl
theorem removeE_eq (l : List En) (nm : ByteArray) : removeE l nm = removeR l nm := by
  unfold removeE removeR
  by_cases hc : checkE l = 0
  · rw [if_neg (show ¬ checkE l ≠ 0 by rw [hc]; decide), if_neg (show ¬ checkE l ≠ 0 by rw [hc]; decide)]
    rcases posE_cases nm l 0 with ⟨hp, hn⟩ | ⟨i, e, hp, hi, hn, _⟩
    · rw [hp, if_pos (by decide), if_pos (by rw [butE_all hn])]
    · rw [Nat.zero_add] at hp
      have hb := butE_erase (checkE_rising hc) hi hn
      have hil : i < l.length := by
        rcases Nat.lt_or_ge i l.length with h1 | h1
        · exact h1
        · rw [List.getElem?_eq_none h1] at hi; cases hi
      rw [hp, if_neg (by omega), hb, if_neg (by rw [List.length_eraseIdx, if_pos hil]; omega), Int.toNat_natCast]
  · rw [if_pos hc, if_pos hc]
theorem butE_ins (e : En) : ∀ {l : List En}, (∀ x ∈ l, x.1 ≠ e.1) → butE (insE e l) e.1 = l
  | [], _ => by
    unfold insE butE
    rw [List.filter_cons, eqN_iff.2 rfl]; rfl
  | x :: l, h => by
    have hx : eqN x.1 e.1 = false := by
      cases hq : eqN x.1 e.1
      · rfl
      · exact absurd (eqN_iff.1 hq) (h x List.mem_cons_self)
    have ih := butE_ins e (l := l) fun y hy => h y (List.mem_cons_of_mem _ hy)
    unfold insE
    split
    · unfold butE at ih ⊢
      rw [List.filter_cons, hx]
      simp only [Bool.not_false, if_true]
      rw [ih]
    · have := butE_all h
      unfold butE at this ⊢
      rw [List.filter_cons, eqN_iff.2 rfl]
      exact this
theorem addR_ok {l : List En} {e : En} (h : (addR l e).2 = 0) : checkE l = 0 ∧ nameB e.1 = true ∧ nodeB e.2 = true ∧ (∀ x ∈ l, x.1 ≠ e.1) ∧ l.length ≤ 31 ∧ addR l e = (insE e l, 0) := by
  unfold addR at h ⊢
  by_cases hc : checkE l = 0
  · rw [if_neg (by rw [hc]; decide)] at h ⊢
    cases hn : nameB e.1
    · rw [hn, if_pos rfl] at h; cases h
    · rw [hn, if_neg (by decide)] at h
      rw [if_neg (by decide)]
      cases hv : nodeB e.2
      · rw [hv, if_pos rfl] at h; cases h
      · rw [hv, if_neg (by decide)] at h
        rw [if_neg (by decide)]
        by_cases hf : (findE l e.1).2 = true
        · rw [if_pos hf] at h; cases h
        · rw [if_neg hf] at h ⊢
          by_cases h32 : l.length = 32
          · rw [if_pos h32] at h; cases h
          · rw [if_neg h32]
            have h8 := (checkE_ok hc).1
            refine ⟨hc, rfl, rfl, ?_, by omega, rfl⟩
            rcases posE_cases e.1 l 0 with ⟨_, h2⟩ | ⟨i, x, h1, _⟩
            · exact h2
            · exact absurd (by unfold findE; rw [h1, if_neg (by omega)]) hf
  · rw [if_pos hc] at h; exact absurd h hc
/-- What was added can be removed. -/
theorem add_back {l : List En} {e : En} (h : (addR l e).2 = 0) : removeE (addR l e).1 e.1 = (l, 0) := by
  obtain ⟨hc, hn, hv, hne, hl, ha⟩ := addR_ok h
  have hr := insE_rising e l (checkE_rising hc) hne
  have hok : ∀ x ∈ insE e l, nameB x.1 = true ∧ nodeB x.2 = true := fun x hx => by
    rcases insE_mem.1 hx with rfl | hx
    · exact ⟨hn, hv⟩
    · have hc' := hc
      unfold checkE at hc'
      rw [if_neg (by omega)] at hc'
      exact chkN_ok hc' x hx
  have hlen : (insE e l).length = l.length + 1 := by rw [(insE_perm e l).length_eq, List.length_append, List.length_singleton]
  have hc2 : checkE (insE e l) = 0 := by
    unfold checkE
    rw [if_neg (by omega)]
    exact chkN_of _ none hok hr (fun q hq => by cases hq)
  have hb := butE_ins e hne
  rw [ha, removeE_eq]
  unfold removeR
  simp only
  rw [if_neg (by rw [hc2]; decide), hb, if_neg (by omega)]
theorem insE_len (e : En) (l : List En) : (insE e l).length = l.length + 1 := by rw [(insE_perm e l).length_eq, List.length_append, List.length_singleton]
theorem addR_len (l : List En) (e : En) : (addR l e).1.length ≤ l.length + 1 := by
  unfold addR
  repeat' split
  all_goals first | exact Nat.zero_le _ | exact Nat.le_of_eq (insE_len e l)
theorem removeE_len (l : List En) (nm : ByteArray) : (removeE l nm).1.length ≤ l.length := by
  rw [removeE_eq]
  unfold removeR
  repeat' split
  all_goals first | exact Nat.zero_le _ | exact List.length_filter_le _ _

abbrev TP := PDirsTurns.S47
def tP (e : En) : TP := ⟨e.1, e.2⟩
theorem c_tP {Q : Nat → Prop} {w : World} {A : Option Addr} {n cap : Nat} {l : List En} (h : Sl eE 2 Q w A n cap l) : PDirsTurns.k47.C w A (l.map tP).length (l.map tP) := C_of_sl _ tP rfl eE_len (fun w x => PDirsTurns.k47_mk w (tP x)) h
open PDirsTurns in
theorem names_l0 (L : List En) (hL : L.length ≤ 1000) : ∀ (d k i : Nat), i + d = L.length → d < k → dirs_Names.l0 k ((L.take i).map (·.1)) (L.map tP) (L.length : Int) (i : Int) = some (L.map (·.1)) := by
  intro d
  induction d with
  | zero =>
    intro k i hi hk
    obtain ⟨k, rfl⟩ : ∃ q, k = q + 1 := ⟨k - 1, by omega⟩
    simp only [dirs_Names.l0]
    rw [if_neg (by omega), List.take_of_length_le (by omega)]
  | succ d ih =>
    intro k i hi hk
    obtain ⟨k, rfl⟩ : ∃ q, k = q + 1 := ⟨k - 1, by omega⟩
    have hx : L[i]? = some L[i] := List.getElem?_eq_getElem (by omega)
    have hr : rd_T47 (L.map tP) (i : Int) = tP L[i] := rd_at tP _ L i _ hx
    have ih2 := ih k (i + 1) (by omega) (by omega)
    simp only [dirs_Names.l0, List.length_map]
    rw [if_pos (by omega), if_pos (by omega), if_pos (by omega), if_pos (by rw [List.length_take]; omega), hr, wrap_succ (by omega)]
    rw [List.take_add_one, hx, List.map_append] at ih2
    exact ih2
theorem names29_any (A : Option Addr) (n c : Nat) (l : List En) (Q : Nat → Prop) (w : World) (h : Sl eE 2 Q w A n c l) (hL : l.length ≤ 1000) :
    Calls Tryd.prog 27 #[.slice A n c] w fun e w' => ∃ A' n' c', e = .returned (.slice A' n' c') ∧ Sl eT 1 (fun _ => True) w' A' n' c' (l.map (·.1)) ∧ Ext w w' := by
  have hf : PDirsTurns.dirs_Names.f 1001 (l.map tP) = some (l.map (·.1)) := by
    unfold PDirsTurns.dirs_Names.f
    rw [List.length_map]
    exact names_l0 l hL l.length 1001 0 (by omega) (by omega)
  have h1 := PDirsTurns.dirs_Names.calls 1001 A c (l.map tP) _ w (c_tP h) (by rw [List.length_map, ← h.len]; exact h.le) hf
  rw [List.length_map, ← h.len] at h1
  refine h1.mono fun e w' ⟨v, he, hR, hb⟩ => ?_
  rw [← List.map_id (l.map (·.1))] at hR
  obtain ⟨A', n', c', rfl, hS⟩ := sl_of_R Kd.string id rfl eT_len (by decide) (fun w x cs hc => hc) hR
  exact ⟨A', n', c', he, hS, ⟨hb⟩⟩

def eqT (a b : List ByteArray) : Bool := decide (a = b)
theorem eqT_self (a : List ByteArray) : eqT a a = true := decide_eq_true rfl
theorem c_str {Q : Nat → Prop} {w : World} {A : Option Addr} {n cap : Nat} {l : List ByteArray} (h : Sl eT 1 Q w A n cap l) : Kd.C Kd.string w A l.length l := by
  have := C_of_sl (Kd.string) (id : ByteArray → ByteArray) rfl eT_len (fun w x => rfl) h
  rw [List.map_id] at this
  exact this
open PDirsGets in
theorem texts_l0 (a b : List ByteArray) (hab : a.length = b.length) (hL : a.length ≤ 1000) : ∀ (d k i : Nat), i + d = a.length → d < k → a.take i = b.take i → catenaryref29_SameTexts.l0 k a b (i : Int) = some (eqT a b) := by
  intro d
  induction d with
  | zero =>
    intro k i hi hk ht
    obtain ⟨k, rfl⟩ : ∃ q, k = q + 1 := ⟨k - 1, by omega⟩
    simp only [catenaryref29_SameTexts.l0]
    rw [List.take_of_length_le (by omega), List.take_of_length_le (by omega)] at ht
    rw [if_neg (by omega), eqT, decide_eq_true ht]
  | succ d ih =>
    intro k i hi hk ht
    obtain ⟨k, rfl⟩ : ∃ q, k = q + 1 := ⟨k - 1, by omega⟩
    have hx : a[i]? = some a[i] := List.getElem?_eq_getElem (by omega)
    have hy : b[i]? = some b[i] := List.getElem?_eq_getElem (by omega)
    have h1 : rdOf ByteArray.empty a (i : Int) = a[i] := by unfold rdOf; rw [Int.toNat_natCast, List.getD_eq_getElem?_getD, hx]; rfl
    have h2 : rdOf ByteArray.empty b (i : Int) = b[i] := by unfold rdOf; rw [Int.toNat_natCast, List.getD_eq_getElem?_getD, hy]; rfl
    simp only [catenaryref29_SameTexts.l0]
    rw [if_pos (by omega), if_pos (by omega), if_pos (by omega), h1, h2, wrap_succ (by omega)]
    by_cases hn : a[i].toList = b[i].toList
    · rw [if_pos hn]
      exact ih k (i + 1) (by omega) (by omega) (take_step ht hx (by rw [hy, toList_eq hn]))
    · rw [if_neg hn, eqT, decide_eq_false (take_ne hx hy fun e => hn (by rw [e]))]
theorem texts29_any (A B : Option Addr) (n m c d : Nat) (a b : List ByteArray) (Q R : Nat → Prop) (w : World) (h : Sl eT 1 Q w A n c a) (h' : Sl eT 1 R w B m d b) (hL : a.length ≤ 1000) : Calls Tryd.prog 26 #[.slice A n c, .slice B m d] w fun e w' => e = .returned (.bool (eqT a b)) ∧ Drawn w w' := by
  have hf : PDirsGets.catenaryref29_SameTexts.f 1001 a b = some (eqT a b) := by
    unfold PDirsGets.catenaryref29_SameTexts.f
    by_cases hab : a.length = b.length
    · rw [if_pos (by omega)]
      exact texts_l0 a b hab hL a.length 1001 0 (by omega) (by omega) rfl
    · rw [if_neg (by omega), eqT, decide_eq_false fun e => hab (by rw [e])]
  have h1 := PDirsGets.catenaryref29_SameTexts.calls 1001 A c a B d b _ w (c_str h) (by rw [← h.len]; exact h.le) (c_str h') (by rw [← h'.len]; exact h'.le) hf
  rw [← h.len, ← h'.len] at h1
  exact h1.mono fun _ _ r => ⟨r.1, Drawn0.drawn r.2⟩
end Go.Proofs.YtdocdppimpapiabDoor

namespace Go.Proofs.YtdocdppimpapiabDoor
open Go.RowKit

theorem info_str : (Tryd.prog.info? 9).map (fun i => (i.zero, i.size, i.bytes)) = some (some (.string ⟨#[]⟩), 1, 16) := by kernel_rfl

set_option maxHeartbeats 6400000 in
set_option maxRecDepth 100000 in
theorem dirsTurns_any (A : Option Addr) (n c : Nat) (l : List En) (s nm : ByteArray) (v m : Int) (Q : Nat → Prop) (w : World) (h : Sl eE 2 Q w A n c l) (hm : w.cell? ⟨0, 0, none⟩ = some (.int .i64 m)) :
    Calls Tryd.prog 5 #[.slice A n c, .agg #[.string s, .int .i64 v], .string nm] w fun e w' => e = .returned (.bool true) ∧ Ext w w' := by
  have H := Lib.hid h
  have HM := Lib.hid hm
  have hx0 := (Ext.refl w).alloc (.cells #[.string s, .int .i64 v] 45)
  have HB0 := Lib.hid (heap_alloc_new w (.cells #[.string s, .int .i64 v] 45))
  have HX0 := Lib.hid hx0
  obtain ⟨f1, hf1⟩ : ∃ f, farE l = f := ⟨_, rfl⟩
  obtain ⟨f2, hf2⟩ : ∃ f, farE [(s, v)] = f := ⟨_, rfl⟩
  have HF1 := Lib.hid hf1
  have HF2 := Lib.hid hf2
  clear h hm hx0
  cases f1
  · obtain ⟨hl40, _⟩ := far_no hf1
    have hn40 : n ≤ 40 := by rw [H.out.len]; exact hl40
    have HL40 := Lib.hid hl40
    have HLN := Lib.hid H.out.len
    clear hf1 hl40
    cases f2
    · clear hf2
      by_cases h30 : 30 < (nm.size : Int)
      · go_enter Tryd.func5, Tryd.ntmps5
        go_wp2_with fail
        refine (far_any _ _ _ _ _ _ (H.out.ext HX0.out)).mono ?_
        rw [HF1.out]
        rintro e w1 ⟨rfl, h1⟩
        have b1 := h1.ext.heap HB0.out
        have x0 := cell_of_heap b1 0; have x1 := cell_of_heap b1 1; simp only [List.getElem?_toArray, List.getElem?_cons_zero, List.getElem?_cons_succ] at x0 x1
        have X1 := Lib.hid (HX0.out.trans h1.ext)
        clear h1 b1
        go_wp2_with fail
        refine (far_any _ _ _ _ _ _ (Sl.laid eE_len w1 [(s, v)] #[.string s, .int .i64 v] 45 1 rfl rfl (by decide))).mono ?_
        rw [HF2.out]
        rintro e w2 ⟨rfl, h2⟩
        have X2 := Lib.hid ((X1.out.alloc _).trans h2.ext)
        clear h2
        go_wp2_with fail
        refine (awake29_any m _ (X2.out.at HM.out)).mono ?_
        rintro e w3 ⟨rfl, h3⟩
        replace h3 := Lib.hid h3
        go_wp2
        go_ret
        exact ⟨rfl, X2.out.trans h3.out⟩
      · have h30' : (nm.size : Int) ≤ 30 := by omega
        obtain ⟨⟨al, ae⟩, ha⟩ : ∃ r, addR l (s, v) = r := ⟨_, rfl⟩
        obtain ⟨⟨rl, re⟩, hrm⟩ : ∃ r, removeR l nm = r := ⟨_, rfl⟩
        obtain ⟨⟨fi, fb⟩, hfd⟩ : ∃ r, findE l nm = r := ⟨_, rfl⟩
        have HA := Lib.hid ha
        have HRM := Lib.hid hrm
        have HRE := Lib.hid ((removeE_eq l nm).trans hrm)
        have HFD := Lib.hid hfd
        have hal : al.length ≤ 1000 := by have := addR_len l (s, v); rw [ha] at this; simp only at this; have := HL40.out; omega
        have hrl : rl.length ≤ 1000 := by have := removeE_len l nm; rw [removeE_eq, hrm] at this; simp only at this; have := HL40.out; omega
        have HAL := Lib.hid hal
        have HRL := Lib.hid hrl
        have hl1000 : l.length ≤ 1000 := by have := HL40.out; omega
        have HL1000 := Lib.hid hl1000
        have s1 := bne_int_self ae
        have s2 := bne_int_self re
        have s3 := bne_int_self fi
        have s4 := bne_bool_self fb
        clear h30 ha hrm hfd hal hrl hl1000
        go_enter Tryd.func5, Tryd.ntmps5
        go_wp2_with fail
        refine (far_any _ _ _ _ _ _ (H.out.ext HX0.out)).mono ?_
        rw [HF1.out]
        rintro e w1 ⟨rfl, h1⟩
        have b1 := h1.ext.heap HB0.out
        have x0 := cell_of_heap b1 0; have x1 := cell_of_heap b1 1; simp only [List.getElem?_toArray, List.getElem?_cons_zero, List.getElem?_cons_succ] at x0 x1
        have X1 := Lib.hid (HX0.out.trans h1.ext)
        have B1 := Lib.hid b1
        clear h1 b1
        go_wp2_with fail
        refine (far_any _ _ _ _ _ _ (Sl.laid eE_len w1 [(s, v)] #[.string s, .int .i64 v] 45 1 rfl rfl (by decide))).mono ?_
        rw [HF2.out]
        rintro e w2 ⟨rfl, h2⟩
        have b2 := (((Ext.refl w1).alloc _).trans h2.ext).heap B1.out
        have B2 := Lib.hid b2
        have hX2 : Ext w w2 := (X1.out.alloc _).trans h2.ext
        have y0 := cell_of_heap b2 0; have y1 := cell_of_heap b2 1; simp only [List.getElem?_toArray, List.getElem?_cons_zero, List.getElem?_cons_succ] at y0 y1
        clear h2 b2
        go_wp2
        go_region_held3 (fun W => W.cell? ⟨w.heap.size, 0, none⟩ = some (.string s) ∧ W.cell? ⟨w.heap.size, 1, none⟩ = some (.int .i64 v))
          (first | exact ⟨y0, y1⟩ | exact ⟨Ext.at (a := w2) (by (repeat (first | exact Ext.refl _ | assumption | refine Ext.alloc ?_ _ | refine Ext.drew ?_ | refine Ext.drewN ?_ _ | refine Ext.setCell ?_ (by simp) _ | (refine Ext.trans ?_ (by assumption))))) y0, Ext.at (a := w2) (by (repeat (first | exact Ext.refl _ | assumption | refine Ext.alloc ?_ _ | refine Ext.drew ?_ | refine Ext.drewN ?_ _ | refine Ext.setCell ?_ (by simp) _ | (refine Ext.trans ?_ (by assumption))))) y1⟩ | go_keep)
          (first
            | (go_at_call 9; go_must (refine (ours29_any _ _ _ _ _ _ (H.out.ext (by (repeat (first | exact Ext.refl _ | assumption | refine Ext.alloc ?_ _ | refine Ext.drew ?_ | refine Ext.drewN ?_ _ | refine Ext.setCell ?_ (by simp) _ | (refine Ext.trans ?_ (by assumption)))))) HL1000.out).mono ?_); rintro e w3 ⟨A3, n3, c3, rfl, hs3, h3⟩; have E23 : Ext w2 w3 := Ext.trans (by (repeat (first | exact Ext.refl _ | assumption | refine Ext.alloc ?_ _ | refine Ext.drew ?_ | refine Ext.drewN ?_ _ | refine Ext.setCell ?_ (by simp) _ | (refine Ext.trans ?_ (by assumption))))) h3; replace hs3 := Lib.hid hs3)
            | (go_at_call 20; go_must (refine (dadd_any _ _ _ _ s v _ _ (hs3.out.ext (by (repeat (first | exact Ext.refl _ | assumption | refine Ext.alloc ?_ _ | refine Ext.drew ?_ | refine Ext.drewN ?_ _ | refine Ext.setCell ?_ (by simp) _ | (refine Ext.trans ?_ (by assumption)))))) (by have := HL1000.out; have := hs3.out.len; omega)).mono ?_); rw [HA.out]; rintro e w4 ⟨A4, n4, c4, rfl, hs4, h4⟩; have E24 : Ext w2 w4 := Ext.trans (by (repeat (first | exact Ext.refl _ | assumption | refine Ext.alloc ?_ _ | refine Ext.drew ?_ | refine Ext.drewN ?_ _ | refine Ext.setCell ?_ (by simp) _ | (refine Ext.trans ?_ (by assumption))))) h4; replace hs4 := Lib.hid hs4))
        have hX4 := hX2.trans E24
        have b4 := E24.heap B2.out
        have B4 := Lib.hid b4
        have HX4 := Lib.hid hX4
        have z0 := cell_of_heap b4 0; have z1 := cell_of_heap b4 1; simp only [List.getElem?_toArray, List.getElem?_cons_zero, List.getElem?_cons_succ] at z0 z1
        clear b4 E23 E24 hX2 hX4 y0 y1 x0 x1
        go_wp2_with fail
        refine (radd_any _ _ _ _ s v _ _ (H.out.ext HX4.out) HL1000.out).mono ?_
        rw [HA.out]
        rintro e w5 ⟨A5, n5, c5, rfl, hs5, h5⟩
        have a5 := Lib.hid (hs4.out.ext h5)
        replace hs5 := Lib.hid hs5
        have X5 := Lib.hid (HX4.out.trans h5)
        have B5 := Lib.hid (h5.heap B4.out)
        clear h5 hs4
        go_wp2_with fail
        refine (ours29_any _ _ _ _ _ _ (H.out.ext X5.out) HL1000.out).mono ?_
        rintro e w6 ⟨A6, n6, c6, rfl, hs6, h6⟩
        replace hs6 := Lib.hid hs6
        have a6 := Lib.hid (a5.out.ext h6)
        have r6 := Lib.hid (hs5.out.ext h6)
        have X6 := Lib.hid (X5.out.trans h6)
        have B6 := Lib.hid (h6.heap B5.out)
        clear h6 a5 hs5
        go_wp2_with fail
        refine (remove_any _ _ _ _ nm _ _ hs6.out (by have := HL1000.out; have := hs6.out.len; omega)).mono ?_
        rw [HRE.out]
        rintro e w7 ⟨A7, n7, c7, rfl, hs7, h7⟩
        replace hs7 := Lib.hid hs7
        have a7 := Lib.hid (a6.out.ext h7)
        have r7 := Lib.hid (r6.out.ext h7)
        have X7 := Lib.hid (X6.out.trans h7)
        have B7 := Lib.hid (h7.heap B6.out)
        clear h7 a6 r6 hs6
        go_wp2_with fail
        refine (rremove_any _ _ _ _ nm _ _ (H.out.ext X7.out) HL1000.out).mono ?_
        rw [HRM.out]
        rintro e w8 ⟨A8, n8, c8, rfl, hs8, h8⟩
        replace hs8 := Lib.hid hs8
        have a8 := Lib.hid (a7.out.ext h8)
        have r8 := Lib.hid (r7.out.ext h8)
        have d8 := Lib.hid (hs7.out.ext h8)
        have X8 := Lib.hid (X7.out.trans h8)
        have B8 := Lib.hid (h8.heap B7.out)
        clear h8 a7 r7 hs7
        go_wp2_with fail
        refine (ours29_any _ _ _ _ _ _ (H.out.ext X8.out) HL1000.out).mono ?_
        rintro e w9 ⟨A9, n9, c9, rfl, hs9, h9⟩
        replace hs9 := Lib.hid hs9
        have a9 := Lib.hid (a8.out.ext h9)
        have r9 := Lib.hid (r8.out.ext h9)
        have d9 := Lib.hid (d8.out.ext h9)
        have e9 := Lib.hid (hs8.out.ext h9)
        have X9 := Lib.hid (X8.out.trans h9)
        have B9 := Lib.hid (h9.heap B8.out)
        clear h9 a8 r8 d8 hs8
        go_wp2_with fail
        refine (find_any _ _ _ _ nm _ _ hs9.out (by have := HL1000.out; have := hs9.out.len; omega)).mono ?_
        rw [HFD.out]
        rintro e w10 ⟨rfl, h10⟩
        have X10 := Lib.hid (X9.out.trans h10)
        have E10 := Lib.hid h10
        clear h10 hs9
        go_wp2_with fail
        refine (rfind_any _ _ _ _ nm _ _ (H.out.ext X10.out) HL1000.out).mono ?_
        rw [HFD.out]
        rintro e w11 ⟨rfl, h11⟩
        have X11 := Lib.hid (X10.out.trans h11.ext)
        have E11 := Lib.hid (E10.out.trans h11.ext)
        clear h11
        have a11 := Lib.hid (a9.out.ext E11.out)
        have r11 := Lib.hid (r9.out.ext E11.out)
        have d11 := Lib.hid (d9.out.ext E11.out)
        have e11 := Lib.hid (e9.out.ext E11.out)
        have B11 := Lib.hid (E11.out.heap B9.out)
        clear a9 r9 d9 e9 E10 E11
        go_wp2_with fail
        refine (like29_any _ _ _ _ _ _ _ _ _ _ _ a11.out r11.out HAL.out).mono ?_
        rw [eqE_self]
        rintro e w12 ⟨rfl, h12⟩
        have a12 := Lib.hid (a11.out.ext h12.ext)
        have d12 := Lib.hid (d11.out.ext h12.ext)
        have e12 := Lib.hid (e11.out.ext h12.ext)
        have X12 := Lib.hid (X11.out.trans h12.ext)
        have B12 := Lib.hid (h12.ext.heap B11.out)
        clear h12 a11 r11 d11 e11
        go_wp2_with fail
        refine (like29_any _ _ _ _ _ _ _ _ _ _ _ d12.out e12.out HRL.out).mono ?_
        rw [eqE_self]
        rintro e w13 ⟨rfl, h13⟩
        have a13 := Lib.hid (a12.out.ext h13.ext)
        have X13 := Lib.hid (X12.out.trans h13.ext)
        have B13 := Lib.hid (h13.ext.heap B12.out)
        clear h13 a12 d12 e12
        go_wp2
        go_loopw [19, 20] (fun u i wr => ∃ (k n' cap' : Nat) (A' : Option Addr), k ≤ n ∧ u = .slice A' n' cap' ∧ i = .int .i64 (k : Int) ∧ Ow eT 1 9 w13.heap.size wr A' n' cap' ((l.take k).map (·.1)) ∧ Ext w13 wr) (fun _ i _ => n - (intOf i).toNat)
        case atStart => exact ⟨0, 0, 0, none, Nat.zero_le _, rfl, rfl, Ow.nil _, Ext.refl _⟩
        case round =>
          obtain ⟨k, n', cap', A', hk, rfl, rfl, ho, hx⟩ := hrel
          replace ho := Lib.hid ho
          replace hx := Lib.hid hx
          by_cases hlt : k < n
          · obtain ⟨b, o, sk, vk, rfl, hp, _, hbl, hc0, _⟩ := H.out.en k hlt
            have k0 : (0 : Int) ≤ (k : Int) := by omega
            have k9 : (k : Int) < (n : Int) := by omega
            have hc := (X13.out.trans hx.out).at hc0
            have HP := Lib.hid hp
            have hlen : ((l.take k).map (fun e : En => e.1)).length ≤ 40 := by rw [List.length_map, List.length_take]; omega
            have HLE := Lib.hid hlen
            clear hp hlen hc0
            go_wp2_with (at_builtin; refine wpList_app _ rfl _ _ 54 rfl info_str Tryd.underlying54 rfl (by decide) eT_len eT_one (base := w13.heap.size) (ho.out.ext ((Ext.refl _).alloc _)) rfl (Sl.laid eT_len wr [sk] #[.string sk] 9 1 rfl rfl (by decide)) rfl (by have := HLE.out; rw [List.length_singleton]; omega) (by have := HLE.out; rw [List.length_singleton]; omega) (Nat.le_trans hx.out.size ((Ext.refl wr).alloc _).size) ?_; intro A7 n7 c7 w7 ho7 hg7 _ _; replace ho7 := Lib.hid ho7; replace hg7 := Lib.hid hg7)
            refine ⟨⟨k + 1, n7, c7, A7, by omega, rfl, by go_num, ?_, ?_⟩, by simp [intOf]; omega⟩
            · rw [List.take_add_one, HP.out, List.map_append]; exact ho7.out
            · exact (hx.out.alloc _).grown hg7.out fun j hj => (ho.out.lt j hj).1
          · obtain rfl : k = n := by omega
            have hS := ho.out.sl eT_len
            rw [List.take_of_length_le (by rw [HLN.out]; exact Nat.le_refl _)] at hS
            have HS := Lib.hid hS
            have XR := Lib.hid (X13.out.trans hx.out)
            have bR := hx.out.heap B13.out
            have q0 := cell_of_heap bR 0; have q1 := cell_of_heap bR 1; simp only [List.getElem?_toArray, List.getElem?_cons_zero, List.getElem?_cons_succ] at q0 q1
            obtain ⟨⟨bl, be⟩, hbk⟩ : ∃ r, removeE al s = r := ⟨_, rfl⟩
            have HBK := Lib.hid hbk
            have hab : ae = 0 → bl = l ∧ be = 0 := fun h0 => by
              have := add_back (l := l) (e := (s, v)) (by rw [HA.out]; exact h0)
              rw [HA.out] at this
              simp only at this
              rw [hbk] at this
              injection this with h1 h2
              exact ⟨h1, h2⟩
            have HAB := Lib.hid hab
            have hnl : (l.map (fun e : En => e.1)).length ≤ 1000 := by rw [List.length_map]; exact HL1000.out
            have HNL := Lib.hid hnl
            clear hS bR hbk hab hnl hlt
            go_wp2_with fail
            refine (remove_any _ _ _ _ s _ _ (a13.out.ext hx.out) (by have := HAL.out; have := a13.out.len; omega)).mono ?_
            rw [HBK.out]
            rintro e w14 ⟨A14, n14, c14, rfl, hs14, h14⟩
            replace hs14 := Lib.hid hs14
            have X14 := Lib.hid (XR.out.trans h14)
            have S14 := Lib.hid (HS.out.ext h14)
            clear h14
            go_wp2_with fail
            refine (ours29_any _ _ _ _ _ _ (H.out.ext X14.out) HL1000.out).mono ?_
            rintro e w15 ⟨A15, n15, c15, rfl, hs15, h15⟩
            replace hs15 := Lib.hid hs15
            have X15 := Lib.hid (X14.out.trans h15)
            have S15 := Lib.hid (S14.out.ext h15)
            have b15 := Lib.hid (hs14.out.ext h15)
            clear h15
            go_wp2_with fail
            refine (names29_any _ _ _ _ _ _ hs15.out HL1000.out).mono ?_
            rintro e w16 ⟨A16, n16, c16, rfl, hs16, h16⟩
            replace hs16 := Lib.hid hs16
            have X16 := Lib.hid (X15.out.trans h16)
            have S16 := Lib.hid (S15.out.ext h16)
            have b16 := Lib.hid (b15.out.ext h16)
            clear h16
            go_wp2_with fail
            refine (texts29_any _ _ _ _ _ _ _ _ _ _ _ hs16.out S16.out HNL.out).mono ?_
            rw [eqT_self]
            rintro e w17 ⟨rfl, h17⟩
            have X17 := Lib.hid (X16.out.trans h17.ext)
            have b17 := Lib.hid (b16.out.ext h17.ext)
            clear h17
            by_cases h0 : ae = 0
            · subst h0
              obtain ⟨rfl, rfl⟩ := HAB.out rfl
              go_wp2_with fail
              refine (like29_any _ _ _ _ _ _ _ _ _ _ _ b17.out (H.out.ext X17.out) HL1000.out).mono ?_
              rw [eqE_self]
              rintro e w18 ⟨rfl, h18⟩
              have X18 := Lib.hid (X17.out.trans h18.ext)
              clear h18
              go_wp2_with fail
              refine (awake29_any m _ (X18.out.at HM.out)).mono ?_
              rintro e w19 ⟨rfl, h19⟩
              replace h19 := Lib.hid h19
              go_wp2
              go_ret
              exact ⟨rfl, X18.out.trans h19.out⟩
            · have hne : (ae != 0) = true := by simpa using h0
              clear h0
              go_wp2_with fail
              refine (awake29_any m _ (X17.out.at HM.out)).mono ?_
              rintro e w19 ⟨rfl, h19⟩
              replace h19 := Lib.hid h19
              go_wp2
              go_ret
              exact ⟨rfl, X17.out.trans h19.out⟩
    · clear hf2
      go_enter Tryd.func5, Tryd.ntmps5
      go_wp2_with fail
      refine (far_any _ _ _ _ _ _ (H.out.ext HX0.out)).mono ?_
      rw [HF1.out]
      rintro e w1 ⟨rfl, h1⟩
      have b1 := h1.ext.heap HB0.out
      have x0 := cell_of_heap b1 0; have x1 := cell_of_heap b1 1; simp only [List.getElem?_toArray, List.getElem?_cons_zero, List.getElem?_cons_succ] at x0 x1
      have X1 := Lib.hid (HX0.out.trans h1.ext)
      clear h1 b1
      go_wp2_with fail
      refine (far_any _ _ _ _ _ _ (Sl.laid eE_len w1 [(s, v)] #[.string s, .int .i64 v] 45 1 rfl rfl (by decide))).mono ?_
      rw [HF2.out]
      rintro e w2 ⟨rfl, h2⟩
      have X2 := Lib.hid ((X1.out.alloc _).trans h2.ext)
      clear h2
      go_wp2_with fail
      refine (awake29_any m _ (X2.out.at HM.out)).mono ?_
      rintro e w3 ⟨rfl, h3⟩
      replace h3 := Lib.hid h3
      go_wp2
      go_ret
      exact ⟨rfl, X2.out.trans h3.out⟩
  · clear hf1 hf2
    go_enter Tryd.func5, Tryd.ntmps5
    go_wp2_with fail
    refine (far_any _ _ _ _ _ _ (H.out.ext HX0.out)).mono ?_
    rw [HF1.out]
    rintro e w1 ⟨rfl, h1⟩
    have X1 := Lib.hid (HX0.out.trans h1.ext)
    clear h1
    go_wp2_with fail
    refine (awake29_any m _ (X1.out.at HM.out)).mono ?_
    rintro e w3 ⟨rfl, h3⟩
    replace h3 := Lib.hid h3
    go_wp2
    go_ret
    exact ⟨rfl, X1.out.trans h3.out⟩
end Go.Proofs.YtdocdppimpapiabDoor

namespace Go.Proofs.YtdocdppimpapiabDoor
open Go.ChangeShapes Go.WideShapes Go.ChangeAt Go.RowKit Go.Joins Go.Deep

set_option maxRecDepth 100000 in
theorem ent_open {H : Type} {enc : TypeId × Value → H} {w : World} {base b0 : Nat} {spare : Nat → Bool} {hb : Bool} {r : Reach} {v : Value} {d : DataW H} {p : List MemPlace}
    (hv : Value.okWide Tryd.prog w r b0 45 v) (h : DataW.Trod enc Tryd.prog w base spare hb 45 v d p) :
    ∃ s x, v = .agg #[.string s, .int .i64 x] ∧ (Lit.int .i64 x).wf = true := by
  obtain ⟨c0, c1, y0, y1, m, rfl, _, _, hy0, hy1⟩ := open_agg2 Tryd.underlying45 (by kernel_rfl) cells_ren hv h
  obtain ⟨a, e0, rfl, wa⟩ := DataW.trod_string Tryd.underlying9 hy0
  obtain ⟨b, e1, rfl, wb⟩ := DataW.trod_int Tryd.underlying3 hy1
  simp only [List.cons.injEq, and_true] at e0 e1
  subst e0 e1
  exact ⟨a, b, rfl, wb⟩
end Go.Proofs.YtdocdppimpapiabDoor
