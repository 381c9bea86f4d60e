/-
  Patches held against each other; the law's own copies of them. Which intents may be: vol.Check and the reference's; the law's 'far'. vol.Put: the root block's bytes of an intent. vol.Get, and the reference's: the intent of bytes. VolKeys: whatever the shape, the key and the number: the call returns true.
-/
import Derived.Test.YtdocdppimpapiaaIB1
set_option linter.unusedSimpArgs false
set_option linter.unusedVariables false
namespace Go.Proofs.Ytdocdppimpapiaa
open Go.RowKit

def eqPa (a b : List Pa) : Bool := decide (a = b)
theorem eqPa_ne {a b : List Pa} (h : a.length ≠ b.length) : eqPa a b = false := decide_eq_false fun e => h (by rw [e])

set_option maxHeartbeats 1600000 in
theorem same30_any (A B : Option Addr) (n m c d : Nat) (a b : List Pa) (Q Q' R R' : Nat → Prop) (w : World) (h : Pats Q Q' w A n c a) (h' : Pats R R' w B m d b) :
    Calls Try.prog 73 #[.slice A n c, .slice B m d] w fun e w' => e = .returned (.bool (eqPa a b)) ∧ Drawn w w' := by
  have hn := h.le
  have hm := h'.le
  have HN := Lib.hid h.len
  have HM := Lib.hid h'.len
  have H := Lib.hid h
  have H' := Lib.hid h'
  clear h h'
  by_cases hl : n = m
  · subst hl
    have E0 : ((n : Int) != (n : Int)) = false := by simp
    go_enter Try.func73, Try.ntmps73
    go_wp2
    go_loopw [5] (fun i wr => ∃ k : Nat, k ≤ n ∧ i = .int .i64 k ∧ a.take k = b.take k ∧ Drawn w wr) (fun i _ => n - (intOf i).toNat)
    case atStart => exact ⟨0, Nat.zero_le _, rfl, rfl, Drawn.refl _⟩
    case round =>
      obtain ⟨k, hk, rfl, hab, hd⟩ := hrel
      have HAB := Lib.hid hab
      clear hab
      by_cases hlt : k < n
      · obtain ⟨b1, o1, k1, v1, B1, m1, c1, d1, rfl, hx, _, hl1, hc1, hc2, hc3, hs1⟩ := (H.out.ext hd.ext).get k hlt
        obtain ⟨b2, o2, k2, v2, B2, m2, c2, d2, rfl, hy, _, hl2, hc4, hc5, hc6, hs2⟩ := (H'.out.ext hd.ext).get k hlt
        have HX := Lib.hid hx
        have HY := Lib.hid hy
        have HS1 := Lib.hid hs1
        have HS2 := Lib.hid hs2
        have k0 : (0 : Int) ≤ (k : Int) := by omega
        have k9 : (k : Int) < (n : Int) := by omega
        clear hx hy hs1 hs2
        by_cases hkk : k1 = k2
        · subst hkk
          have q0 : (k1 != k1) = false := by simp
          by_cases hvv : v1 = v2
          · subst hvv
            have q1 : (v1 != v1) = false := by simp
            by_cases hdd : d1 = d2
            · subst hdd
              have q2 : eqL d1 d1 = true := decide_eq_true rfl
              go_wp2
              go_quiet ((go_at_call 26; exact quietD (same01_any _ _ _ _ _ _ _ _ _ _ _ (HS1.out.ext ((Ext.refl _).drewN _)) (HS2.out.ext ((Ext.refl _).drewN _)))))
              go_wp2
              refine ⟨⟨k + 1, by omega, by go_num, take_step HAB.out HX.out HY.out, hd.drewN _⟩, by simp [intOf]; omega⟩
            · have q2 : eqL d1 d2 = false := decide_eq_false hdd
              have E : eqPa a b = false := decide_eq_false (take_ne HX.out HY.out (by simp [hdd]))
              clear hdd
              go_wp2
              go_quiet ((go_at_call 26; exact quietD (same01_any _ _ _ _ _ _ _ _ _ _ _ (HS1.out.ext ((Ext.refl _).drewN _)) (HS2.out.ext ((Ext.refl _).drewN _)))))
              go_wp2
              go_ret
              exact ⟨ret_bool E.symm, hd.drewN _⟩
          · have q1 : (v1 != v2) = true := by simp [hvv]
            have E : eqPa a b = false := decide_eq_false (take_ne HX.out HY.out (by simp [hvv]))
            clear hvv
            go_wp2
            go_quiet (fail)
            go_wp2
            go_ret
            exact ⟨ret_bool E.symm, hd.drewN _⟩
        · have q0 : (k1 != k2) = true := by simp [hkk]
          have E : eqPa a b = false := decide_eq_false (take_ne HX.out HY.out (by simp [hkk]))
          clear hkk
          go_wp2
          go_quiet (fail)
          go_wp2
          go_ret
          exact ⟨ret_bool E.symm, hd.drewN _⟩
      · have hE : eqPa a b = true := decide_eq_true (by
          have h1 := HAB.out
          rwa [List.take_of_length_le (by rw [← HN.out]; omega), List.take_of_length_le (by rw [← HM.out]; omega)] at h1)
        go_wp2
        go_ret
        exact ⟨ret_bool hE.symm, hd⟩
  · have E0 : ((n : Int) != (m : Int)) = true := by simp; omega
    have E : eqPa a b = false := eqPa_ne (by rw [← HN.out, ← HM.out]; exact hl)
    clear hl
    go_enter Try.func73, Try.ntmps73
    go_wp2
    go_ret
    exact ⟨ret_bool E.symm, Drawn.refl _⟩

theorem info_pv : (Try.prog.info? 105).map (fun i => (i.zero, i.size, i.bytes)) = some (some (.agg #[.int .u32 0, .int .u64 0, .slice none 0 0]), 3, 40) := by kernel_rfl
theorem info_pr : (Try.prog.info? 114).map (fun i => (i.zero, i.size, i.bytes)) = some (some (.agg #[.int .u32 0, .int .u64 0, .slice none 0 0]), 3, 40) := by kernel_rfl
/-- Patches come back, their row in new memory. -/
def RetPats (Q' : Nat → Prop) (l : List Pa) (w : World) (e : Ending) (w' : World) : Prop :=
  ∃ A n cap, e = .returned (.slice A n cap) ∧ Pats (fun k => w.heap.size ≤ k) Q' w' A n cap l ∧ Ext w w'

set_option maxHeartbeats 1600000 in
theorem ours30_any (A : Option Addr) (n c : Nat) (l : List Pa) (Q Q' : Nat → Prop) (w : World) (h : Pats Q Q' w A n c l) (hl : l.length ≤ 1048576) :
    Calls Try.prog 29 #[.slice A n c] w (RetPats Q' l w) := by
  have hn : n ≤ 1048576 := by rw [h.len]; exact hl
  obtain ⟨hs, h1, h2⟩ := h.ex
  have HN := Lib.hid h1.len
  have H := Lib.hid h1
  have HE := Lib.hid h2
  clear h h1 h2
  go_enter Try.func29, Try.ntmps29
  go_wp2
  go_loopw [3, 4] (fun v i wr => ∃ (k n' cap' : Nat) (A' : Option Addr), k ≤ n ∧ i = .int .i64 k ∧ v = .slice A' n' cap' ∧ Ow eP 3 105 w.heap.size wr A' n' cap' (hs.take k) ∧ Ext w wr) (fun _ i _ => n - (intOf i).toNat)
  case atStart => exact ⟨0, 0, 0, none, Nat.zero_le _, rfl, rfl, Ow.nil _, Ext.refl _⟩
  case round =>
    obtain ⟨k, n', cap', A', hk, rfl, rfl, hO, he⟩ := hrel
    have HO := Lib.hid hO
    have HX := Lib.hid he
    have hz := he.size
    clear hO he
    by_cases hlt : k < n
    · obtain ⟨b, off, key, ver, B, m, c', rfl, hx, _, hbl, hc0, hc1, hc2⟩ := H.out.pat k hlt
      have hne : some b ≠ (Value.slice A' n' cap').ownBlock := fun e => by have := (HO.out.lt b e.symm).1; omega
      have HK := Lib.hid hx
      have hc0 := HX.out.at hc0
      have hc1 := HX.out.at hc1
      have hc2 := HX.out.at hc2
      have k0 : (0 : Int) ≤ (k : Int) := by omega
      have k9 : (k : Int) < (n : Int) := by omega
      have hlen : (hs.take k).length ≤ 1048576 := by rw [List.length_take]; omega
      clear hx
      go_wp2
      go_region_held3 (fun W => W.cell? ⟨b, off + k * 3, none⟩ = some (.int .u32 key) ∧ W.cell? ⟨b, off + k * 3 + 1, none⟩ = some (.int .u64 ver) ∧ W.cell? ⟨b, off + k * 3 + 2, none⟩ = some (.slice B m c'))
        (first | exact ⟨hc0, hc1, hc2⟩ | (go_split_ands; refine ⟨hg2.cell (by assumption) hne, hg2.cell (by assumption) hne, hg2.cell (by assumption) hne⟩) | go_keep)
        ((refine step_app _ rfl _ _ 37 rfl info_pv Try.underlying37 rfl (by decide) eP_len eP_one (HO.out.ext (((Ext.refl _).drew).alloc _)) rfl (Sl.laid eP_len wr.drew [(key, ver, B, m, c')] _ 105 1 rfl rfl (by decide)) rfl (by simp only [List.length_singleton]; omega) (by simp only [List.length_singleton]; omega) (by exact Nat.le_trans hz (((Ext.refl wr).drew).alloc _).size) ?_; intro A2 n2 cap2 w2 hO2 hg2 hrow _))
      go_wp2
      refine ⟨⟨k + 1, n2, cap2, A2, by omega, by go_num, rfl, ?_, Ext.grown ((HX.out.drew).alloc _) hg2 fun q hq => (HO.out.lt q hq).1⟩, by simp [intOf]; omega⟩
      rw [List.take_add_one, HK.out, Option.toList_some]
      exact hO2
    · have hE : hs.take k = hs := List.take_of_length_le (by rw [← HN.out]; omega)
      have hO := HO.out
      rw [hE] at hO
      go_wp2
      go_ret
      exact ⟨A', n', cap', rfl, ⟨hs, (hO.sl eP_len).mono fun _ h => h.1, HE.out.mono fun _ _ r => r.ext HX.out⟩, HX.out⟩

set_option maxHeartbeats 1600000 in
theorem like30_any (A B0 : Option Addr) (n c m0 d0 : Nat) (l l2 : List Pa) (Q Q' R R' : Nat → Prop) (w : World) (h : Pats Q Q' w A n c l) (h' : Pats R R' w B0 m0 d0 l2) (hl : l.length ≤ 1048576) :
    Calls Try.prog 25 #[.slice A n c, .slice B0 m0 d0] w fun e w' => e = .returned (.bool (eqPa l l2)) ∧ Ext w w' := by
  have hn : n ≤ 1048576 := by rw [h.len]; exact hl
  obtain ⟨hs, h1, h2⟩ := h.ex
  have HN := Lib.hid h1.len
  have H := Lib.hid h1
  have H' := Lib.hid h'
  have HE := Lib.hid h2
  clear h h1 h2 h'
  go_enter Try.func25, Try.ntmps25
  go_wp2
  go_loopw [5, 6] (fun v i wr => ∃ (k n' cap' : Nat) (A' : Option Addr), k ≤ n ∧ i = .int .i64 k ∧ v = .slice A' n' cap' ∧ Ow eP 3 114 w.heap.size wr A' n' cap' (hs.take k) ∧ Ext w wr) (fun _ i _ => n - (intOf i).toNat)
  case atStart => exact ⟨0, 0, 0, none, Nat.zero_le _, rfl, rfl, Ow.nil _, Ext.refl _⟩
  case round =>
    obtain ⟨k, n', cap', A', hk, rfl, rfl, hO, he⟩ := hrel
    have HO := Lib.hid hO
    have HX := Lib.hid he
    have hz := he.size
    clear hO he
    by_cases hlt : k < n
    · obtain ⟨b, off, key, ver, B, m, c', rfl, hx, _, hbl, hc0, hc1, hc2⟩ := H.out.pat k hlt
      have hne : some b ≠ (Value.slice A' n' cap').ownBlock := fun e => by have := (HO.out.lt b e.symm).1; omega
      have HK := Lib.hid hx
      have hc0 := HX.out.at hc0
      have hc1 := HX.out.at hc1
      have hc2 := HX.out.at hc2
      have k0 : (0 : Int) ≤ (k : Int) := by omega
      have k9 : (k : Int) < (n : Int) := by omega
      have hlen : (hs.take k).length ≤ 1048576 := by rw [List.length_take]; omega
      clear hx
      go_wp2
      go_region_held3 (fun W => W.cell? ⟨b, off + k * 3, none⟩ = some (.int .u32 key) ∧ W.cell? ⟨b, off + k * 3 + 1, none⟩ = some (.int .u64 ver) ∧ W.cell? ⟨b, off + k * 3 + 2, none⟩ = some (.slice B m c'))
        (first | exact ⟨hc0, hc1, hc2⟩ | (go_split_ands; refine ⟨hg2.cell (by assumption) hne, hg2.cell (by assumption) hne, hg2.cell (by assumption) hne⟩) | go_keep)
        ((refine step_app _ rfl _ _ 41 rfl info_pr Try.underlying41 rfl (by decide) eP_len eP_one (HO.out.ext (((Ext.refl _).drew).alloc _)) rfl (Sl.laid eP_len wr.drew [(key, ver, B, m, c')] _ 114 1 rfl rfl (by decide)) rfl (by simp only [List.length_singleton]; omega) (by simp only [List.length_singleton]; omega) (by exact Nat.le_trans hz (((Ext.refl wr).drew).alloc _).size) ?_; intro A2 n2 cap2 w2 hO2 hg2 hrow _))
      go_wp2
      refine ⟨⟨k + 1, n2, cap2, A2, by omega, by go_num, rfl, ?_, Ext.grown ((HX.out.drew).alloc _) hg2 fun q hq => (HO.out.lt q hq).1⟩, by simp [intOf]; omega⟩
      rw [List.take_add_one, HK.out, Option.toList_some]
      exact hO2
    · have hE : hs.take k = hs := List.take_of_length_le (by rw [← HN.out]; omega)
      have hO := HO.out
      rw [hE] at hO
      have hP : Pats (fun _ => True) Q' wr A' n' cap' l := ⟨hs, (hO.sl eP_len).mono fun _ _ => trivial, HE.out.mono fun _ _ r => r.ext HX.out⟩
      have HP := Lib.hid hP
      clear hO hE hP
      go_wp2_with (go_at_call 73; refine (same30_any _ _ _ _ _ _ _ _ _ _ _ _ _ HP.out (H'.out.ext HX.out)).mono ?_; rintro e w3 ⟨rfl, hd⟩)
      go_ret
      exact ⟨rfl, HX.out.trans hd.ext⟩
end Go.Proofs.Ytdocdppimpapiaa

namespace Go.Proofs.Ytdocdppimpapiaa
open Go.RowKit

def prevBad (prev : Option Int) (k : Int) : Bool := match prev with
  | none => false
  | some q => decide (k ≤ q)
def chk (n b : Int) (prev : Option Int) : List Pa → Int
  | [] => 0
  | p :: l => if whatK n b p.1 < 2 then 20 else if prevBad prev p.1 = true then 4 else if 64 < p.2.2.length then 6 else chk n b (some p.1) l
def checkP (n b : Int) (l : List Pa) : Int := if rightB n b = true then (if 20 < l.length then 9 else chk n b none l) else 1
def prevAt (l : List Pa) (k : Nat) : Option Int := if k = 0 then none else (l[k - 1]?).map (·.1)
theorem chk_step {n b : Int} {l : List Pa} {k : Nat} {p : Pa} (h : l[k]? = some p) :
    chk n b (prevAt l k) (l.drop k) = if whatK n b p.1 < 2 then 20 else if prevBad (prevAt l k) p.1 = true then 4 else if 64 < p.2.2.length then 6 else chk n b (prevAt l (k + 1)) (l.drop (k + 1)) := by
  have hk : k < l.length := by
    rcases Nat.lt_or_ge k l.length with h1 | h1
    · exact h1
    · rw [List.getElem?_eq_none h1] at h; cases h
  have h1 : prevAt l (k + 1) = some p.1 := by simp [prevAt, h]
  have h2 : l[k] = p := by rw [List.getElem?_eq_getElem hk] at h; injection h
  rw [List.drop_eq_getElem_cons hk, h1, h2]
  rfl
theorem whatK_bd (n b k : Int) : 0 ≤ whatK n b k ∧ whatK n b k ≤ 4 := by
  unfold whatK
  split
  · split
    · omega
    · split
      · omega
      · split <;> omega
  · omega

/-- What is asked of patches' numbers. -/
def PaOk (l : List Pa) : Prop := ∀ p, p ∈ l → (0 ≤ p.1 ∧ p.1 < 4294967296) ∧ (0 ≤ p.2.1 ∧ p.2.1 ≤ 18446744073709551615) ∧ Bt p.2.2
theorem PaOk.at {l : List Pa} (h : PaOk l) {k : Nat} {p : Pa} (hp : l[k]? = some p) : (0 ≤ p.1 ∧ p.1 < 4294967296) ∧ (0 ≤ p.2.1 ∧ p.2.1 ≤ 18446744073709551615) ∧ Bt p.2.2 := h p (List.mem_of_getElem? hp)

set_option maxHeartbeats 3200000 in
theorem check_any (A : Option Addr) (m c : Nat) (n b : Int) (l : List Pa) (Q Q' : Nat → Prop) (w : World) (h : Pats Q Q' w A m c l) (ho : PaOk l) :
    Calls Try.prog 28 #[.agg #[.int .i64 n, .int .i64 b], .slice A m c] w fun e w' => e = .returned (.int .i64 (checkP n b l)) ∧ Ext w w' := by
  have hm := h.le
  have HM := Lib.hid h.len
  have H := Lib.hid h
  have HO := Lib.hid ho
  clear h ho
  by_cases hr : rightB n b = true
  · by_cases h20 : 20 < m
    · have E : checkP n b l = 9 := by unfold checkP; rw [if_pos hr, if_pos (by rw [← HM.out]; exact h20)]
      rw [E]
      go_enter Try.func28, Try.ntmps28
      go_wp2_with (go_at_call 14; refine (right_any _ _ _).mono ?_; rintro e w' ⟨rfl, he⟩; obtain ⟨hc, hf⟩ := ecell he)
      go_ret
      exact ⟨rfl, ((Ext.refl _).alloc _).trans (by assumption)⟩
    · have E : checkP n b l = chk n b none l := by unfold checkP; rw [if_pos hr, if_neg (by rw [← HM.out]; exact h20)]
      rw [E]
      clear E
      go_enter Try.func28, Try.ntmps28
      go_wp2_with (go_at_call 14; refine (right_any _ _ _).mono ?_; rintro e w' ⟨rfl, he⟩; obtain ⟨hc, hf⟩ := ecell he)
      go_loopw [19] (fun i wr => ∃ k : Nat, k ≤ m ∧ i = .int .i64 k ∧ chk n b (prevAt l k) (l.drop k) = chk n b none l ∧ Ext (w.alloc (.cells #[.int .i64 n, .int .i64 b] 25)) wr) (fun i _ => m - (intOf i).toNat)
      case atStart => exact ⟨0, Nat.zero_le _, rfl, rfl, he⟩
      case round =>
        clear hc hf
        obtain ⟨k, hk, rfl, hch, hx⟩ := hrel
        have HCH := Lib.hid hch
        have HX := Lib.hid hx
        obtain ⟨hcc, hff, hzz⟩ := ecell3 hx
        clear hch hx
        by_cases hlt : k < m
        · obtain ⟨b1, o1, key, ver, B1, m1, c1, d1, rfl, hp, _, hbl, hc0, hc1, hc2, hs1⟩ := H.out.get k hlt
          have hc0 := HX.out.at (((Ext.refl _).alloc _).at hc0)
          have hc1 := HX.out.at (((Ext.refl _).alloc _).at hc1)
          have hc2 := HX.out.at (((Ext.refl _).alloc _).at hc2)
          have hkey := (HO.out.at hp).1
          have hst := chk_step (n := n) (b := b) hp
          have HP := Lib.hid hp
          have HST := Lib.hid hst
          have HS1 := Lib.hid hs1
          have hbd := whatK_bd n b key
          have k0 : (0 : Int) ≤ (k : Int) := by omega
          have k9 : (k : Int) < (m : Int) := by omega
          clear hp hst hs1
          go_wp2_with (go_at_call 12; refine (what_any _ _ _ _ hkey).mono ?_; rintro e w3 ⟨rfl, he3⟩; obtain ⟨hc3, hf3, hz3⟩ := ecell3 he3)
          · go_ret
            have e0 : whatK n b key = 0 := by simpa using ‹(whatK n b key == 0) = true›
            have h1 := HST.out
            rw [HCH.out, if_pos (by show whatK n b key < 2; omega)] at h1
            exact ⟨ret_int h1.symm, ((Ext.refl _).alloc _).trans (HX.out.trans (((Ext.refl _).alloc _).trans he3))⟩
          · go_ret
            have e0 : whatK n b key = 1 := by simpa using ‹(whatK n b key == 1) = true›
            have h1 := HST.out
            rw [HCH.out, if_pos (by show whatK n b key < 2; omega)] at h1
            exact ⟨ret_int h1.symm, ((Ext.refl _).alloc _).trans (HX.out.trans (((Ext.refl _).alloc _).trans he3))⟩
          · have e0 : ¬ whatK n b key < 2 := by
              have h0 : whatK n b key ≠ 0 := by simpa using ‹(whatK n b key == 0) = false›
              have h1 : whatK n b key ≠ 1 := by simpa using ‹(whatK n b key == 1) = false›
              omega
            have HW := Lib.hid e0
            have hb3 := ((Ext.refl wr).alloc (.cells #[.int .u32 key, .int .u64 ver, .slice B1 m1 c1] 105)).trans he3
            have hq2 := hb3.at hc0
            have HB3 := Lib.hid hb3
            clear e0 hb3
            by_cases hk0 : k = 0
            · have hd0 : decide (0 < k) = false := by simp; omega
              have HPB : prevBad (prevAt l k) key = false := by simp [prevAt, hk0, prevBad]
              have HPB' := Lib.hid HPB
              clear HPB hk0
              go_quiet (fail)
              go_wp2
              · go_ret
                have h1 := HST.out
                rw [HCH.out, if_neg (by have := HW.out; omega), HPB'.out, if_neg (by decide), if_pos (by show 64 < d1.length; rw [← HS1.out.len]; omega)] at h1
                exact ⟨ret_int h1.symm, ((Ext.refl _).alloc _).trans (HX.out.trans (HB3.out.drewN _))⟩
              · have h1 := HST.out
                rw [HCH.out, if_neg (by have := HW.out; omega), HPB'.out, if_neg (by decide), if_neg (by show ¬ 64 < d1.length; rw [← HS1.out.len]; omega)] at h1
                exact ⟨⟨k + 1, by omega, by go_num, h1.symm, HX.out.trans (HB3.out.drewN _)⟩, by simp [intOf]; omega⟩
            · obtain ⟨b2, o2, key2, ver2, B2, m2, c2, d2, hA, hp2, _, _, hq0, _, _, _⟩ := H.out.get (k - 1) (by omega)
              simp only [Option.some.injEq, Addr.mk.injEq, and_true] at hA
              obtain ⟨rfl, rfl⟩ := hA
              have hq0 := HB3.out.at (HX.out.at (((Ext.refl _).alloc _).at hq0))
              have hpv : prevAt l k = some key2 := by simp [prevAt, hk0, hp2]
              have HPV := Lib.hid hpv
              have hd0 : decide (0 < k) = true := by simp; omega
              have k1 : (0 : Int) ≤ (k : Int) - 1 := by omega
              have k2 : (1 : Int) ≤ (k : Int) := by omega
              have k3 : 1 ≤ k := by omega
              have k4 : (k : Int) - 1 < (m : Int) := by omega
              clear hp2 hpv hk0
              by_cases hkk : key ≤ key2
              · go_quiet (fail)
                go_wp2
                go_ret
                have h1 := HST.out
                rw [HCH.out, if_neg (by have := HW.out; omega), HPV.out, if_pos (by show decide (key ≤ key2) = true; simp; omega)] at h1
                exact ⟨ret_int h1.symm, ((Ext.refl _).alloc _).trans (HX.out.trans (HB3.out.drewN _))⟩
              · go_quiet (fail)
                go_wp2
                · go_ret
                  have h1 := HST.out
                  rw [HCH.out, if_neg (by have := HW.out; omega), HPV.out, if_neg (by show ¬ decide (key ≤ key2) = true; simp; omega), if_pos (by show 64 < d1.length; rw [← HS1.out.len]; omega)] at h1
                  exact ⟨ret_int h1.symm, ((Ext.refl _).alloc _).trans (HX.out.trans (HB3.out.drewN _))⟩
                · have h1 := HST.out
                  rw [HCH.out, if_neg (by have := HW.out; omega), HPV.out, if_neg (by show ¬ decide (key ≤ key2) = true; simp; omega), if_neg (by show ¬ 64 < d1.length; rw [← HS1.out.len]; omega)] at h1
                  exact ⟨⟨k + 1, by omega, by go_num, h1.symm, HX.out.trans (HB3.out.drewN _)⟩, by simp [intOf]; omega⟩
        · go_wp2
          go_ret
          have h1 := HCH.out
          rw [List.drop_eq_nil_of_le (by rw [← HM.out]; omega)] at h1
          exact ⟨ret_int h1, ((Ext.refl _).alloc _).trans HX.out⟩
  · have E : checkP n b l = 1 := by unfold checkP; rw [if_neg hr]
    rw [E]
    go_enter Try.func28, Try.ntmps28
    go_wp2_with (go_at_call 14; refine (right_any _ _ _).mono ?_; rintro e w' ⟨rfl, he⟩; obtain ⟨hc, hf⟩ := ecell he)
    go_ret
    exact ⟨rfl, ((Ext.refl _).alloc _).trans (by assumption)⟩

set_option maxHeartbeats 3200000 in
theorem rcheck_any (A : Option Addr) (m c : Nat) (n b : Int) (l : List Pa) (Q Q' : Nat → Prop) (w : World) (h : Pats Q Q' w A m c l) (ho : PaOk l) :
    Calls Try.prog 30 #[.agg #[.int .i64 n, .int .i64 b], .slice A m c] w fun e w' => e = .returned (.int .i64 (checkP n b l)) ∧ Ext w w' := by
  have hm := h.le
  have HM := Lib.hid h.len
  have H := Lib.hid h
  have HO := Lib.hid ho
  clear h ho
  by_cases hr : rightB n b = true
  · by_cases h20 : 20 < m
    · have E : checkP n b l = 9 := by unfold checkP; rw [if_pos hr, if_pos (by rw [← HM.out]; exact h20)]
      rw [E]
      go_enter Try.func30, Try.ntmps30
      go_wp2_with (go_at_call 15; refine (rright_any _ _ _).mono ?_; rintro e w' ⟨rfl, he⟩; obtain ⟨hc, hf⟩ := ecell he)
      go_ret
      exact ⟨rfl, ((Ext.refl _).alloc _).trans (by assumption)⟩
    · have E : checkP n b l = chk n b none l := by unfold checkP; rw [if_pos hr, if_neg (by rw [← HM.out]; exact h20)]
      rw [E]
      clear E
      go_enter Try.func30, Try.ntmps30
      go_wp2_with (go_at_call 15; refine (rright_any _ _ _).mono ?_; rintro e w' ⟨rfl, he⟩; obtain ⟨hc, hf⟩ := ecell he)
      go_loopw [5] (fun i wr => ∃ k : Nat, k ≤ m ∧ i = .int .i64 k ∧ chk n b (prevAt l k) (l.drop k) = chk n b none l ∧ Ext (w.alloc (.cells #[.int .i64 n, .int .i64 b] 23)) wr) (fun i _ => m - (intOf i).toNat)
      case atStart => exact ⟨0, Nat.zero_le _, rfl, rfl, he⟩
      case round =>
        clear hc hf
        obtain ⟨k, hk, rfl, hch, hx⟩ := hrel
        have HCH := Lib.hid hch
        have HX := Lib.hid hx
        have hs0 := hx.at (cell_new w #[.int .i64 n, .int .i64 b] 23 0 (0, 0) rfl)
        have hs9 := hx.at (cell_new w #[.int .i64 n, .int .i64 b] 23 1 (0, 0) rfl)
        clear hch hx
        by_cases hlt : k < m
        · obtain ⟨b1, o1, key, ver, B1, m1, c1, d1, rfl, hp, _, hbl, hc0, hc1, hc2, hs1⟩ := H.out.get k hlt
          have hc0 := HX.out.at (((Ext.refl _).alloc _).at hc0)
          have hc1 := HX.out.at (((Ext.refl _).alloc _).at hc1)
          have hc2 := HX.out.at (((Ext.refl _).alloc _).at hc2)
          have hkey := (HO.out.at hp).1
          have hst := chk_step (n := n) (b := b) hp
          have HP := Lib.hid hp
          have HST := Lib.hid hst
          have HS1 := Lib.hid hs1
          have hbd := whatK_bd n b key
          have k0 : (0 : Int) ≤ (k : Int) := by omega
          have k9 : (k : Int) < (m : Int) := by omega
          clear hp hst hs1
          go_wp2
          go_region_held3 (fun W => W.cell? ⟨w.heap.size, 0, none⟩ = some (.int .i64 n) ∧ W.cell? ⟨w.heap.size, 1, none⟩ = some (.int .i64 b) ∧ W.cell? ⟨b1, o1 + k * 3, none⟩ = some (.int .u32 key) ∧ Ext wr W)
            (first | exact ⟨hs0, hs9, hc0, (Ext.refl _).drew⟩ | (go_split_ands; refine ⟨he3.at (by assumption), he3.at (by assumption), he3.at (by assumption), Ext.trans (by assumption) he3⟩))
            (first | (go_at_call 13; refine (rwhat_any _ _ _ _ hkey).mono ?_; rintro e w3 ⟨rfl, he3⟩))
          rename_i hS
          obtain ⟨_, _, _, hB⟩ := hS
          have HB := Lib.hid hB
          clear hB
          by_cases hw2 : whatK n b key < 2
          · go_wp2
            go_ret
            have h1 := HST.out
            rw [HCH.out, if_pos hw2] at h1
            exact ⟨ret_int h1.symm, ((Ext.refl _).alloc _).trans (HX.out.trans HB.out)⟩
          · have hc0 := HB.out.at hc0
            have hc2 := HB.out.at hc2
            by_cases hk0 : k = 0
            · have hd0 : decide (0 < k) = false := by simp; omega
              have HPB : prevBad (prevAt l k) key = false := by simp [prevAt, hk0, prevBad]
              have HPB' := Lib.hid HPB
              clear HPB hk0
              go_wp2
              go_quiet (fail)
              go_wp2
              · go_ret
                have h1 := HST.out
                rw [HCH.out, if_neg (show ¬ whatK n b key < 2 by omega), HPB'.out, if_neg (by decide), if_pos (by show 64 < d1.length; rw [← HS1.out.len]; omega)] at h1
                exact ⟨ret_int h1.symm, ((Ext.refl _).alloc _).trans (HX.out.trans (HB.out.drewN _))⟩
              · have h1 := HST.out
                rw [HCH.out, if_neg (show ¬ whatK n b key < 2 by omega), HPB'.out, if_neg (by decide), if_neg (by show ¬ 64 < d1.length; rw [← HS1.out.len]; omega)] at h1
                exact ⟨⟨k + 1, by omega, by go_num, h1.symm, HX.out.trans (HB.out.drewN _)⟩, by simp [intOf]; omega⟩
            · obtain ⟨b2, o2, key2, ver2, B2, m2, c2, d2, hA, hp2, _, _, hq0, _, _, _⟩ := H.out.get (k - 1) (by omega)
              simp only [Option.some.injEq, Addr.mk.injEq, and_true] at hA
              obtain ⟨rfl, rfl⟩ := hA
              have hq0 := HB.out.at (HX.out.at (((Ext.refl _).alloc _).at hq0))
              have hpv : prevAt l k = some key2 := by simp [prevAt, hk0, hp2]
              have HPV := Lib.hid hpv
              have hd0 : decide (0 < k) = true := by simp; omega
              have k1 : (0 : Int) ≤ (k : Int) - 1 := by omega
              have k2 : (1 : Int) ≤ (k : Int) := by omega
              have k3 : 1 ≤ k := by omega
              have k4 : (k : Int) - 1 < (m : Int) := by omega
              clear hp2 hpv hk0
              by_cases hkk : key ≤ key2
              · go_wp2
                go_quiet (fail)
                go_wp2
                go_ret
                have h1 := HST.out
                rw [HCH.out, if_neg (show ¬ whatK n b key < 2 by omega), HPV.out, if_pos (by show decide (key ≤ key2) = true; simp; omega)] at h1
                exact ⟨ret_int h1.symm, ((Ext.refl _).alloc _).trans (HX.out.trans (HB.out.drewN _))⟩
              · go_wp2
                go_quiet (fail)
                go_wp2
                · go_ret
                  have h1 := HST.out
                  rw [HCH.out, if_neg (show ¬ whatK n b key < 2 by omega), HPV.out, if_neg (by show ¬ decide (key ≤ key2) = true; simp; omega), if_pos (by show 64 < d1.length; rw [← HS1.out.len]; omega)] at h1
                  exact ⟨ret_int h1.symm, ((Ext.refl _).alloc _).trans (HX.out.trans (HB.out.drewN _))⟩
                · have h1 := HST.out
                  rw [HCH.out, if_neg (show ¬ whatK n b key < 2 by omega), HPV.out, if_neg (by show ¬ decide (key ≤ key2) = true; simp; omega), if_neg (by show ¬ 64 < d1.length; rw [← HS1.out.len]; omega)] at h1
                  exact ⟨⟨k + 1, by omega, by go_num, h1.symm, HX.out.trans (HB.out.drewN _)⟩, by simp [intOf]; omega⟩
        · go_wp2
          go_ret
          have h1 := HCH.out
          rw [List.drop_eq_nil_of_le (by rw [← HM.out]; omega)] at h1
          exact ⟨ret_int h1, ((Ext.refl _).alloc _).trans HX.out⟩
  · have E : checkP n b l = 1 := by unfold checkP; rw [if_neg hr]
    rw [E]
    go_enter Try.func30, Try.ntmps30
    go_wp2_with (go_at_call 15; refine (rright_any _ _ _).mono ?_; rintro e w' ⟨rfl, he⟩; obtain ⟨hc, hf⟩ := ecell he)
    go_ret
    exact ⟨rfl, ((Ext.refl _).alloc _).trans (by assumption)⟩
end Go.Proofs.Ytdocdppimpapiaa

namespace Go.Proofs.Ytdocdppimpapiaa
open Go.RowKit

def encOne (p : Pa) : List Int := beB p.1 4 ++ (beB p.2.1 8 ++ textB p.2.2)
/-- The bytes of an intent that may be. -/
def encP (l : List Pa) : List Int := if l = [] then [] else beB l.length 1 ++ l.flatMap encOne

theorem chk_zero {n b : Int} : ∀ (l : List Pa) (prev : Option Int), chk n b prev l = 0 → ∀ p ∈ l, p.2.2.length ≤ 64
  | [], _, _, p, hp => by cases hp
  | q :: l, prev, h, p, hp => by
    unfold chk at h
    split at h
    · exact absurd h (by decide)
    · split at h
      · exact absurd h (by decide)
      · split at h
        · exact absurd h (by decide)
        · rcases List.mem_cons.1 hp with rfl | hp
          · omega
          · exact chk_zero l _ h p hp
theorem checkP_zero {n b : Int} {l : List Pa} (h : checkP n b l = 0) : rightB n b = true ∧ l.length ≤ 20 ∧ chk n b none l = 0 := by
  unfold checkP at h
  split at h
  · split at h
    · exact absurd h (by decide)
    · exact ⟨by assumption, by omega, h⟩
  · exact absurd h (by decide)
theorem encOne_len {p : Pa} (h : p.2.2.length ≤ 64) : (encOne p).length ≤ 78 := by
  unfold encOne textB
  simp only [List.length_append, beB_len]
  omega
theorem encs_len : ∀ (l : List Pa), (∀ p ∈ l, p.2.2.length ≤ 64) → (l.flatMap encOne).length ≤ 78 * l.length
  | [], _ => by simp
  | p :: l, h => by
    have h1 := encOne_len (h p List.mem_cons_self)
    have h2 := encs_len l fun q hq => h q (List.mem_cons_of_mem _ hq)
    rw [List.flatMap_cons, List.length_append, List.length_cons]
    omega
theorem putO_ok {most : Int} {l b : List Int} (h : (l.length : Int) + b.length ≤ most) : putO most (l, 0) b = (l ++ b, 0) := by
  unfold putO
  rw [if_pos rfl, if_neg (by show ¬ most - (l.length : Int) < b.length; omega)]
/-- What lies in the writer when k patches have been put. -/
def putSt (l : List Pa) (k : Nat) : List Int := beB l.length 1 ++ (l.take k).flatMap encOne
theorem putSt_len (l : List Pa) (k : Nat) (h : ∀ p ∈ l, p.2.2.length ≤ 64) (hl : l.length ≤ 20) (hk : k ≤ l.length) : (putSt l k).length ≤ 1 + 78 * k := by
  unfold putSt
  have := encs_len (l.take k) fun q hq => h q (List.mem_of_mem_take hq)
  rw [List.length_take] at this
  rw [List.length_append, beB_len]
  omega
theorem putSt_next (l : List Pa) (k : Nat) (p : Pa) (h : l[k]? = some p) : putSt l k ++ beB p.1 4 ++ beB p.2.1 8 ++ textB p.2.2 = putSt l (k + 1) := by
  unfold putSt
  rw [List.take_add_one, h, Option.toList_some, List.flatMap_append]
  simp [encOne, List.append_assoc]

/-- Bytes and an error come back, the bytes in new memory. -/
def RetBE (b : List Int) (er : Int) (w : World) (e : Ending) (w' : World) : Prop :=
  ∃ A n cap, e = .returned (.tuple #[.slice A n cap, .int .i64 er]) ∧ Sl (eI .u8) 1 (fun k => w.heap.size ≤ k) w' A n cap b ∧ Ext w w'
theorem p256_1 {x : Int} (h : x ≤ 20) : x < 256 ^ 1 := by omega
theorem p256_4 {x : Int} (h : x < 4294967296) : x < 256 ^ 4 := by omega
theorem p256_8 {x : Int} (h : x ≤ 18446744073709551615) : x < 256 ^ 8 := by omega

set_option maxHeartbeats 3200000 in
theorem vput_any (A : Option Addr) (m c : Nat) (n b : Int) (l : List Pa) (Q Q' : Nat → Prop) (w : World) (h : Pats Q Q' w A m c l) (ho : PaOk l) :
    Calls Try.prog 24 #[.agg #[.int .i64 n, .int .i64 b], .slice A m c] w (RetBE (if checkP n b l = 0 then encP l else []) (checkP n b l) w) := by
  have HM := Lib.hid h.len
  have H := Lib.hid h
  have HO := Lib.hid ho
  clear h ho
  by_cases hc : checkP n b l = 0
  · rw [if_pos hc, hc]
    obtain ⟨hr, h20, hck⟩ := checkP_zero hc
    have h64 := chk_zero l none hck
    by_cases hl : l = []
    · subst hl
      obtain rfl : m = 0 := HM.out
      have HC := Lib.hid hc
      clear hc hr h20 hck h64
      go_enter Try.func24, Try.ntmps24
      go_wp2_with (go_at_call 28; refine (check_any _ _ _ _ _ _ _ _ _ (H.out.ext ((Ext.refl _).alloc _)) HO.out).mono ?_; rintro e w1 ⟨rfl, he1⟩; rw [HC.out])
      go_ret2
      exact ⟨none, 0, 0, rfl, Sl.nil _ _ none 0 (Nat.zero_le _), ((Ext.refl _).alloc _).trans he1⟩
    · have hm0 : ((m : Int) == 0) = false := by
        have : m ≠ 0 := fun e => hl (List.eq_nil_of_length_eq_zero (by rw [← HM.out]; exact e))
        simp; omega
      have hm20 : m ≤ 20 := by rw [HM.out]; exact h20
      have hE : encP l = putSt l m := by
        unfold encP putSt
        rw [if_neg hl, List.take_of_length_le (by rw [← HM.out]; exact Nat.le_refl _)]
      rw [hE]
      have HC := Lib.hid hc
      have H64 := Lib.hid h64
      have H20 := Lib.hid h20
      clear hc hr h20 hck h64 hl hE
      go_enter Try.func24, Try.ntmps24
      go_wp2_with (first
        | (go_at_call 28; refine (check_any _ _ _ _ _ _ _ _ _ (H.out.ext ((Ext.refl _).alloc _)) HO.out).mono ?_; rintro e w1 ⟨rfl, he1⟩; rw [HC.out])
        | (go_at_call 69; refine (onew_any 2048 _ (by decide)).mono ?_; rintro e w2 ⟨g, rfl, ho2, he2⟩)
        | (go_at_call 70; refine (oPut_any w1.heap.size _ _ _ _ _ 1 _ ho2 (by decide) (by decide) (by omega) (p256_1 (by omega)) (by decide) (by decide)).mono ?_; rintro e w3 ⟨rfl, ho3, hk3⟩))
      have hx0 : Ext w w1 := ((Ext.refl _).alloc _).trans he1
      have hx : Ext w w3 := Kept.ext (hx0.trans he2) hk3 hx0.size
      have hst : OutAt w1.heap.size w3 g 2048 (putSt l 0) 0 := by
        have h1 := ho3
        rw [putO_ok (by simp [beB_len])] at h1
        have h2 : ([] : List Int) ++ beB (m : Int) 1 = putSt l 0 := by unfold putSt; rw [HM.out]; simp
        rw [← h2]
        exact h1
      have HS0 := hx0.size
      clear ho2 ho3 hk3 he2 he1
      have HH := Lib.hid hx
      have HT := Lib.hid hst
      clear hx hst
      go_loopw [29] (fun i wr => ∃ k : Nat, k ≤ m ∧ i = .int .i64 k ∧ OutAt w1.heap.size wr g 2048 (putSt l k) 0 ∧ Ext w wr) (fun i _ => m - (intOf i).toNat)
      case atStart => exact ⟨0, Nat.zero_le _, rfl, HT.out, HH.out⟩
      case round =>
        obtain ⟨k, hk, rfl, hst, hx⟩ := hrel
        have HT := Lib.hid hst
        have HX := Lib.hid hx
        clear hst hx
        by_cases hlt : k < m
        · obtain ⟨b1, o1, key, ver, B1, m1, c1, d1, rfl, hp, _, hbl, hc0, hc1, hc2, hs1⟩ := H.out.get k hlt
          have hc0 := HX.out.at hc0
          have hc1 := HX.out.at hc1
          have hc2 := HX.out.at hc2
          obtain ⟨⟨hk0, hk1⟩, ⟨hv0, hv1⟩, _⟩ := HO.out.at hp
          have hd64 : d1.length ≤ 64 := H64.out _ (List.mem_of_getElem? hp)
          have hlen := putSt_len l k H64.out H20.out (by rw [← HM.out]; exact hk)
          have HN := Lib.hid (putSt_next l k _ hp)
          have HS1 := Lib.hid hs1
          have k0 : (0 : Int) ≤ (k : Int) := by omega
          have k9 : (k : Int) < (m : Int) := by omega
          have hbox := heap_alloc_new wr (.cells #[.int .u32 key, .int .u64 ver, .slice B1 m1 c1] 105)
          have HB := Lib.hid hbox
          clear hp hs1 hbox
          have hx1 : Ext w (wr.alloc (.cells #[.int .u32 key, .int .u64 ver, .slice B1 m1 c1] 105)) := HX.out.alloc _
          go_wp2_with fail
          refine (oPut_any w1.heap.size _ _ _ _ _ 4 _ (HT.out.ext ((Ext.refl _).alloc _)) (by omega) (by decide) hk0 (p256_4 hk1) (by decide) (by decide)).mono ?_
          rintro e w4 ⟨rfl, ho4, hk4⟩
          have hb4 := hk4.oth _ _ _ _ HB.out (by decide) (by decide)
          have q1 := cell_of_heap hb4 1
          have q2 := cell_of_heap hb4 2
          simp only [List.getElem?_toArray, List.getElem?_cons_zero, List.getElem?_cons_succ] at q1 q2
          rw [putO_ok (by simp only [beB_len]; omega)] at ho4
          have hx4 : Ext w w4 := Kept.ext hx1 hk4 HS0
          have HB4 := Lib.hid hb4
          have HO4 := Lib.hid ho4
          clear hk4 hb4 ho4
          go_wp2_with fail
          refine (oPut_any w1.heap.size _ _ _ _ _ 8 _ HO4.out (by simp only [List.length_append, beB_len]; omega) (by decide) hv0 (p256_8 hv1) (by decide) (by decide)).mono ?_
          rintro e w5 ⟨rfl, ho5, hk5⟩
          have hb5 := hk5.oth _ _ _ _ HB4.out (by decide) (by decide)
          have q3 := cell_of_heap hb5 2
          simp only [List.getElem?_toArray, List.getElem?_cons_zero, List.getElem?_cons_succ] at q3
          rw [putO_ok (by simp only [List.length_append, beB_len]; omega)] at ho5
          have hx5 : Ext w w5 := Kept.ext hx4 hk5 HS0
          have HO5 := Lib.hid ho5
          clear hk5 hb5 ho5
          go_wp2_with fail
          refine (oText_any w1.heap.size _ _ _ _ _ _ _ _ _ _ HO5.out (HS1.out.ext hx5) (by simp only [List.length_append, beB_len]; omega) (by omega) (by decide)).mono ?_
          rintro e w6 ⟨rfl, ho6, hk6⟩
          rw [putO_ok (by unfold textB; simp only [List.length_append, beB_len]; omega)] at ho6
          have hx6 : Ext w w6 := Kept.ext hx5 hk6 HS0
          have hN := HN.out
          have ho7 : OutAt w1.heap.size w6 g 2048 (putSt l (k + 1)) 0 := by rw [← hN]; exact ho6
          have HO7 := Lib.hid ho7
          clear ho6 hk6 hN ho7
          go_wp2
          exact ⟨⟨k + 1, by omega, by go_num, HO7.out, hx6⟩, by simp [intOf]; omega⟩
        · obtain rfl : k = m := by omega
          have hlen := putSt_len l k H64.out H20.out (by rw [← HM.out]; exact Nat.le_refl _)
          go_wp2_with (go_at_call 72; refine (oDone_any _ _ _ _ _ _ HT.out (by omega)).mono ?_; rintro e w7 ⟨A7, n7, cap7, rfl, hs7, he7⟩)
          go_ret2
          exact ⟨A7, n7, cap7, rfl, hs7.mono fun j hj => Nat.le_trans HX.out.size hj, HX.out.trans he7⟩
  · rw [if_neg hc]
    have e0 : (checkP n b l != 0) = true := by simp [hc]
    clear hc
    go_enter Try.func24, Try.ntmps24
    go_wp2_with (go_at_call 28; refine (check_any _ _ _ _ _ _ _ _ _ (H.out.ext ((Ext.refl _).alloc _)) HO.out).mono ?_; rintro e w1 ⟨rfl, he1⟩)
    go_ret2
    exact ⟨none, 0, 0, rfl, Sl.nil _ _ none 0 (Nat.zero_le _), ((Ext.refl _).alloc _).trans he1⟩
end Go.Proofs.Ytdocdppimpapiaa

namespace Go.Proofs.Ytdocdppimpapiaa
open Go.RowKit

/-- One patch more is read. -/
def stepP (r : List Pa × List Int × Int) : List Pa × List Int × Int :=
  (r.1 ++ [((getI r.2.1 r.2.2 4).1, (getI (getI r.2.1 r.2.2 4).2.1 (getI r.2.1 r.2.2 4).2.2 8).1, (textI (getI (getI r.2.1 r.2.2 4).2.1 (getI r.2.1 r.2.2 4).2.2 8).2.1 (getI (getI r.2.1 r.2.2 4).2.1 (getI r.2.1 r.2.2 4).2.2 8).2.2 64).1)],
    (textI (getI (getI r.2.1 r.2.2 4).2.1 (getI r.2.1 r.2.2 4).2.2 8).2.1 (getI (getI r.2.1 r.2.2 4).2.1 (getI r.2.1 r.2.2 4).2.2 8).2.2 64).2)
def readK (l : List Int) (er : Int) : Nat → List Pa × List Int × Int
  | 0 => ([], l, er)
  | k + 1 => stepP (readK l er k)
/-- The intent of bytes; the error. -/
def getP (n b : Int) (bs : List Int) : List Pa × Int :=
  if bs = [] then ([], 0) else if rightB n b = true then
    (if doneI (readK (uptoI bs 0 1 20).2.1 (uptoI bs 0 1 20).2.2 (uptoI bs 0 1 20).1.toNat).2.1 (readK (uptoI bs 0 1 20).2.1 (uptoI bs 0 1 20).2.2 (uptoI bs 0 1 20).1.toNat).2.2 = 0 then
      (if (readK (uptoI bs 0 1 20).2.1 (uptoI bs 0 1 20).2.2 (uptoI bs 0 1 20).1.toNat).1 = [] ∨ checkP n b (readK (uptoI bs 0 1 20).2.1 (uptoI bs 0 1 20).2.2 (uptoI bs 0 1 20).1.toNat).1 ≠ 0 then ([], 4)
        else ((readK (uptoI bs 0 1 20).2.1 (uptoI bs 0 1 20).2.2 (uptoI bs 0 1 20).1.toNat).1, 0))
      else ([], doneI (readK (uptoI bs 0 1 20).2.1 (uptoI bs 0 1 20).2.2 (uptoI bs 0 1 20).1.toNat).2.1 (readK (uptoI bs 0 1 20).2.1 (uptoI bs 0 1 20).2.2 (uptoI bs 0 1 20).1.toNat).2.2))
    else ([], 1)
theorem getP_nil (n b : Int) : getP n b [] = ([], 0) := rfl
theorem getP_bad {n b : Int} {bs : List Int} (h : bs ≠ []) (hr : rightB n b ≠ true) : getP n b bs = ([], 1) := by unfold getP; rw [if_neg h, if_neg hr]
theorem getP_err {n b : Int} {bs : List Int} {u : Int × List Int × Int} {r : List Pa × List Int × Int} {k : Nat} {d : Int} (h : bs ≠ []) (hr : rightB n b = true) (hu : uptoI bs 0 1 20 = u) (hk : u.1.toNat = k) (hr2 : readK u.2.1 u.2.2 k = r) (hd : doneI r.2.1 r.2.2 = d) (hd0 : d ≠ 0) :
    getP n b bs = ([], d) := by unfold getP; rw [if_neg h, if_pos hr, hu, hk, hr2, hd, if_neg hd0]
theorem getP_form {n b : Int} {bs : List Int} {u : Int × List Int × Int} {r : List Pa × List Int × Int} {k : Nat} (h : bs ≠ []) (hr : rightB n b = true) (hu : uptoI bs 0 1 20 = u) (hk : u.1.toNat = k) (hr2 : readK u.2.1 u.2.2 k = r) (hd : doneI r.2.1 r.2.2 = 0) (hf : r.1 = [] ∨ checkP n b r.1 ≠ 0) :
    getP n b bs = ([], 4) := by unfold getP; rw [if_neg h, if_pos hr, hu, hk, hr2, if_pos hd, if_pos hf]
theorem getP_ok {n b : Int} {bs : List Int} {u : Int × List Int × Int} {r : List Pa × List Int × Int} {k : Nat} (h : bs ≠ []) (hr : rightB n b = true) (hu : uptoI bs 0 1 20 = u) (hk : u.1.toNat = k) (hr2 : readK u.2.1 u.2.2 k = r) (hd : doneI r.2.1 r.2.2 = 0) (hf : ¬ (r.1 = [] ∨ checkP n b r.1 ≠ 0)) :
    getP n b bs = (r.1, 0) := by unfold getP; rw [if_neg h, if_pos hr, hu, hk, hr2, if_pos hd, if_neg hf]

theorem uptoI_bt {l : List Int} (h : Bt l) (er : Int) (k : Nat) (m : Int) : Bt (uptoI l er k m).2.1 := by
  unfold uptoI
  split
  · split
    · exact Bt.nil
    · split
      · exact Bt.nil
      · exact h.drop k
  · exact h
theorem getI_bt {l : List Int} (h : Bt l) (er : Int) (k : Nat) : Bt (getI l er k).2.1 := by
  unfold getI
  split
  · split
    · exact Bt.nil
    · exact h.drop k
  · exact h
theorem rawI_bt {l : List Int} (h : Bt l) (er : Int) (k : Nat) : Bt (rawI l er k).1 ∧ Bt (rawI l er k).2.1 := by
  unfold rawI
  split
  · split
    · exact ⟨Bt.nil, Bt.nil⟩
    · exact ⟨h.take k, h.drop k⟩
  · exact ⟨Bt.nil, h⟩
theorem textI_bt {l : List Int} (h : Bt l) (er m : Int) : Bt (textI l er m).1 ∧ Bt (textI l er m).2.1 := by
  unfold textI
  split
  · split
    · exact ⟨Bt.nil, Bt.nil⟩
    · split
      · exact ⟨Bt.nil, Bt.nil⟩
      · exact rawI_bt (h.drop 2) 0 _
  · exact ⟨Bt.nil, h⟩
theorem getI_bd {l : List Int} (h : Bt l) (er : Int) (k : Nat) : 0 ≤ (getI l er k).1 ∧ (getI l er k).1 < 256 ^ k := by
  have h0 : (0 : Int) < 256 ^ k := Int.pow_pos (by decide)
  unfold getI
  split
  · split
    · exact ⟨Int.le_refl _, h0⟩
    · rename_i hk
      have h1 := numB_bd _ (h.take k)
      rw [show (l.take k).length = k by rw [List.length_take]; omega] at h1
      exact h1
  · exact ⟨Int.le_refl _, h0⟩
theorem uptoI_bd {l : List Int} (h : Bt l) (er : Int) (k : Nat) {m : Int} (hm : 0 ≤ m) : 0 ≤ (uptoI l er k m).1 ∧ (uptoI l er k m).1 ≤ m := by
  unfold uptoI
  split
  · split
    · exact ⟨Int.le_refl _, hm⟩
    · split
      · exact ⟨Int.le_refl _, hm⟩
      · exact ⟨(numB_bd _ (h.take k)).1, by show numB (l.take k) ≤ m; omega⟩
  · exact ⟨Int.le_refl _, hm⟩
theorem lt4 {x : Int} (h : x < 256 ^ 4) : x < 4294967296 := by omega
theorem le8 {x : Int} (h : x < 256 ^ 8) : x ≤ 18446744073709551615 := by omega
theorem readK_ok {l : List Int} (h : Bt l) (er : Int) : ∀ k, PaOk (readK l er k).1 ∧ Bt (readK l er k).2.1 ∧ (readK l er k).1.length = k
  | 0 => ⟨(fun p hp => by cases hp), h, rfl⟩
  | k + 1 => by
    obtain ⟨h1, h2, h3⟩ := readK_ok h er k
    have e : readK l er (k + 1) = stepP (readK l er k) := rfl
    rw [e]
    generalize readK l er k = r at *
    have g1 := getI_bt h2 r.2.2 4
    have g2 := getI_bt g1 (getI r.2.1 r.2.2 4).2.2 8
    have g3 := textI_bt g2 (getI (getI r.2.1 r.2.2 4).2.1 (getI r.2.1 r.2.2 4).2.2 8).2.2 64
    have b1 := getI_bd h2 r.2.2 4
    have b2 := getI_bd g1 (getI r.2.1 r.2.2 4).2.2 8
    refine ⟨fun p hp => ?_, g3.2, ?_⟩
    · simp only [stepP, List.mem_append, List.mem_singleton] at hp
      rcases hp with hp | rfl
      · exact h1 p hp
      · exact ⟨⟨b1.1, lt4 b1.2⟩, ⟨b2.1, le8 b2.2⟩, g3.1⟩
    · simp only [stepP, List.length_append, List.length_singleton]; omega

/-- Patches and an error come back. -/
def RetPE (r : List Pa × Int) (w : World) (e : Ending) (w' : World) : Prop :=
  ∃ A n cap, e = .returned (.tuple #[.slice A n cap, .int .i64 r.2]) ∧ Pats (fun _ => True) (fun _ => True) w' A n cap r.1 ∧ Ext w w'
theorem Pats.nil (Q Q' : Nat → Prop) (w : World) : Pats Q Q' w none 0 0 [] := ⟨[], Sl.nil _ _ none 0 (Nat.zero_le _), Each.nil _⟩
theorem wrap_u32' {x : Int} (h0 : 0 ≤ x) (h1 : x < 4294967296) : IntKind.u32.wrap x = x := IntWalk.u32_in x ⟨h0, by omega⟩

/-- Where the reading of patches stands: the row of those that have been read, their bytes, the reader at g. -/
structure GSt (R : Nat → Prop) (base g : Nat) (W0 wr : World) (A : Option Addr) (n cap : Nat) (r : List Pa × List Int × Int) : Prop where
  ex : ∃ hs, Ow eP 3 105 base wr A n cap hs ∧ Each (PaR (fun q => q ≠ g ∧ (Value.slice A n cap).ownBlock ≠ some q) wr) hs r.1
  inat : InAt R wr g r.2.1 r.2.2
  ext : Ext W0 wr
  base_le : base ≤ wr.heap.size
  g_lt : g < base
  r_lt : ∀ q, R q → q < base
  W0_le : W0.heap.size ≤ g
theorem Sl.num_in {k : IntKind} {Q : Nat → Prop} {w : World} {A : Option Addr} {n cap : Nat} {l : List Int} (h : Sl (eI k) 1 Q w A n cap l) : Sl (eI k) 1 (fun j => Q j ∧ j < w.heap.size) w A n cap l := h.in'

theorem GSt.step {R : Nat → Prop} {base g : Nat} {W0 wr w5 w6 w7 : World} {A A7 B : Option Addr} {n cap n7 cap7 m c : Nat} {r : List Pa × List Int × Int} {hs : List PaH} {key ver : Int} {d l' : List Int} {er' : Int} {o : Obj}
    (h : GSt R base g W0 wr A n cap r) (hO0 : Ow eP 3 105 base wr A n cap hs) (hE : Each (PaR (fun q => q ≠ g ∧ (Value.slice A n cap).ownBlock ≠ some q) wr) hs r.1)
    (h5 : Mut g wr w5) (h6 : Mut g w5 w6) (hi : InAt R w6 g l' er') (hd : Sl (eI .u8) 1 (fun q => w5.heap.size ≤ q) w6 B m c d)
    (hO : Ow eP 3 105 base w7 A7 n7 cap7 (hs ++ [(key, ver, B, m, c)])) (hg : (w6.alloc o).grownBy w7 (Value.slice A n cap).ownBlock)
    (hrow : ∀ q, (Value.slice A7 n7 cap7).ownBlock = some q → (Value.slice A n cap).ownBlock = some q ∨ q = (w6.alloc o).heap.size) :
    GSt R base g W0 w7 A7 n7 cap7 (r.1 ++ [(key, ver, d)], l', er') := by
  have hm := h5.trans h6
  have hal : Ext w6 (w6.alloc o) := (Ext.refl _).alloc _
  have s5 := h5.size
  have s6 := h6.size
  have s7 := hg.size
  have s67 : w6.heap.size < (w6.alloc o).heap.size := by simp
  have hbw := h.base_le
  have hgb := h.g_lt
  -- a block of the elder world, neither g nor the row
  have keep : ∀ q, q ≠ g → (Value.slice A n cap).ownBlock ≠ some q → q < w6.heap.size → w7.heap[q]? = w6.heap[q]? := fun q _ h2 h3 =>
    (hg.block q (Nat.lt_trans h3 s67) fun e => h2 e.symm).trans (hal.block q h3)
  have rows : ∀ q, (Value.slice A n cap).ownBlock = some q → base ≤ q ∧ q < wr.heap.size := hO0.lt
  have newne : ∀ q, q < w6.heap.size → (Value.slice A n cap).ownBlock ≠ some q → (Value.slice A7 n7 cap7).ownBlock ≠ some q := fun q h1 h2 e => by
    rcases hrow q e with e | e
    · exact h2 e
    · omega
  refine ⟨⟨_, hO, ?_⟩, ?_, ?_, by omega, hgb, h.r_lt, h.W0_le⟩
  · refine ⟨by rw [List.length_append, List.length_append, hE.length]; rfl, fun i x y hx hy => ?_⟩
    rw [List.getElem?_append] at hx hy
    split at hx
    · rename_i hi'
      rw [if_pos (by rw [← hE.length]; exact hi')] at hy
      have pr := hE.all i x y hx hy
      refine ⟨pr.key, pr.ver, (pr.dat.num_in.step (w' := w7) fun q hq hlt => ?_).mono fun q hq => ⟨hq.1.1, newne q (by omega) hq.1.2⟩⟩
      rw [keep q hq.1.1 hq.1.2 (by omega)]
      exact hm.block q hlt fun e => hq.1.1 (by injection e)
    · rename_i hi'
      rw [if_neg (by rw [← hE.length]; exact hi')] at hy
      have hil : i - hs.length = 0 := by
        rcases Nat.eq_zero_or_pos (i - hs.length) with h1 | h1
        · exact h1
        · rw [List.getElem?_eq_none (by simp; omega)] at hx; cases hx
      rw [hil] at hx
      rw [← hE.length, hil] at hy
      simp only [List.getElem?_cons_zero, Option.some.injEq] at hx hy
      subst hx hy
      have hne : ∀ q, w5.heap.size ≤ q → (Value.slice A n cap).ownBlock ≠ some q := fun q h1 e => by have := (rows q e).2; omega
      refine ⟨rfl, rfl, (hd.num_in.step (w' := w7) fun q hq hlt => ?_).mono fun q hq => ⟨by have := hq.1; omega, newne q hq.2 (hne q hq.1)⟩⟩
      exact keep q (by have := hq.1; omega) (hne q hq.1) hlt
  · refine hi.mut ?_ fun q h1 h2 h3 => ?_
    · have hne : (Value.slice A n cap).ownBlock ≠ some g := fun e => by have := (rows g e).1; omega
      exact (hg.block g (by have := hi.lt; omega) fun e => hne e.symm).trans (hal.block g hi.lt)
    · exact keep q h1 (fun e => by have := (rows q e).1; have := h.r_lt q h2; omega) h3
  · have e1 : Ext W0 w6 := Mut.ext h.ext hm h.W0_le
    exact (e1.alloc o).grown hg fun q hq => by have := (rows q hq).1; have := h.W0_le; omega

set_option maxHeartbeats 3200000 in
theorem vget_any (n b : Int) (A : Option Addr) (m c : Nat) (bs : List Int) (Q : Nat → Prop) (w : World) (h : Sl (eI .u8) 1 Q w A m c bs) (hb : Bt bs) (hl : bs.length ≤ 1048576) :
    Calls Try.prog 22 #[.agg #[.int .i64 n, .int .i64 b], .slice A m c] w (RetPE (getP n b bs) w) := by
  have HL := Lib.hid h.len
  have H := Lib.hid h
  have HB := Lib.hid hb
  clear h hb
  by_cases h0 : bs = []
  · subst h0
    obtain rfl : m = 0 := HL.out
    rw [getP_nil]
    go_enter Try.func22, Try.ntmps22
    go_wp2
    go_ret2
    exact ⟨none, 0, 0, rfl, Pats.nil _ _ _, by (repeat (first | exact Ext.refl _ | assumption | refine Ext.alloc ?_ _ | refine Ext.drew ?_ | refine Ext.drewN ?_ _ | refine Ext.setCell ?_ (by simp) _ | (refine Ext.trans ?_ (by assumption))))⟩
  have hm0 : ((m : Int) == 0) = false := by
    have : m ≠ 0 := fun e => h0 (List.eq_nil_of_length_eq_zero (by rw [← HL.out]; exact e))
    simp; omega
  by_cases hr : rightB n b = true
  · obtain ⟨u, hu⟩ : ∃ u, uptoI bs 0 1 20 = u := ⟨_, rfl⟩
    have hub := uptoI_bd HB.out 0 1 (m := 20) (by decide)
    have hubt := uptoI_bt HB.out 0 1 20
    rw [hu] at hub hubt
    obtain ⟨k, hk⟩ : ∃ k : Nat, u.1 = (k : Int) := ⟨u.1.toNat, by omega⟩
    have hk20 : k ≤ 20 := by omega
    have HU := Lib.hid hu
    have HK := Lib.hid hk
    have HUB := Lib.hid hubt
    have H0 := Lib.hid h0
    clear hub hubt hu hk h0
    go_enter Try.func22, Try.ntmps22
    go_wp2_with (first
      | (go_at_call 14; refine (right_any _ _ _).mono ?_; rintro e w1 ⟨rfl, he1⟩)
      | (go_at_call 60; refine (of_any _ _ _ _ _ _ (H.out.ext (((Ext.refl _).alloc _).trans he1)) HB.out hl).mono ?_; rintro e w2 ⟨g, rfl, hg2, hi2, he2⟩)
      | (go_at_call 61; refine (upto_any _ _ _ 1 _ _ hi2 (by decide) (by decide)).mono ?_; rintro e w3 ⟨rfl, hi3, hm3⟩; rw [HU.out] at hi3 ⊢; rw [HK.out]))
    have hW0 : Ext (w.alloc (.cells #[.int .i64 n, .int .i64 b] 25)) w2 := he1.trans he2
    have hst : GSt (fun k => w1.heap.size ≤ k ∧ k < g) w3.heap.size g (w.alloc (.cells #[.int .i64 n, .int .i64 b] 25)) w3 none 0 0 (readK u.2.1 u.2.2 0) :=
      ⟨⟨[], Ow.nil _, Each.nil _⟩, hi3, Mut.ext hW0 hm3 (Nat.le_trans he1.size hg2), Nat.le_refl _, Nat.lt_of_lt_of_le hi2.lt hm3.size, fun q hq => Nat.lt_trans hq.2 (Nat.lt_of_lt_of_le hi2.lt hm3.size), Nat.le_trans he1.size hg2⟩
    have HST := Lib.hid hst
    clear hst hi2 hi3 hm3 he1 he2 hW0
    go_loopw [7, 21] (fun v i wr => ∃ (j n' cap' : Nat) (A' : Option Addr), j ≤ k ∧ i = .int .u64 j ∧ v = .slice A' n' cap' ∧ GSt (fun k => w1.heap.size ≤ k ∧ k < g) w3.heap.size g (w.alloc (.cells #[.int .i64 n, .int .i64 b] 25)) wr A' n' cap' (readK u.2.1 u.2.2 j)) (fun _ i _ => k - (intOf i).toNat)
    case atStart => exact ⟨0, 0, 0, none, Nat.zero_le _, rfl, rfl, HST.out⟩
    case round =>
      clear HST
      obtain ⟨j, n', cap', A', hj, rfl, rfl, hst⟩ := hrel
      obtain ⟨hrok, hrbt, hrlen⟩ := readK_ok HUB.out u.2.2 j
      have HST := Lib.hid hst
      have HRB := Lib.hid hrbt
      clear hst hrok hrbt
      by_cases hlt : j < k
      · obtain ⟨hs, hO, hE⟩ := HST.out.ex
        have hlen : hs.length = j := by rw [hE.length]; exact hrlen
        have HO := Lib.hid hO
        have HE := Lib.hid hE
        have HLN := Lib.hid hlen
        have HRL := Lib.hid hrlen
        obtain ⟨r, hr2⟩ : ∃ r, readK u.2.1 u.2.2 j = r := ⟨_, rfl⟩
        have hstep : readK u.2.1 u.2.2 (j + 1) = stepP r := by rw [← hr2]; rfl
        have HSP := Lib.hid hstep
        have HR2 := Lib.hid hr2
        have g1 := getI_bt HRB.out (readK u.2.1 u.2.2 j).2.2 4
        have b1 := getI_bd HRB.out (readK u.2.1 u.2.2 j).2.2 4
        rw [hr2] at g1 b1
        have G1 := Lib.hid g1
        obtain ⟨b1l, b1h⟩ := b1
        have b1h := lt4 b1h
        clear hO hE hlen hrlen hstep hr2 g1
        go_wp2_with fail
        refine (iget_any _ _ _ 4 _ HST.out.inat (by decide) (by decide)).mono ?_
        rintro e w4 ⟨rfl, hi4, hm4⟩
        rw [HR2.out] at hi4 ⊢
        have HI4 := Lib.hid hi4
        have HM4 := Lib.hid hm4
        clear hi4 hm4
        go_wp2_with fail
        refine (iget_any _ _ _ 8 _ HI4.out (by decide) (by decide)).mono ?_
        rintro e w5 ⟨rfl, hi5, hm5⟩
        have HI5 := Lib.hid hi5
        have HM5 := Lib.hid hm5
        clear hi5 hm5
        go_wp2_with fail
        refine (itext_any _ _ _ 64 _ HI5.out).mono ?_
        rintro e w6 ⟨B6, n6, c6, rfl, hs6, hi6, hm6⟩
        have HS6 := Lib.hid hs6
        have HI6 := Lib.hid hi6
        have HM6 := Lib.hid hm6
        clear hs6 hi6 hm6
        have hgl := HST.out.g_lt
        have hO6 := (((HO.out.mut HM4.out hgl).mut HM5.out hgl).mut HM6.out hgl).alloc (.cells #[.int .u32 (getI r.2.1 r.2.2 4).1, .int .u64 (getI (getI r.2.1 r.2.2 4).2.1 (getI r.2.1 r.2.2 4).2.2 8).1, .slice B6 n6 c6] 105)
        have HO6 := Lib.hid hO6
        have hbs : w3.heap.size ≤ w6.heap.size := Nat.le_trans HST.out.base_le ((HM4.out.trans HM5.out).trans HM6.out).size
        clear hO6
        go_wp2_with (at_builtin; refine wpList_app _ rfl _ _ 37 rfl info_pv Try.underlying37 rfl (by decide) eP_len eP_one HO6.out rfl (Sl.laid eP_len w6 [((getI r.2.1 r.2.2 4).1, (getI (getI r.2.1 r.2.2 4).2.1 (getI r.2.1 r.2.2 4).2.2 8).1, B6, n6, c6)] _ 105 1 rfl rfl (by decide)) rfl (by rw [HLN.out]; simp; omega) (by rw [HLN.out]; simp; omega) (by simp; omega) ?_; intro A7 n7 cap7 w7 hO7 hg7 hrow7 _; have HO7 := Lib.hid hO7; have HG7 := Lib.hid hg7; have HR7 := Lib.hid hrow7; clear hO7 hg7 hrow7)
        have hst := HST.out
        have hE := HE.out
        rw [HR2.out] at hst hE
        have hfin := GSt.step hst HO.out hE (HM4.out.trans HM5.out) HM6.out HI6.out HS6.out HO7.out HG7.out HR7.out
        have HF := Lib.hid hfin
        clear hst hE hfin
        refine ⟨⟨j + 1, n7, cap7, A7, by omega, by go_num, rfl, ?_⟩, by simp [intOf]; omega⟩
        rw [HSP.out]
        exact HF.out
      · obtain rfl : j = k := by omega
        obtain ⟨r, hr2⟩ : ∃ r, readK u.2.1 u.2.2 j = r := ⟨_, rfl⟩
        have hst := HST.out
        have hok := (readK_ok HUB.out u.2.2 j).1
        rw [hr2] at hst hok hrlen
        obtain ⟨hs, hO, hE⟩ := hst.ex
        have hP : Pats (fun _ => True) (fun _ => True) wr A' n' cap' r.1 := ⟨hs, (hO.sl eP_len).mono fun _ _ => trivial, hE.mono fun _ _ pr => pr.mono fun _ _ => trivial⟩
        have hn' : n' = r.1.length := hP.len
        have hbox0 := hst.ext.at (cell_new w #[.int .i64 n, .int .i64 b] 25 0 (0, 0) rfl)
        have hbox1 := hst.ext.at (cell_new w #[.int .i64 n, .int .i64 b] 25 1 (0, 0) rfl)
        have hex : Ext w wr := ((Ext.refl w).alloc _).trans hst.ext
        have HI := Lib.hid hst.inat
        have HP := Lib.hid hP
        have HOK := Lib.hid hok
        have HR2 := Lib.hid hr2
        have HX := Lib.hid hex
        have HN' := Lib.hid hn'
        have hkk : u.1.toNat = j := by rw [HK.out]; rfl
        have HKK := Lib.hid hkk
        clear hst hO hE hP hok hr2 hex hrlen HST HRB hkk hn'
        obtain ⟨d, hd⟩ : ∃ d, doneI r.2.1 r.2.2 = d := ⟨_, rfl⟩
        have HD := Lib.hid hd
        clear hd
        by_cases hd0 : d = 0
        · subst hd0
          by_cases hn0 : n' = 0
          · have hn00 : ((n' : Int) == 0) = true := by simp [hn0]
            have hr1 : r.1 = [] := List.eq_nil_of_length_eq_zero (by rw [← HN'.out]; exact hn0)
            have E := getP_form (n := n) (b := b) H0.out hr HU.out HKK.out HR2.out HD.out (.inl hr1)
            have EE := Lib.hid E
            clear E hr1 hn0
            go_wp2_with (go_at_call 64; refine (idone_any _ _ _ _ HI.out).mono ?_; rintro e w' ⟨rfl, rfl⟩; rw [HD.out])
            go_ret2
            rw [EE.out]
            exact ⟨none, 0, 0, rfl, Pats.nil _ _ _, HX.out⟩
          · have hn00 : ((n' : Int) == 0) = false := by simp; omega
            have hr1 : ¬ r.1 = [] := fun e => hn0 (by rw [HN'.out, e]; rfl)
            by_cases hck : checkP n b r.1 = 0
            · have E := getP_ok (n := n) (b := b) H0.out hr HU.out HKK.out HR2.out HD.out (fun h => h.elim hr1 fun h => h hck)
              have EE := Lib.hid E
              have HC := Lib.hid hck
              clear E hr1 hn0 hck
              go_wp2_with (first
                | (go_at_call 64; refine (idone_any _ _ _ _ HI.out).mono ?_; rintro e w' ⟨rfl, rfl⟩; rw [HD.out])
                | (go_at_call 28; refine (check_any _ _ _ _ _ _ _ _ _ HP.out HOK.out).mono ?_; rintro e w8 ⟨rfl, he8⟩; rw [HC.out]))
              go_ret2
              rw [EE.out]
              exact ⟨A', n', cap', rfl, HP.out.ext he8, HX.out.trans he8⟩
            · have E := getP_form (n := n) (b := b) H0.out hr HU.out HKK.out HR2.out HD.out (.inr hck)
              have EE := Lib.hid E
              have hcb : (checkP n b r.1 != 0) = true := by simp [hck]
              clear E hr1 hn0 hck
              go_wp2_with (first
                | (go_at_call 64; refine (idone_any _ _ _ _ HI.out).mono ?_; rintro e w' ⟨rfl, rfl⟩; rw [HD.out])
                | (go_at_call 28; refine (check_any _ _ _ _ _ _ _ _ _ HP.out HOK.out).mono ?_; rintro e w8 ⟨rfl, he8⟩))
              go_ret2
              rw [EE.out]
              exact ⟨none, 0, 0, rfl, Pats.nil _ _ _, HX.out.trans he8⟩
        · have E := getP_err (n := n) (b := b) H0.out hr HU.out HKK.out HR2.out HD.out hd0
          have EE := Lib.hid E
          have hdb : (d != 0) = true := by simp [hd0]
          clear E hd0
          go_wp2_with (go_at_call 64; refine (idone_any _ _ _ _ HI.out).mono ?_; rintro e w' ⟨rfl, rfl⟩; rw [HD.out])
          go_ret2
          rw [EE.out]
          exact ⟨none, 0, 0, rfl, Pats.nil _ _ _, HX.out⟩
  · rw [getP_bad h0 hr]
    have hr' : rightB n b = false := by simpa using hr
    clear h0 hr
    go_enter Try.func22, Try.ntmps22
    go_wp2_with (go_at_call 14; refine (right_any _ _ _).mono ?_; rintro e w' ⟨rfl, he⟩)
    go_ret2
    exact ⟨none, 0, 0, rfl, Pats.nil _ _ _, by (repeat (first | exact Ext.refl _ | assumption | refine Ext.alloc ?_ _ | refine Ext.drew ?_ | refine Ext.drewN ?_ _ | refine Ext.setCell ?_ (by simp) _ | (refine Ext.trans ?_ (by assumption))))⟩
end Go.Proofs.Ytdocdppimpapiaa

namespace Go.Proofs.Ytdocdppimpapiaa
open Go.RowKit

set_option maxHeartbeats 800000 in
theorem awake30_any (w : World) : Calls Try.prog 20 #[] w fun e w' => e = .returned (.bool true) ∧ Ext w w' := by
  have e1 : whatK 4 9 6 = 4 := by decide
  have e2 : whatI 4 9 6 = 0 := by decide
  have e3 : blockK 4 9 0 = 6 := by decide
  have e4 : rightB 4 9 = true := by decide
  go_enter Try.func20, Try.ntmps20
  go_wp2_with (first
    | (go_at_call 12; refine (what_any _ _ _ _ (by decide)).mono ?_; rintro e w1 ⟨rfl, he1⟩; obtain ⟨hc1, hf1, hz1⟩ := ecell3 he1)
    | (go_at_call 18; refine (block_any _ _ _ _ (by decide)).mono ?_; rintro e w2 ⟨rfl, he2⟩; obtain ⟨hc2, hf2, hz2⟩ := ecell3 he2)
    | (go_at_call 14; refine (right_any _ _ _).mono ?_; rintro e w3 ⟨rfl, he3⟩; obtain ⟨hc3, hf3, hz3⟩ := ecell3 he3))
  go_ret
  exact ⟨rfl, ((((Ext.refl _).alloc _).trans he1).trans he2).trans he3⟩


theorem what_back3 {n b k : Int} (hk : 0 ≤ k) (h : whatK n b k = 3) : inodeK n b (whatI n b k) = k := by
  unfold whatK at h; unfold whatI
  split at h <;> try (exact absurd h (by decide))
  rename_i hc
  have := right_bd hc.1
  rw [if_pos hc]
  split at h <;> try (exact absurd h (by decide))
  split at h <;> try (exact absurd h (by decide))
  split at h <;> try (exact absurd h (by decide))
  rw [if_neg (by omega), if_neg (by omega), if_pos (by omega), inodeK_yes ⟨hc.1, by omega, by omega⟩]; omega
theorem what_back4 {n b k : Int} (h : whatK n b k = 4) : blockK n b (whatI n b k) = k := by
  unfold whatK at h; unfold whatI
  split at h <;> try (exact absurd h (by decide))
  rename_i hc
  have := right_bd hc.1
  rw [if_pos hc]
  split at h <;> try (exact absurd h (by decide))
  split at h <;> try (exact absurd h (by decide))
  split at h <;> try (exact absurd h (by decide))
  rw [if_neg (by omega), if_neg (by omega), if_neg (by omega), blockK_yes ⟨hc.1, by omega, by omega⟩]; omega
theorem what_bd {n b k : Int} (hk : 0 ≤ k ∧ k < 4294967296) : -9223372036854775808 ≤ whatI n b k ∧ whatI n b k ≤ 9223372036854775807 := by
  unfold whatI
  split
  · rename_i hc
    have := right_bd hc.1
    split
    · omega
    · split
      · omega
      · split <;> omega
  · omega

set_option maxHeartbeats 1600000 in
theorem volKeys_any (n b k i : Int) (w : World) (hk : 0 ≤ k ∧ k < 4294967296) (hi : -9223372036854775808 ≤ i ∧ i ≤ 9223372036854775807) :
    Calls Try.prog 3 #[.agg #[.int .i64 n, .int .i64 b], .int .u32 k, .int .i64 i] w fun e w' => e = .returned (.bool true) ∧ Ext w w' := by
  have hI := what_bd (n := n) (b := b) hk
  have T3 : (whatK n b k == 3) = true → (inodeK n b (whatI n b k) != k) = false := fun h => by simp only [beq_iff_eq] at h; simp [what_back3 hk.1 h]
  have T4 : (whatK n b k == 4) = true → (blockK n b (whatI n b k) != k) = false := fun h => by simp only [beq_iff_eq] at h; simp [what_back4 h]
  have T3' := Lib.hid T3
  have T4' := Lib.hid T4
  clear T3 T4
  go_enter Try.func3, Try.ntmps3
  go_wp2_with (first
    | (go_at_call 12; refine (what_any _ _ _ _ hk).mono ?_; rintro e w1 ⟨rfl, he1⟩; obtain ⟨hc1, hf1, hz1⟩ := ecell3 he1)
    | (go_at_call 13; refine (rwhat_any _ _ _ _ hk).mono ?_; rintro e w2 ⟨rfl, he2⟩; obtain ⟨hc2, hf2, hz2⟩ := ecell3 he2))
  have B : Ext ((w.alloc (.cells #[.int .i64 n, .int .i64 b] 23)).alloc (.cells #[.int .i64 n, .int .i64 b] 25)) w2.drew := (he1.trans he2).drew
  have b0 := B.at (((Ext.refl _).alloc _).at (cell_new w #[.int .i64 n, .int .i64 b] 23 0 (0, 0) rfl))
  have b1 := B.at (((Ext.refl _).alloc _).at (cell_new w #[.int .i64 n, .int .i64 b] 23 1 (0, 0) rfl))
  have b2 := B.at (cell_new (w.alloc (.cells #[.int .i64 n, .int .i64 b] 23)) #[.int .i64 n, .int .i64 b] 25 0 (0, 0) rfl)
  have b3 := B.at (cell_new (w.alloc (.cells #[.int .i64 n, .int .i64 b] 23)) #[.int .i64 n, .int .i64 b] 25 1 (0, 0) rfl)
  rw [World.size_alloc] at b2 b3
  have b4 : Ext w w2.drew := (((Ext.refl w).alloc _).alloc _).trans B
  go_region_held3 (fun W => W.cell? ⟨w.heap.size, 0, none⟩ = some (.int .i64 n) ∧ W.cell? ⟨w.heap.size, 1, none⟩ = some (.int .i64 b) ∧ W.cell? ⟨w.heap.size + 1, 0, none⟩ = some (.int .i64 n) ∧ W.cell? ⟨w.heap.size + 1, 1, none⟩ = some (.int .i64 b) ∧ Ext w W)
   (first | exact ⟨b0, b1, b2, b3, b4⟩ | (go_split_ands; refine ⟨he3.at (by assumption), he3.at (by assumption), he3.at (by assumption), he3.at (by assumption), Ext.trans (by assumption) he3⟩))
   (first
    | (go_at_call 14; refine (right_any _ _ _).mono ?_; rintro e w3 ⟨rfl, he3⟩; obtain ⟨hc3, hf3, hz3⟩ := ecell3 he3)
    | (go_at_call 15; refine (rright_any _ _ _).mono ?_; rintro e w3 ⟨rfl, he3⟩; obtain ⟨hc3, hf3, hz3⟩ := ecell3 he3)
    | (go_at_call 16; refine (inode_any _ _ _ _ hi).mono ?_; rintro e w3 ⟨rfl, he3⟩; obtain ⟨hc3, hf3, hz3⟩ := ecell3 he3)
    | (go_at_call 17; refine (rinode_any _ _ _ _ hi).mono ?_; rintro e w3 ⟨rfl, he3⟩; obtain ⟨hc3, hf3, hz3⟩ := ecell3 he3)
    | (go_at_call 18; refine (block_any _ _ _ _ hi).mono ?_; rintro e w3 ⟨rfl, he3⟩; obtain ⟨hc3, hf3, hz3⟩ := ecell3 he3)
    | (go_at_call 19; refine (rblock_any _ _ _ _ hi).mono ?_; rintro e w3 ⟨rfl, he3⟩; obtain ⟨hc3, hf3, hz3⟩ := ecell3 he3))
  rename_i hS
  obtain ⟨s0, s1, s2, s3, s4⟩ := hS
  by_cases t3 : (whatK n b k == 3) = true
  · have t3' := T3'.out t3
    have t4 : (whatK n b k == 4) = false := by simp only [beq_iff_eq] at t3; rw [t3]; rfl
    go_wp2_with (first
      | (go_at_call 16; refine (inode_any _ _ _ _ hI).mono ?_; rintro e w4 ⟨rfl, he4⟩; obtain ⟨hc4, hf4, hz4⟩ := ecell3 he4)
      | (go_at_call 18; refine (block_any _ _ _ _ hI).mono ?_; rintro e w4 ⟨rfl, he4⟩; obtain ⟨hc4, hf4, hz4⟩ := ecell3 he4)
      | (go_at_call 20; refine (awake30_any _).mono ?_; rintro e w5 ⟨rfl, he5⟩))
    go_ret
    exact ⟨rfl, (s4.trans he4).trans he5⟩
  have t3' : (whatK n b k == 3) = false := by simpa using t3
  clear t3
  by_cases t4 : (whatK n b k == 4) = true
  · have t4' := T4'.out t4
    go_wp2_with (first
      | (go_at_call 16; refine (inode_any _ _ _ _ hI).mono ?_; rintro e w4 ⟨rfl, he4⟩; obtain ⟨hc4, hf4, hz4⟩ := ecell3 he4)
      | (go_at_call 18; refine (block_any _ _ _ _ hI).mono ?_; rintro e w4 ⟨rfl, he4⟩; obtain ⟨hc4, hf4, hz4⟩ := ecell3 he4)
      | (go_at_call 20; refine (awake30_any _).mono ?_; rintro e w5 ⟨rfl, he5⟩))
    go_ret
    exact ⟨rfl, (s4.trans he4).trans he5⟩
  · have t4' : (whatK n b k == 4) = false := by simpa using t4
    clear t4
    go_wp2_with (first
      | (go_at_call 16; refine (inode_any _ _ _ _ hI).mono ?_; rintro e w4 ⟨rfl, he4⟩; obtain ⟨hc4, hf4, hz4⟩ := ecell3 he4)
      | (go_at_call 18; refine (block_any _ _ _ _ hI).mono ?_; rintro e w4 ⟨rfl, he4⟩; obtain ⟨hc4, hf4, hz4⟩ := ecell3 he4)
      | (go_at_call 20; refine (awake30_any _).mono ?_; rintro e w5 ⟨rfl, he5⟩))
    go_ret
    exact ⟨rfl, s4.trans he5⟩
end Go.Proofs.Ytdocdppimpapiaa
