/-
  Patches held against each other; the law's own copies of them.
-/
import Derived.Test.YtdocdppimpapiaaVolA
namespace Go.Proofs.Ytdocdppimpapiaa
open Go.RowKit

def eqPa (a b : List Pa) : Bool := decide (a = b)
theorem eqPa_ne {a b : List Pa} (h : a.length ≠ b.length) : eqPa a b = false := decide_eq_false fun e => h (by rw [e])

set_option maxHeartbeats 1600000 in
theorem same30_any (A B : Option Addr) (n m c d : Nat) (a b : List Pa) (Q Q' R R' : Nat → Prop) (w : World) (h : Pats Q Q' w A n c a) (h' : Pats R R' w B m d b) :
    Calls Try.prog 73 #[.slice A n c, .slice B m d] w fun e w' => e = .returned (.bool (eqPa a b)) ∧ Drawn w w' := by
  have hn := h.le
  have hm := h'.le
  have HN := Lib.hid h.len
  have HM := Lib.hid h'.len
  have H := Lib.hid h
  have H' := Lib.hid h'
  clear h h'
  by_cases hl : n = m
  · subst hl
    have E0 : ((n : Int) != (n : Int)) = false := by simp
    go_enter Try.func73, Try.ntmps73
    go_wp2
    go_loopw [5] (fun i wr => ∃ k : Nat, k ≤ n ∧ i = .int .i64 k ∧ a.take k = b.take k ∧ Drawn w wr) (fun i _ => n - (intOf i).toNat)
    case atStart => exact ⟨0, Nat.zero_le _, rfl, rfl, Drawn.refl _⟩
    case round =>
      obtain ⟨k, hk, rfl, hab, hd⟩ := hrel
      have HAB := Lib.hid hab
      clear hab
      by_cases hlt : k < n
      · obtain ⟨b1, o1, k1, v1, B1, m1, c1, d1, rfl, hx, _, hl1, hc1, hc2, hc3, hs1⟩ := (H.out.ext hd.ext).get k hlt
        obtain ⟨b2, o2, k2, v2, B2, m2, c2, d2, rfl, hy, _, hl2, hc4, hc5, hc6, hs2⟩ := (H'.out.ext hd.ext).get k hlt
        have HX := Lib.hid hx
        have HY := Lib.hid hy
        have HS1 := Lib.hid hs1
        have HS2 := Lib.hid hs2
        have k0 : (0 : Int) ≤ (k : Int) := by omega
        have k9 : (k : Int) < (n : Int) := by omega
        clear hx hy hs1 hs2
        by_cases hkk : k1 = k2
        · subst hkk
          have q0 : (k1 != k1) = false := by simp
          by_cases hvv : v1 = v2
          · subst hvv
            have q1 : (v1 != v1) = false := by simp
            by_cases hdd : d1 = d2
            · subst hdd
              have q2 : eqL d1 d1 = true := decide_eq_true rfl
              go_wp2
              go_quiet ((go_at_call 26; exact quietD (same01_any _ _ _ _ _ _ _ _ _ _ _ (HS1.out.ext ((Ext.refl _).drewN _)) (HS2.out.ext ((Ext.refl _).drewN _)))))
              go_wp2
              refine ⟨⟨k + 1, by omega, by go_num, take_step HAB.out HX.out HY.out, hd.drewN _⟩, by simp [intOf]; omega⟩
            · have q2 : eqL d1 d2 = false := decide_eq_false hdd
              have E : eqPa a b = false := decide_eq_false (take_ne HX.out HY.out (by simp [hdd]))
              clear hdd
              go_wp2
              go_quiet ((go_at_call 26; exact quietD (same01_any _ _ _ _ _ _ _ _ _ _ _ (HS1.out.ext ((Ext.refl _).drewN _)) (HS2.out.ext ((Ext.refl _).drewN _)))))
              go_wp2
              go_ret
              exact ⟨ret_bool E.symm, hd.drewN _⟩
          · have q1 : (v1 != v2) = true := by simp [hvv]
            have E : eqPa a b = false := decide_eq_false (take_ne HX.out HY.out (by simp [hvv]))
            clear hvv
            go_wp2
            go_quiet (fail)
            go_wp2
            go_ret
            exact ⟨ret_bool E.symm, hd.drewN _⟩
        · have q0 : (k1 != k2) = true := by simp [hkk]
          have E : eqPa a b = false := decide_eq_false (take_ne HX.out HY.out (by simp [hkk]))
          clear hkk
          go_wp2
          go_quiet (fail)
          go_wp2
          go_ret
          exact ⟨ret_bool E.symm, hd.drewN _⟩
      · have hE : eqPa a b = true := decide_eq_true (by
          have h1 := HAB.out
          rwa [List.take_of_length_le (by rw [← HN.out]; omega), List.take_of_length_le (by rw [← HM.out]; omega)] at h1)
        go_wp2
        go_ret
        exact ⟨ret_bool hE.symm, hd⟩
  · have E0 : ((n : Int) != (m : Int)) = true := by simp; omega
    have E : eqPa a b = false := eqPa_ne (by rw [← HN.out, ← HM.out]; exact hl)
    clear hl
    go_enter Try.func73, Try.ntmps73
    go_wp2
    go_ret
    exact ⟨ret_bool E.symm, Drawn.refl _⟩

theorem info_pv : (Try.prog.info? 105).map (fun i => (i.zero, i.size, i.bytes)) = some (some (.agg #[.int .u32 0, .int .u64 0, .slice none 0 0]), 3, 40) := by kernel_rfl
theorem info_pr : (Try.prog.info? 114).map (fun i => (i.zero, i.size, i.bytes)) = some (some (.agg #[.int .u32 0, .int .u64 0, .slice none 0 0]), 3, 40) := by kernel_rfl
/-- Patches come back, their row in new memory. -/
def RetPats (Q' : Nat → Prop) (l : List Pa) (w : World) (e : Ending) (w' : World) : Prop :=
  ∃ A n cap, e = .returned (.slice A n cap) ∧ Pats (fun k => w.heap.size ≤ k) Q' w' A n cap l ∧ Ext w w'

set_option maxHeartbeats 1600000 in
theorem ours30_any (A : Option Addr) (n c : Nat) (l : List Pa) (Q Q' : Nat → Prop) (w : World) (h : Pats Q Q' w A n c l) (hl : l.length ≤ 1048576) :
    Calls Try.prog 29 #[.slice A n c] w (RetPats Q' l w) := by
  have hn : n ≤ 1048576 := by rw [h.len]; exact hl
  obtain ⟨hs, h1, h2⟩ := h.ex
  have HN := Lib.hid h1.len
  have H := Lib.hid h1
  have HE := Lib.hid h2
  clear h h1 h2
  go_enter Try.func29, Try.ntmps29
  go_wp2
  go_loopw [3, 4] (fun v i wr => ∃ (k n' cap' : Nat) (A' : Option Addr), k ≤ n ∧ i = .int .i64 k ∧ v = .slice A' n' cap' ∧ Ow eP 3 105 w.heap.size wr A' n' cap' (hs.take k) ∧ Ext w wr) (fun _ i _ => n - (intOf i).toNat)
  case atStart => exact ⟨0, 0, 0, none, Nat.zero_le _, rfl, rfl, Ow.nil _, Ext.refl _⟩
  case round =>
    obtain ⟨k, n', cap', A', hk, rfl, rfl, hO, he⟩ := hrel
    have HO := Lib.hid hO
    have HX := Lib.hid he
    have hz := he.size
    clear hO he
    by_cases hlt : k < n
    · obtain ⟨b, off, key, ver, B, m, c', rfl, hx, _, hbl, hc0, hc1, hc2⟩ := H.out.pat k hlt
      have hne : some b ≠ (Value.slice A' n' cap').ownBlock := fun e => by have := (HO.out.lt b e.symm).1; omega
      have HK := Lib.hid hx
      have hc0 := HX.out.at hc0
      have hc1 := HX.out.at hc1
      have hc2 := HX.out.at hc2
      have k0 : (0 : Int) ≤ (k : Int) := by omega
      have k9 : (k : Int) < (n : Int) := by omega
      have hlen : (hs.take k).length ≤ 1048576 := by rw [List.length_take]; omega
      clear hx
      go_wp2
      go_region_held3 (fun W => W.cell? ⟨b, off + k * 3, none⟩ = some (.int .u32 key) ∧ W.cell? ⟨b, off + k * 3 + 1, none⟩ = some (.int .u64 ver) ∧ W.cell? ⟨b, off + k * 3 + 2, none⟩ = some (.slice B m c'))
        (first | exact ⟨hc0, hc1, hc2⟩ | (go_split_ands; refine ⟨hg2.cell (by assumption) hne, hg2.cell (by assumption) hne, hg2.cell (by assumption) hne⟩) | go_keep)
        ((refine step_app _ rfl _ _ 37 rfl info_pv Try.underlying37 rfl (by decide) eP_len eP_one (HO.out.ext (((Ext.refl _).drew).alloc _)) rfl (Sl.laid eP_len wr.drew [(key, ver, B, m, c')] _ 105 1 rfl rfl (by decide)) rfl (by simp only [List.length_singleton]; omega) (by simp only [List.length_singleton]; omega) (by exact Nat.le_trans hz (((Ext.refl wr).drew).alloc _).size) ?_; intro A2 n2 cap2 w2 hO2 hg2 hrow _))
      go_wp2
      refine ⟨⟨k + 1, n2, cap2, A2, by omega, by go_num, rfl, ?_, Ext.grown ((HX.out.drew).alloc _) hg2 fun q hq => (HO.out.lt q hq).1⟩, by simp [intOf]; omega⟩
      rw [List.take_add_one, HK.out, Option.toList_some]
      exact hO2
    · have hE : hs.take k = hs := List.take_of_length_le (by rw [← HN.out]; omega)
      have hO := HO.out
      rw [hE] at hO
      go_wp2
      go_ret
      exact ⟨A', n', cap', rfl, ⟨hs, (hO.sl eP_len).mono fun _ h => h.1, HE.out.mono fun _ _ r => r.ext HX.out⟩, HX.out⟩

set_option maxHeartbeats 1600000 in
theorem like30_any (A B0 : Option Addr) (n c m0 d0 : Nat) (l l2 : List Pa) (Q Q' R R' : Nat → Prop) (w : World) (h : Pats Q Q' w A n c l) (h' : Pats R R' w B0 m0 d0 l2) (hl : l.length ≤ 1048576) :
    Calls Try.prog 25 #[.slice A n c, .slice B0 m0 d0] w fun e w' => e = .returned (.bool (eqPa l l2)) ∧ Ext w w' := by
  have hn : n ≤ 1048576 := by rw [h.len]; exact hl
  obtain ⟨hs, h1, h2⟩ := h.ex
  have HN := Lib.hid h1.len
  have H := Lib.hid h1
  have H' := Lib.hid h'
  have HE := Lib.hid h2
  clear h h1 h2 h'
  go_enter Try.func25, Try.ntmps25
  go_wp2
  go_loopw [5, 6] (fun v i wr => ∃ (k n' cap' : Nat) (A' : Option Addr), k ≤ n ∧ i = .int .i64 k ∧ v = .slice A' n' cap' ∧ Ow eP 3 114 w.heap.size wr A' n' cap' (hs.take k) ∧ Ext w wr) (fun _ i _ => n - (intOf i).toNat)
  case atStart => exact ⟨0, 0, 0, none, Nat.zero_le _, rfl, rfl, Ow.nil _, Ext.refl _⟩
  case round =>
    obtain ⟨k, n', cap', A', hk, rfl, rfl, hO, he⟩ := hrel
    have HO := Lib.hid hO
    have HX := Lib.hid he
    have hz := he.size
    clear hO he
    by_cases hlt : k < n
    · obtain ⟨b, off, key, ver, B, m, c', rfl, hx, _, hbl, hc0, hc1, hc2⟩ := H.out.pat k hlt
      have hne : some b ≠ (Value.slice A' n' cap').ownBlock := fun e => by have := (HO.out.lt b e.symm).1; omega
      have HK := Lib.hid hx
      have hc0 := HX.out.at hc0
      have hc1 := HX.out.at hc1
      have hc2 := HX.out.at hc2
      have k0 : (0 : Int) ≤ (k : Int) := by omega
      have k9 : (k : Int) < (n : Int) := by omega
      have hlen : (hs.take k).length ≤ 1048576 := by rw [List.length_take]; omega
      clear hx
      go_wp2
      go_region_held3 (fun W => W.cell? ⟨b, off + k * 3, none⟩ = some (.int .u32 key) ∧ W.cell? ⟨b, off + k * 3 + 1, none⟩ = some (.int .u64 ver) ∧ W.cell? ⟨b, off + k * 3 + 2, none⟩ = some (.slice B m c'))
        (first | exact ⟨hc0, hc1, hc2⟩ | (go_split_ands; refine ⟨hg2.cell (by assumption) hne, hg2.cell (by assumption) hne, hg2.cell (by assumption) hne⟩) | go_keep)
        ((refine step_app _ rfl _ _ 41 rfl info_pr Try.underlying41 rfl (by decide) eP_len eP_one (HO.out.ext (((Ext.refl _).drew).alloc _)) rfl (Sl.laid eP_len wr.drew [(key, ver, B, m, c')] _ 114 1 rfl rfl (by decide)) rfl (by simp only [List.length_singleton]; omega) (by simp only [List.length_singleton]; omega) (by exact Nat.le_trans hz (((Ext.refl wr).drew).alloc _).size) ?_; intro A2 n2 cap2 w2 hO2 hg2 hrow _))
      go_wp2
      refine ⟨⟨k + 1, n2, cap2, A2, by omega, by go_num, rfl, ?_, Ext.grown ((HX.out.drew).alloc _) hg2 fun q hq => (HO.out.lt q hq).1⟩, by simp [intOf]; omega⟩
      rw [List.take_add_one, HK.out, Option.toList_some]
      exact hO2
    · have hE : hs.take k = hs := List.take_of_length_le (by rw [← HN.out]; omega)
      have hO := HO.out
      rw [hE] at hO
      have hP : Pats (fun _ => True) Q' wr A' n' cap' l := ⟨hs, (hO.sl eP_len).mono fun _ _ => trivial, HE.out.mono fun _ _ r => r.ext HX.out⟩
      have HP := Lib.hid hP
      clear hO hE hP
      go_wp2_with (go_at_call 73; refine (same30_any _ _ _ _ _ _ _ _ _ _ _ _ _ HP.out (H'.out.ext HX.out)).mono ?_; rintro e w3 ⟨rfl, hd⟩)
      go_ret
      exact ⟨rfl, HX.out.trans hd.ext⟩
end Go.Proofs.Ytdocdppimpapiaa
