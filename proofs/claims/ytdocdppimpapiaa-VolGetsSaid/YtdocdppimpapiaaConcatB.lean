/-
  slices.Grow of no slice and slices.Concat, at bytes: contracts. (Printed by wip/tpl/gen_concat.py.)
-/
import Derived.Test.YtdocdppimpapiaaFixOut
namespace Go.Proofs.Ytdocdppimpapiaa
open Go.RowKit

set_option maxHeartbeats 800000 in
/-- slices.Grow of no slice: room, nothing in it. -/
theorem growB_any (m : Nat) (w : World) (hm : m ≤ 1048576) :
    Calls Try.prog 112 #[.slice none 0 0, .int .i64 m] w fun e w' => ∃ A cap, e = .returned (.slice A 0 cap) ∧ Ow (eI .u8) 1 5 w.heap.size w' A 0 cap ([] : List Int) ∧ Ext w w' := by
  by_cases h0 : m = 0
  · subst h0
    go_enter Try.func112, Try.ntmps112
    go_wp2
    go_ret
    exact ⟨none, 0, rfl, Ow.nil _, Ext.refl _⟩
  · obtain ⟨i, hi, hz, hsi, hby⟩ := info_parts info_u8
    have hm0 : (0 : Int) < (m : Int) := by omega
    have hm1 : (0 : Int) ≤ (m : Int) := by omega
    have hr := fun (w : World) (ty : Nat) => Lib.run_append_nil_zeros (P := Try.prog) w 35 3 ty 5 i _ .i64 .i64 Try.underlying35 Try.underlying3 hi hz m (by omega) (by rw [hsi]; decide) (by omega) (by rw [hby]; omega)
    have HR := Lib.hid hr
    have HC := Lib.hid (grownCap_ge w m 0 5)
    have HD := Lib.hid (grownCap_le_maxLen w m 0 5 (by unfold maxLen; omega))
    clear hr hi hz hsi hby
    go_enter Try.func112, Try.ntmps112
    go_wp2_with (at_builtin; refine Lib.wpList_append_run _ rfl _ _ _ _ rfl _ _ rfl rfl _ _ (HR.out _ _) ?_)
    all_goals (try go_wp2)
    go_ret
    refine ⟨_, _, rfl, ⟨rfl, rfl, .inr ⟨w.heap.size, _, _, rfl, Nat.le_refl _, heap_alloc_new w.drew _, Nat.zero_le _, HD.out, ?_, rfl⟩⟩, ((Ext.refl _).drew).alloc _⟩
    have := HC.out
    rw [Array.size_append, size_zeroCells, size_zeroCells]
    show m * 1 + (grownCap w m 0 5 - m) * 1 = _ * 1
    omega

set_option maxHeartbeats 1600000 in
theorem concatB_any (A : Option Addr) (m cap : Nat) (hs : List (Option Addr × Nat × Nat)) (ls : List (List Int)) (Q Q' : Nat → Prop) (w : World) (h : Sl eH 1 Q w A m cap hs)
    (hls : Each (fun h l => Sl (eI .u8) 1 Q' w h.1 h.2.1 h.2.2 l) hs ls) (hl : ls.flatten.length ≤ 1048576) :
    Calls Try.prog 102 #[.slice A m cap] w (RetSl (eI .u8) 1 ls.flatten w) := by
  have hm := Nat.le_trans h.le h.mx
  have HM := Lib.hid h.len
  have H := Lib.hid h
  have HL := Lib.hid hls
  clear h hls
  go_enter Try.func102, Try.ntmps102
  go_wp2
  go_loop [3, 5, 11] (fun s _ i => ∃ k : Nat, k ≤ m ∧ i = .int .i64 k ∧ s = .int .i64 (totL ls k : Nat)) (fun _ _ i => m - (intOf i).toNat)
  case atStart => exact ⟨0, Nat.zero_le _, rfl, by rw [totL_zero]; rfl⟩
  case round =>
    obtain ⟨k, hk, rfl, rfl⟩ := hrel
    by_cases hlt : k < m
    · obtain ⟨b, off, hd, rfl, hx, _, _, hc⟩ := H.out.head k hlt
      obtain ⟨l, hxl, hsl⟩ := HL.out.get hx
      have hlen := totL_next ls hxl
      have hle := totL_le ls (k + 1)
      have HX := Lib.hid hx
      have HS := Lib.hid hsl.len
      have HXL := Lib.hid hxl
      have HE := Lib.hid hlen
      have hsum : totL ls k + hd.2.1 ≤ 1048576 := by rw [hsl.len]; omega
      have hs0 : (0 : Int) ≤ (totL ls k : Int) + (hd.2.1 : Int) := by omega
      clear hx hsl hxl hlen hle
      go_wp2
      refine ⟨⟨k + 1, by omega, by go_num, by rw [HE.out, ← HS.out]; go_num⟩, by simp [intOf]; omega⟩
    · obtain rfl : k = m := by omega
      have hkl : ls.length ≤ k := by rw [HM.out, HL.out.length]; exact Nat.le_refl _
      have hE := totL_all ls hkl
      have hE2 : (ls.take k).flatten = ls.flatten := by rw [List.take_of_length_le hkl]
      have HE2 := Lib.hid hE2
      clear hkl hE2
      have HE := Lib.hid hE
      clear hE
      go_wp2_with (go_at_call 112; rw [HE.out]; refine (growB_any _ _ hl).mono ?_; rintro e w1 ⟨A1, cap1, rfl, hO1, he1⟩)
      go_loopw [6, 8, 27] (fun v _ i wr => ∃ (j n' cap' : Nat) (A' : Option Addr), j ≤ k ∧ i = .int .i64 j ∧ v = .slice A' n' cap' ∧ Ow (eI .u8) 1 5 w.heap.size wr A' n' cap' (ls.take j).flatten ∧ Ext w wr) (fun _ _ i _ => k - (intOf i).toNat)
      case atStart => exact ⟨0, 0, cap1, A1, Nat.zero_le _, rfl, rfl, hO1, he1⟩
      case round =>
        clear hO1 he1
        obtain ⟨j, n', cap', A', hj, rfl, rfl, hO, he⟩ := hrel
        by_cases hlt2 : j < k
        · obtain ⟨b, off, hd, rfl, hx, _, _, hc⟩ := (H.out.ext he).head j hlt2
          obtain ⟨l, hxl, hsl⟩ := HL.out.get hx
          have hsl' := hsl.ext he
          have hlen := totL_next ls hxl
          have hle := totL_le ls (j + 1)
          have hs1 : (ls.take j).flatten.length + l.length ≤ 1048576 := by unfold totL at hlen hle; omega
          have HXL := Lib.hid hxl
          have HO := Lib.hid hO
          have HS := Lib.hid hsl'
          have HX2 := Lib.hid he
          have hz := he.size
          clear hx hsl hxl hlen hle hO hsl' he
          go_wp2_with (at_builtin; refine wpList_app _ rfl _ _ 35 rfl info_u8 Try.underlying35 rfl (by decide) (eI_len _) (eI_one _) HO.out rfl HS.out rfl (by omega) (by omega) hz ?_; intro A2 n2 cap2 w2 hO2 hg2 hrow _)
          refine ⟨⟨j + 1, n2, cap2, A2, by omega, by go_num, rfl, ?_, Ext.grown HX2.out hg2 fun q hq => (HO.out.lt q hq).1⟩, by simp [intOf]; omega⟩
          rw [List.take_add_one, HXL.out, Option.toList_some, List.flatten_append, List.flatten_singleton]
          exact hO2
        · obtain rfl : j = k := by omega
          rw [HE2.out] at hO
          go_wp2
          go_ret
          exact ⟨A', n', cap', rfl, (hO.sl (eI_len _)).mono fun _ h => h.1, he⟩
end Go.Proofs.Ytdocdppimpapiaa
