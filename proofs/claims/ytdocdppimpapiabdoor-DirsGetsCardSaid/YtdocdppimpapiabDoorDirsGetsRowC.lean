/-
  DirsGets, the given row and its tied card: for any bytes the call of catenarylaw29.DirsGets returns true, and each argument reads afterwards as it read before.
  Conditions: none beyond the row's own (the listed tables of the library's hold what the program's text lays, tied).
-/
import Derived.Test.YtdocdppimpapiabDoorCards
import Derived.Test.YtdocdppimpapiabDoorTie
import Derived.SevenTiedAt
import Derived.Test.YtdocdppimpapiabDoorDB7
set_option linter.unusedSimpArgs false
set_option linter.unusedVariables false
namespace Go.Proofs.YtdocdppimpapiabDoor
open Go.ChangeShapes Go.WideShapes Go.ChangeAt Go.RowKit Go.Joins
open Go.ChangeMaps (open_string shut_string)

theorem DirsGetsRow.own : ownKnob Tryd.prog.godebug = none := by kernel_rfl
theorem DirsGetsRow.laidOut : laidOutB Tryd.prog = true := by kernel_rfl

set_option maxRecDepth 100000 in
theorem DirsGetsRow.lifted (os : Os) (started : os.Started) (H : Type) (enc : TypeId × Value → H) :
    ReturnsInHanded {} Tryd.checked os 4 .any (fun w args => (Rows.dirsGetsSpec.pre enc Tryd.prog Tryd.f4 [] false w args ∧ laidMetH Tryd.prog Rows.dirsGetsRow.laid w) ∧ sizedMet enc Tryd.prog Tryd.f4 (OpenSpec.ofChange Rows.dirsGetsSpec) false w args)
      (Rows.dirsGetsSpec.post enc Tryd.prog Tryd.f4 false true false false) := by
  refine returns_both (C := Tryd.checked) (X := fun w _ => laidMetH Tryd.prog Rows.dirsGetsRow.laid w) (fun _ _ _ hh h => h.of_heap hh) DirsGetsRow.own started (by kernel_rfl) Tryd.func4
    (ChangeSpec.witness_shaped (enc := enc) (C := Tryd.checked) (os := os) (X := fun w _ => laidMetH Tryd.prog Rows.dirsGetsRow.laid w) false (World.laidAll Tryd.prog os Rows.dirsGetsRow.laid) #[.slice none 0 0] 8 (World.laidAll_os _ _ _)
      (World.shaped_of_ZipB (by kernel_rfl) (by kernel_rfl)) (by kernel_rfl) (by kernel_rfl) (by kernel_rfl)
      (by rw [MakeChecks.laidMetH_plain _ _ _ (by kernel_rfl)]; exact laidMet_laidAll _ (by kernel_rfl) (by kernel_rfl))) ?_
  intro W base args ds gs before hval0 hW _ _ _ hsh _
  have hval : ∀ (j : Nat) t v, Tryd.f4.params[j]? = some t → args[j]? = some v → Value.okWide Tryd.prog W .any base t v := hval0
  have hW' := hW
  obtain ⟨p, q, hA0, hV, rfl, hfz, hnd⟩ := hW
  have hA : DataW.TrodAll enc Tryd.prog W 0 (fun _ => true) true Tryd.f4.params.toList args.toList ds p := hA0
  rw [Tryd.params4] at hA hval
  obtain ⟨v0, d0, rfl, rfl, h0⟩ := trodAll_one hA
  obtain ⟨rfl, rfl⟩ := trodVars_none hV
  have k0 := h0
  have lt0 : ∀ x ∈ p, x.block < W.heap.size := by obtain ⟨m, hm⟩ := k0; exact DataW.trod_lt m _ _ _ hm
  obtain ⟨A0, n0, c0, rfl⟩ := okWide_slice Tryd.underlying29 (hval 0 29 v0 rfl rfl)
  obtain ⟨l0, S0, B0⟩ := ints_sl Tryd.underlying29 Tryd.underlying5 (by kernel_rfl) h0
  obtain ⟨m, hm⟩ := maxlen_int W hsh
  clear hA0 hval0
  simp only [List.append_nil] at hW'
  refine (dirsGets_any A0 n0 c0 l0 m _ W S0 (bt_wf B0) hm).mono fun e W' ⟨he, hw⟩ => ?_
  subst he
  exact ⟨_, rfl, _, _, _, [], _, [], hW', trodAll_mk1 (shut_bool Tryd.underlying4 _), (trodAll_cons_mk (Below.trod DirsGetsRow.laidOut (by kernel_rfl) (of_decide_eq_true (by kernel_rfl)) k0 hw.out lt0) trodAll_mk0), rfl, hw.out.frame _, fun h => by cases h⟩

theorem dirsGets_holds : Rows.DirsGetsSaid :=
  OpenClaim.holds_of_wide 4 Tryd.f4 rfl rfl rfl rfl rfl rfl rfl ⟨rfl, rfl, rfl, rfl, rfl⟩ rfl rfl rfl rfl rfl (by kernel_rfl) Tryd.func4 (by kernel_rfl)
    (of_decide_eq_true (by kernel_rfl)) (by unfold Func.isWrapper; rw [if_neg (of_decide_eq_false (by kernel_rfl))]; exact ⟨rfl, rfl⟩)
    (fun os started H enc _ => DirsGetsRow.lifted os started H enc)

theorem dirsGets_card_holds : Rows.DirsGetsCardSaid :=
  Claim7.holds_tied_plain_at .later [] [.data, .pinned] true (true, "6ffbdb9703d4292512948139cf61bf55acf87eaa4cd7dc261761f6ad1e709936") false dirsGets_holds (fun _ h => by cases h) (by kernel_rfl) (fun _ h => by cases h) dirsGets_row_tie rfl ⟨rfl, rfl⟩ (by kernel_rfl) rfl
    (fun f fn hf hfn => by
      obtain rfl : f = 4 := Option.some.inj ((show Tryd.prog.funcNamed "catenary/catenarylaw29.DirsGets" = some 4 by kernel_rfl).symm.trans hf) |>.symm
      obtain rfl : fn = Tryd.f4 := (Option.some.inj (Tryd.func4.symm.trans hfn)).symm
      exact ⟨by kernel_rfl, fun j t ht => by
        rw [Tryd.params4] at ht
        have hm : t ∈ [29] := by have h9 := Array.mem_of_getElem? ht; simp at h9 ⊢; exact h9
        have hall : ([29].all fun u => !Tryd.prog.wantsStandIn u) = true := by kernel_rfl
        exact (show Tryd.prog.wantsStandIn t = false by simpa using List.all_eq_true.1 hall t hm)⟩)
    (by kernel_rfl)

#print axioms dirsGets_card_holds
end Go.Proofs.YtdocdppimpapiabDoor
