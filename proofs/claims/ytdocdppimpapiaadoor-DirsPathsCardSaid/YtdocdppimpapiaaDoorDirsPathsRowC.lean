/-
  DirsPaths, the given row and its tied card: for every two paths and names the call of catenarylaw29.DirsPaths returns true, and each argument reads afterwards as it read before.
  Conditions: none beyond the row's own (the listed tables of the library's hold what the program's text lays, tied).
-/
import Derived.Test.YtdocdppimpapiaaDoorCards
import Derived.Test.YtdocdppimpapiaaDoorTie
import Derived.SevenTiedAt
import Derived.Test.YtdocdppimpapiaaDoorDP2
set_option linter.unusedSimpArgs false
set_option linter.unusedVariables false
namespace Go.Proofs.YtdocdppimpapiaaDoor
open Go.ChangeShapes Go.WideShapes Go.ChangeAt Go.RowKit Go.Joins
open Go.ChangeMaps (open_string shut_string)

theorem DirsPathsRow.own : ownKnob Tryd.prog.godebug = none := by kernel_rfl
theorem DirsPathsRow.laidOut : laidOutB Tryd.prog = true := by kernel_rfl

set_option maxRecDepth 100000 in
theorem DirsPathsRow.lifted (os : Os) (started : os.Started) (H : Type) (enc : TypeId × Value → H) :
    ReturnsInHanded {} Tryd.checked os 3 .any (fun w args => (Rows.dirsPathsSpec.pre enc Tryd.prog Tryd.f3 [] false w args ∧ laidMetH Tryd.prog Rows.dirsPathsRow.laid w) ∧ sizedMet enc Tryd.prog Tryd.f3 (OpenSpec.ofChange Rows.dirsPathsSpec) false w args)
      (Rows.dirsPathsSpec.post enc Tryd.prog Tryd.f3 false true false false) := by
  refine returns_both (C := Tryd.checked) (X := fun w _ => laidMetH Tryd.prog Rows.dirsPathsRow.laid w) (fun _ _ _ hh h => h.of_heap hh) DirsPathsRow.own started (by kernel_rfl) Tryd.func3
    (ChangeSpec.witness_shaped (enc := enc) (C := Tryd.checked) (os := os) (X := fun w _ => laidMetH Tryd.prog Rows.dirsPathsRow.laid w) false (World.laidAll Tryd.prog os Rows.dirsPathsRow.laid) #[.string ⟨#[]⟩, .string ⟨#[]⟩, .slice none 0 0] 8 (World.laidAll_os _ _ _)
      (World.shaped_of_ZipB (by kernel_rfl) (by kernel_rfl)) (by kernel_rfl) (by kernel_rfl) (by kernel_rfl)
      (by rw [MakeChecks.laidMetH_plain _ _ _ (by kernel_rfl)]; exact laidMet_laidAll _ (by kernel_rfl) (by kernel_rfl))) ?_
  intro W base args ds gs before hval0 hW _ _ _ hsh _
  have hval : ∀ (j : Nat) t v, Tryd.f3.params[j]? = some t → args[j]? = some v → Value.okWide Tryd.prog W .any base t v := hval0
  have hW' := hW
  obtain ⟨p, q, hA0, hV, rfl, hfz, hnd⟩ := hW
  have hA : DataW.TrodAll enc Tryd.prog W 0 (fun _ => true) true Tryd.f3.params.toList args.toList ds p := hA0
  rw [Tryd.params3] at hA hval
  obtain ⟨v0, v1, v2, d0, d1, d2, p0, p1, p2, rfl, rfl, rfl, h0, h1, h2⟩ := trodAll_three hA
  obtain ⟨rfl, rfl⟩ := trodVars_none hV
  obtain ⟨s0, rfl, rfl, rfl, w0⟩ := open_string Tryd.underlying9 (hval 0 9 v0 rfl rfl) h0
  obtain ⟨s1, rfl, rfl, rfl, w1⟩ := open_string Tryd.underlying9 (hval 1 9 v1 rfl rfl) h1
  have k2 := h2
  have lt2 : ∀ x ∈ p2, x.block < W.heap.size := by obtain ⟨m, hm⟩ := k2; exact DataW.trod_lt m _ _ _ hm
  obtain ⟨A2, n2, c2, rfl⟩ := okWide_slice Tryd.underlying22 (hval 2 22 v2 rfl rfl)
  obtain ⟨f2, hf2⟩ := h2
  obtain ⟨A', n', c', l2, e2, S2, B2⟩ := strs_sl hf2
  obtain ⟨rfl, rfl, rfl⟩ : A2 = A' ∧ n2 = n' ∧ c2 = c' := by injection e2 with a b c; exact ⟨a, b, c⟩
  obtain ⟨m, hm⟩ := maxlen_int W hsh
  clear hA0 hval0
  simp only [List.append_nil] at hW'
  refine (dirsPaths_any s0 s1 A2 n2 c2 l2 m _ W S2 hm).mono fun e W' ⟨he, hw⟩ => ?_
  subst he
  exact ⟨_, rfl, _, _, _, [], _, [], hW', trodAll_mk1 (shut_bool Tryd.underlying4 _), (trodAll_cons_mk (shut_string Tryd.underlying9 w0) (trodAll_cons_mk (shut_string Tryd.underlying9 w1) (trodAll_cons_mk (Below.trod DirsPathsRow.laidOut (by kernel_rfl) (of_decide_eq_true (by kernel_rfl)) k2 hw.out lt2) trodAll_mk0))), rfl, hw.out.frame _, fun h => by cases h⟩

theorem dirsPaths_holds : Rows.DirsPathsSaid :=
  OpenClaim.holds_of_wide 3 Tryd.f3 rfl rfl rfl rfl rfl rfl rfl ⟨rfl, rfl, rfl, rfl, rfl⟩ rfl rfl rfl rfl rfl (by kernel_rfl) Tryd.func3 (by kernel_rfl)
    (of_decide_eq_true (by kernel_rfl)) (by unfold Func.isWrapper; rw [if_neg (of_decide_eq_false (by kernel_rfl))]; exact ⟨rfl, rfl⟩)
    (fun os started H enc _ => DirsPathsRow.lifted os started H enc)

theorem dirsPaths_card_holds : Rows.DirsPathsCardSaid :=
  Claim7.holds_tied_plain_at .later [] [.data, .pinned] true (true, "54cedb4ea47aaa29a09617ec02c6041f7ef8f9ba2e3b61ddb10a32402e8f431c") false dirsPaths_holds (fun _ h => by cases h) (by kernel_rfl) (fun _ h => by cases h) dirsPaths_row_tie rfl ⟨rfl, rfl⟩ (by kernel_rfl) rfl
    (fun f fn hf hfn => by
      obtain rfl : f = 3 := Option.some.inj ((show Tryd.prog.funcNamed "catenary/catenarylaw29.DirsPaths" = some 3 by kernel_rfl).symm.trans hf) |>.symm
      obtain rfl : fn = Tryd.f3 := (Option.some.inj (Tryd.func3.symm.trans hfn)).symm
      exact ⟨by kernel_rfl, fun j t ht => by
        rw [Tryd.params3] at ht
        have hm : t ∈ [9, 22] := by have h9 := Array.mem_of_getElem? ht; simp at h9 ⊢; exact h9
        have hall : ([9, 22].all fun u => !Tryd.prog.wantsStandIn u) = true := by kernel_rfl
        exact (show Tryd.prog.wantsStandIn t = false by simpa using List.all_eq_true.1 hall t hm)⟩)
    (by kernel_rfl)

#print axioms dirsPaths_card_holds
end Go.Proofs.YtdocdppimpapiaaDoor
