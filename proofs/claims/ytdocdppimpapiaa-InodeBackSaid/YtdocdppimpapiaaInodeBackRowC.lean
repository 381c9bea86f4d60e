/-
  InodeBack, the given row: for every inode, size and blocks the call of catenarylaw28.InodeBack returns true, and each argument reads afterwards as it read before.
  Conditions: none beyond the row's own.
-/
import Derived.Test.YtdocdppimpapiaaRows
import Derived.Test.YtdocdppimpapiaaIB8
set_option linter.unusedSimpArgs false
set_option linter.unusedVariables false
namespace Go.Proofs.Ytdocdppimpapiaa
open Go.ChangeShapes Go.WideShapes Go.ChangeAt Go.RowKit Go.Joins

theorem InodeBackRow.own : ownKnob Try.prog.godebug = none := by kernel_rfl
theorem InodeBackRow.laidOut : laidOutB Try.prog = true := by kernel_rfl
theorem InodeBackRow.cells : Try.prog.cellsOf 65 = 3 := by kernel_rfl

set_option maxRecDepth 100000 in
theorem InodeBackRow.lifted (os : Os) (started : os.Started) (H : Type) (enc : TypeId × Value → H) :
    ReturnsInHanded {} Try.checked os 8 .any (Rows.inodeBackSpec.pre6 enc Try.prog Try.f8 Rows.inodeBackRow.domain false) (Rows.inodeBackSpec.post enc Try.prog Try.f8 false true false false) := by
  refine returnsInHanded_of_change (C := Try.checked) InodeBackRow.own started (by kernel_rfl) Try.func8
    (ChangeSpec.witness6 (enc := enc) (C := Try.checked) false ⟨#[], #[.agg #[.int .i64 0, .int .i64 0, .slice none 0 0], .int .i64 0, .slice none 0 0], []⟩ 8 (by kernel_rfl) (by kernel_rfl) (by kernel_rfl) (by kernel_rfl)) ?_
  intro W base args ds gs before hval0 hW hcnd _
  have hval : ∀ (j : Nat) t v, Try.f8.params[j]? = some t → args[j]? = some v → Value.okWide Try.prog W .any base t v := hval0
  have hW' := hW
  obtain ⟨p, q, hA0, hV, rfl, hfz, hnd⟩ := hW
  have hA : DataW.TrodAll enc Try.prog W 0 (fun _ => true) true Try.f8.params.toList args.toList ds p := hA0
  rw [Try.params8] at hA hval
  obtain ⟨v0, v1, v2, d0, d1, d2, p0, p1, p2, rfl, rfl, rfl, h0, h1, h2⟩ := trodAll_three hA
  obtain ⟨rfl, rfl⟩ := trodVars_none hV
  have k0 := h0
  have lt0 : ∀ x ∈ p0, x.block < W.heap.size := by obtain ⟨m, hm⟩ := k0; exact DataW.trod_lt m _ _ _ hm
  obtain ⟨m0, s0, A0, n0, c0, xs0, rfl, S0, bd0⟩ := ino_open (hval 0 65 v0 rfl rfl) h0
  obtain ⟨x1, rfl, rfl, rfl, wx1⟩ := open_int Try.underlying3 (hval 1 3 v1 rfl rfl) h1
  have bd1 : -9223372036854775808 ≤ x1 ∧ x1 ≤ 9223372036854775807 := by have := wx1; simp [Lit.wf, IntKind.min, IntKind.max, IntKind.signed, IntKind.bits] at this; omega
  have k2 := h2
  have lt2 : ∀ x ∈ p2, x.block < W.heap.size := by obtain ⟨m, hm⟩ := k2; exact DataW.trod_lt m _ _ _ hm
  obtain ⟨A2, n2, c2, rfl⟩ := okWide_slice Try.underlying57 (hval 2 57 v2 rfl rfl)
  obtain ⟨l2, S2, B2⟩ := ints_sl Try.underlying57 Try.underlying3 (by kernel_rfl) h2
  clear hA0 hval0
  simp only [List.append_nil] at hW'
  refine (inodeBack_any m0 s0 A0 n0 c0 xs0 x1 A2 n2 c2 l2 _ _ W S0 S2).mono fun e W' ⟨he, hw⟩ => ?_
  subst he
  exact ⟨_, rfl, _, _, _, [], _, [], hW', trodAll_mk1 (shut_bool Try.underlying4 _), (trodAll_cons_mk (Below.trod InodeBackRow.laidOut (by kernel_rfl) (of_decide_eq_true (by kernel_rfl)) k0 hw.out lt0) (trodAll_cons_mk (shut_int Try.underlying3 wx1) (trodAll_cons_mk (Below.trod InodeBackRow.laidOut (by kernel_rfl) (of_decide_eq_true (by kernel_rfl)) k2 hw.out lt2) trodAll_mk0))), rfl, hw.out.frame _, fun h => by cases h⟩

theorem inodeBack_holds : Rows.InodeBackSaid :=
  OpenClaim.holds_of_wide 8 Try.f8 rfl rfl rfl rfl rfl rfl rfl ⟨rfl, rfl, rfl, rfl, rfl⟩ rfl rfl rfl rfl rfl (by kernel_rfl) Try.func8 (by kernel_rfl)
    (of_decide_eq_true (by kernel_rfl)) (by unfold Func.isWrapper; rw [if_neg (of_decide_eq_false (by kernel_rfl))]; exact ⟨rfl, rfl⟩)
    (fun os started H enc _ => InodeBackRow.lifted os started H enc)

#print axioms inodeBack_holds
end Go.Proofs.Ytdocdppimpapiaa
