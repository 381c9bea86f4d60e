/-
  DirsBytes, the walk. What a row with listed variables hands over: entries of the reference, texts; the cell of a variable of the library's. No function of the program.
-/
import Derived.ProofKit
import Derived.Carry
import Derived.Lib.SmallJoins
import Derived.Deep.Slices
import Derived.HandedShaped
import Derived.Lay
import Derived.Shelf.Vars
import Derived.Test.YtdocdppimpapiabDoorDB2
import Derived.Test.YtdocdppimpapiabDoorDB3
import Derived.Test.YtdocdppimpapiabDoorDB4
import Derived.Test.YtdocdppimpapiabDoorDB5
set_option linter.unusedSimpArgs false
set_option linter.unusedVariables false
namespace Go.Proofs.YtdocdppimpapiabDoor
open Go.RowKit

theorem eqL_self (l : List Int) : eqL l l = true := by simp [eqL]
theorem beq_int_self (x : Int) : (x == x) = true := by simp
theorem bne_int_self (x : Int) : (x != x) = false := by simp
theorem bne_bool_self (x : Bool) : (x != x) = false := by cases x <;> rfl

set_option maxHeartbeats 3200000 in
set_option maxRecDepth 100000 in
theorem dirsBytes_any (A : Option Addr) (n c : Nat) (l : List En) (nm : ByteArray) (m : Int) (Q : Nat → Prop) (w : World) (h : Sl eE 2 Q w A n c l) (hm : w.cell? ⟨0, 0, none⟩ = some (.int .i64 m)) :
    Calls Tryd.prog 3 #[.slice A n c, .string nm] w fun e w' => e = .returned (.bool true) ∧ Ext w w' := by
  have HFAR := Lib.hid (far_any A n c l Q w h)
  have H := Lib.hid h
  have HM := Lib.hid hm
  clear h hm
  cases hf : farE l
  · rw [hf] at HFAR
    obtain ⟨hl40, _⟩ := far_no hf
    have HL := Lib.hid hl40
    clear hf hl40
    by_cases h60 : (nm.size : Int) > 60
    · go_enter Tryd.func3, Tryd.ntmps3
      go_wp2_with fail
      refine HFAR.out.mono ?_
      rintro e w1 ⟨rfl, h1⟩
      replace h1 := Lib.hid h1
      go_wp2_with fail
      refine (awake29_any m _ (h1.out.ext.at HM.out)).mono ?_
      rintro e w2 ⟨rfl, h2⟩
      replace h2 := Lib.hid h2
      go_wp2
      go_ret
      exact ⟨rfl, h1.out.ext.trans h2.out⟩
    · have h60' : ¬ 60 < (nm.size : Int) := by omega
      obtain ⟨ce, hce⟩ : ∃ ce, checkE l = ce := ⟨_, rfl⟩
      obtain ⟨pd, hpd⟩ : ∃ pd, putD l = pd := ⟨_, rfl⟩
      have hself := bne_int_self ce
      have hselfb := bne_bool_self (nameB nm)
      have HCE := Lib.hid hce
      have HPD := Lib.hid hpd
      have hl1000 : l.length ≤ 1000 := by have := HL.out; omega
      have HLL := Lib.hid hl1000
      clear hce hpd h60 hl1000
      go_enter Tryd.func3, Tryd.ntmps3
      go_wp2_with fail
      refine HFAR.out.mono ?_
      rintro e w1 ⟨rfl, h1⟩
      replace h1 := Lib.hid h1.ext
      go_wp2_with fail
      refine (ours29_any _ _ _ _ _ _ (H.out.ext h1.out) HLL.out).mono ?_
      rintro e w2 ⟨A2, n2, c2, rfl, hs2, h2⟩
      replace hs2 := Lib.hid hs2
      have hX2 := Lib.hid (h1.out.trans h2)
      clear h2
      go_wp2_with fail
      refine (dcheck_any _ _ _ _ _ _ hs2.out).mono ?_
      rw [HCE.out]
      rintro e w3 ⟨rfl, h3⟩
      have hX3 := Lib.hid (hX2.out.trans h3)
      clear h3 hs2
      go_wp2_with fail
      refine (ours29_any _ _ _ _ _ _ (H.out.ext hX3.out) HLL.out).mono ?_
      rintro e w4 ⟨A4, n4, c4, rfl, hs4, h4⟩
      replace hs4 := Lib.hid hs4
      have hX4 := Lib.hid (hX3.out.trans h4)
      clear h4
      go_wp2_with fail
      refine (dput_any _ _ _ _ _ _ hs4.out).mono ?_
      rw [HCE.out, HPD.out]
      rintro e w5 ⟨A5, n5, c5, rfl, hs5, h5⟩
      replace hs5 := Lib.hid hs5
      have hX5 := Lib.hid (hX4.out.trans h5)
      clear h5 hs4
      go_wp2_with fail
      refine (rcheck29_any _ _ _ _ _ _ (H.out.ext hX5.out)).mono ?_
      rw [HCE.out]
      rintro e w6 ⟨rfl, h6⟩
      have hs6 := Lib.hid (hs5.out.ext h6.ext)
      have hX6 := Lib.hid (hX5.out.trans h6.ext)
      clear h6 hs5
      go_wp2_with fail
      refine (name_any _ _).mono ?_
      rintro e w7 ⟨rfl, h7⟩
      have hs7 := Lib.hid (hs6.out.ext h7)
      have hX7 := Lib.hid (hX6.out.trans h7)
      clear h7 hs6
      go_wp2_with fail
      refine (rname_any _ _).mono ?_
      rintro e w8 ⟨rfl, h8⟩
      have hs8 := Lib.hid (hs7.out.ext h8.ext)
      have hX8 := Lib.hid (hX7.out.trans h8.ext)
      clear h8 hs7
      by_cases hc0 : ce = 0
      · subst hc0
        have hgp := Lib.hid (show getD pd = (l, 0) by rw [← HPD.out]; exact get_put HCE.out)
        have hpe := Lib.hid (show pd = encsN l by rw [← HPD.out]; unfold putD; rw [if_pos HCE.out])
        have hbt := Lib.hid (show Bt pd by rw [hpe.out]; exact encsN_bt l)
        go_wp2_with fail
        refine (dget_any _ _ _ _ _ _ hs8.out hbt.out).mono ?_
        rw [hgp.out]
        rintro e w9 ⟨A9, n9, c9, rfl, hs9, h9⟩
        have hb9 := Lib.hid (hs8.out.ext h9)
        replace hs9 := Lib.hid hs9
        have hX9 := Lib.hid (hX8.out.trans h9)
        clear h9 hs8
        go_wp2_with fail
        refine (rbytes29_any _ _ _ _ _ _ (H.out.ext hX9.out) HCE.out).mono ?_
        rintro e w10 ⟨A10, n10, c10, rfl, hs10, h10⟩
        have hb10 := Lib.hid (hb9.out.ext h10)
        have hk10 := Lib.hid (hs9.out.ext h10)
        replace hs10 := Lib.hid hs10
        have hX10 := Lib.hid (hX9.out.trans h10)
        clear h10 hs9 hb9
        go_wp2_with fail
        refine (same01_any _ _ _ _ _ _ _ _ _ _ _ hb10.out hs10.out).mono ?_
        rw [hpe.out, eqL_self]
        rintro e w11 ⟨rfl, h11⟩
        have hk11 := Lib.hid (hk10.out.ext h11.ext)
        have hX11 := Lib.hid (hX10.out.trans h11.ext)
        clear h11 hk10 hb10 hs10
        go_wp2_with fail
        refine (like29_any _ _ _ _ _ _ _ _ _ _ _ hk11.out (H.out.ext hX11.out) HLL.out).mono ?_
        rw [eqE_self]
        rintro e w12 ⟨rfl, h12⟩
        have hX12 := Lib.hid (hX11.out.trans h12.ext)
        clear h12 hk11
        go_wp2_with fail
        refine (awake29_any m _ (hX12.out.at HM.out)).mono ?_
        rintro e w13 ⟨rfl, h13⟩
        replace h13 := Lib.hid h13
        go_wp2
        go_ret
        exact ⟨rfl, hX12.out.trans h13.out⟩
      · have hcb : (ce != 0) = true := by simpa using hc0
        have hnil : pd = [] := by rw [← HPD.out]; unfold putD; rw [if_neg (by rw [HCE.out]; exact hc0)]
        subst hnil
        obtain rfl : n5 = 0 := hs8.out.len
        clear hc0
        go_wp2_with fail
        refine (awake29_any m _ (hX8.out.at HM.out)).mono ?_
        rintro e w13 ⟨rfl, h13⟩
        replace h13 := Lib.hid h13
        go_wp2
        go_ret
        exact ⟨rfl, hX8.out.trans h13.out⟩
  · rw [hf] at HFAR
    clear hf
    go_enter Tryd.func3, Tryd.ntmps3
    go_wp2_with fail
    refine HFAR.out.mono ?_
    rintro e w1 ⟨rfl, h1⟩
    replace h1 := Lib.hid h1
    go_wp2_with fail
    refine (awake29_any m _ (h1.out.ext.at HM.out)).mono ?_
    rintro e w2 ⟨rfl, h2⟩
    replace h2 := Lib.hid h2
    go_wp2
    go_ret
    exact ⟨rfl, h1.out.ext.trans h2.out⟩
end Go.Proofs.YtdocdppimpapiabDoor

namespace Go.Proofs.YtdocdppimpapiabDoor
open Go.ChangeShapes Go.WideShapes Go.ChangeAt Go.RowKit Go.Joins Go.Deep

/-- The wrap of a row that lists variables, the world's shape kept. -/
theorem returns_both {H : Type} {enc : TypeId × Value → H} {a : Assume} {C : Checked} {os : Os} {f : FuncId} {fn : Func} {s : ChangeSpec} {conds : List PathCond} {apart fresh handsOn again : Bool} {X : World → Array Value → Prop}
    (hX : ∀ (w w' : World) (args : Array Value), w.heap = w'.heap → X w args → X w' args)
    (own : ownKnob C.prog.godebug = none) (started : os.Started) (noInit : C.prog.inits.idxOf? f = none) (hfn : C.prog.funcs[f]? = some fn)
    (witness : ∃ (w : World) (tape : Tape) (i : Input), w.os = os ∧ (w.forCall tape i).Shaped C.prog ∧ i.vars = [] ∧ Input.okWide C.prog (w.forCall tape i) .any w.heap.size f i ∧
      ((s.pre enc C.prog fn conds apart (w.forCall tape i).memory i.args ∧ X (w.forCall tape i).memory i.args) ∧ sizedMet enc C.prog fn (OpenSpec.ofChange s) apart (w.forCall tape i).memory i.args) ∧ a.holds C.prog (lone (Frame.enter C.prog f i.args .normal) [] (w.forCall tape i)))
    (contract : ∀ (W : World) (base : Nat) (args : Array Value) (ds gs : List (DataW H)) (before : List MemPlace),
      (∀ (j : Nat) t v, fn.params[j]? = some t → args[j]? = some v → Value.okWide C.prog W .any base t v) →
      DataW.Whole enc C.prog fn.params.toList s.vars apart W args.toList ds gs before →
      conds.all (PathCond.test C.prog ⟨fn.params.toList, ds, s.plain.varTypes C.prog, gs⟩) = true →
      (DataW.weightsEach C.prog (fn.params.toList ++ s.plain.varTypes C.prog) (ds ++ gs)).all (· ≤ reachBytes) = true → X W args →
      W.ShapedOpen C.prog →
      a.holds C.prog (lone (Frame.enter C.prog f args .normal) [] W) →
      Calls C.prog f args W fun e W' => ∃ v, e = .returned v ∧ s.post enc C.prog fn apart fresh handsOn again W args v W') :
    ReturnsInHanded a C os f .any (fun w args => (s.pre enc C.prog fn conds apart w args ∧ X w args) ∧ sizedMet enc C.prog fn (OpenSpec.ofChange s) apart w args) (s.post enc C.prog fn apart fresh handsOn again) := by
  refine returnsInHanded_of_calls own started noInit witness ?_
  intro w tape i _ hsh _ hok hpre hholds
  obtain ⟨_, _, _, fn', hfn', _, _, _, _, hval⟩ := hok
  have e : fn' = fn := Option.some.inj (hfn'.symm.trans hfn)
  subst e
  obtain ⟨⟨⟨ds, gs, before, hw, hc⟩, hx⟩, hz⟩ := hpre
  have hw' := DataW.Whole.of_heap (w' := w.forCall tape i) (by rfl) hw
  refine (contract (w.forCall tape i) w.heap.size i.args ds gs before hval hw' hc (hz.weights hw) (hX _ _ _ (by rfl) hx) hsh hholds).mono fun e W' ⟨v, he, hp⟩ => ?_
  subst he
  exact ChangeSpec.post_blind hp

/-- What the library's variable at block 0 holds: some number. -/
theorem maxlen_int (W : World) (h : W.ShapedOpen Tryd.prog) : ∃ m, W.cell? ⟨0, 0, none⟩ = some (.int .i64 m) :=
  Go.Proofs.cell_of_shapedOpen_int (zero := #[.int .i64 0]) (t := 3) h (of_decide_eq_true (by kernel_rfl)) (by kernel_rfl) rfl (by kernel_rfl) (by kernel_rfl) Tryd.underlying3

theorem und_ren : ∃ f0 f1 : Field, Tryd.prog.underlying 45 = some (.struct #[f0, f1]) ∧ f0.type = 9 ∧ f1.type = 3 ∧ f0.offset = 0 ∧ f1.offset = 1 := ⟨_, _, Tryd.underlying45, rfl, rfl, rfl, rfl⟩
theorem cells_ren : Tryd.prog.cellsOf 45 = 2 := by kernel_rfl
theorem cells_string : Tryd.prog.cellsOf 9 = 1 := by kernel_rfl
theorem cells_int : Tryd.prog.cellsOf 3 = 1 := by kernel_rfl

set_option maxRecDepth 100000 in
theorem en_open {H : Type} {enc : TypeId × Value → H} {w : World} {base fuel : Nat} {spare : Nat → Bool} {hb : Bool} {cs : List Value} {x : DataW H × List MemPlace}
    (h : DataW.trod enc Tryd.prog w base spare hb fuel 45 cs = some x) : ∃ e : En, cs = eE e ∧ (Lit.int .i64 e.2).wf = true := by
  obtain ⟨f0, f1, hu, t0, t1, o0, o1⟩ := und_ren
  obtain ⟨y0, y1, n, _, hl, h0, h1⟩ := trod_struct2 hu h
  rw [cells_ren] at hl
  match cs, hl with
  | [u, v], _ =>
    rw [t0, o0, cells_string] at h0
    rw [t1, o1, cells_int] at h1
    simp only [List.drop_zero, List.take_succ_cons, List.take_zero, List.drop_succ_cons] at h0 h1
    obtain ⟨a, e0, rfl, wa⟩ := DataW.trod_string Tryd.underlying9 h0
    obtain ⟨b, e1, rfl, wb⟩ := DataW.trod_int Tryd.underlying3 h1
    simp only [List.cons.injEq, and_true] at e0 e1
    subst e0 e1
    exact ⟨(a, b), rfl, wb⟩

set_option maxRecDepth 100000 in
theorem ents_sl {H : Type} {enc : TypeId × Value → H} {w : World} {base fuel : Nat} {spare : Nat → Bool} {hb : Bool} {v : Value} {x : DataW H × List MemPlace}
    (h : DataW.trod enc Tryd.prog w base spare hb fuel 22 [v] = some x) :
    ∃ A n c l, v = .slice A n c ∧ Sl eE 2 (fun j => j < w.heap.size) w A n c l ∧ ∀ e ∈ l, (Lit.int .i64 e.2).wf = true := by
  rcases open_slice Tryd.underlying22 h with ⟨hcs, _⟩ | ⟨a, len, cap, m, n, D, Pl, hcs, _, hl, hm, hmm, _, hcell⟩
  · simp only [List.cons.injEq, and_true] at hcs
    exact ⟨none, 0, 0, [], hcs, Sl.nil _ _ _ _ (Nat.zero_le _), fun e he => by cases he⟩
  · simp only [List.cons.injEq, and_true] at hcs
    have hlm : len ≤ m := by rw [hmm]; split <;> omega
    have hm63 : cap ≤ 9223372036854775807 := Nat.le_trans hm (by decide)
    obtain ⟨V, hV⟩ := choose_lt (α := En) (n := len) (p := fun i e => (∀ j u, (eE e)[j]? = some u → w.cell? (a.add (i * 2 + j)) = some u) ∧ (Lit.int .i64 e.2).wf = true) (fun i hi => by
      obtain ⟨cs', h1, h2⟩ := hcell i (by omega)
      obtain ⟨e, rfl, hw⟩ := en_open h2
      obtain ⟨_, hlen, hc⟩ := World.cells?_some h1
      rw [cells_ren] at hlen hc
      refine ⟨e, fun j u hu => ?_, hw⟩
      have hj : j < 2 := by
        rcases Nat.lt_or_ge j (eE e).length with h3 | h3
        · exact h3
        · rw [List.getElem?_eq_none h3] at hu; cases hu
      have := hc j hj
      rw [Addr.add_add, hu] at this
      exact this)
    refine ⟨some a, len, cap, (List.range len).map V, hcs, ⟨by simp, hl, hm63, fun i x hx => ?_⟩, fun e he => ?_⟩
    · have hi : i < len := by
        rcases Nat.lt_or_ge i len with h3 | h3
        · exact h3
        · rw [List.getElem?_eq_none (by simpa using h3)] at hx; cases hx
      have hx' : x = V i := by simpa [List.getElem?_map, List.getElem?_range, hi] using hx.symm
      subst hx'
      obtain ⟨b, off, spot⟩ := a
      have hsp : spot = none := by
        have := World.cell?_spot ((hV 0 (by omega)).1 0 _ rfl)
        simpa [Addr.add] using this
      subst hsp
      have hh : ∀ j u, (eE (V i))[j]? = some u → w.cell? ⟨b, off + i * 2 + j, none⟩ = some u := fun j u hu => by
        have := (hV i hi).1 j u hu
        rw [Addr.add_lit, ← Nat.add_assoc] at this
        exact this
      exact ⟨b, off, rfl, World.block_lt_of_cell? w _ (hh 0 _ rfl), hh⟩
    · obtain ⟨i, hi, rfl⟩ := List.mem_map.1 he
      exact (hV i (List.mem_range.1 hi)).2
end Go.Proofs.YtdocdppimpapiabDoor
