/-
  The package fix, bytes that are put: contracts.
-/
import Derived.Test.YtdocdppimpapiaaFix
namespace Go.Proofs.Ytdocdppimpapiaa
open Go.RowKit

/-- A number's bytes, the greatest first. -/
def beB (n : Int) : Nat → List Int
  | 0 => []
  | k + 1 => beB (n / 256) k ++ [n % 256]
theorem beB_len : ∀ (k : Nat) (n : Int), (beB n k).length = k
  | 0, _ => rfl
  | k + 1, n => by rw [beB, List.length_append, beB_len k]; rfl
theorem beB_bt : ∀ (k : Nat) (n : Int), Bt (beB n k)
  | 0, _ => Bt.nil
  | k + 1, n => fun x hx => by
    rw [beB, List.mem_append, List.mem_singleton] at hx
    rcases hx with hx | rfl
    · exact beB_bt k _ x hx
    · omega
theorem numB_beB : ∀ (k : Nat) (n : Int), 0 ≤ n → n < 256 ^ k → numB (beB n k) = n
  | 0, n, h0, h1 => by simp at h1; simp [beB, numB]; omega
  | k + 1, n, h0, h1 => by
    rw [beB, numB_snoc, numB_beB k (n / 256) (by omega) (by rw [Int.pow_succ] at h1; omega)]
    omega
/-- Byte number i from behind. -/
theorem beB_get : ∀ (k : Nat) (n : Int) (i : Nat), i < k → (beB n k)[k - 1 - i]? = some (n / 256 ^ i % 256)
  | 0, _, _, h => absurd h (Nat.not_lt_zero _)
  | k + 1, n, 0, _ => by
    rw [beB, List.getElem?_append_right (by rw [beB_len]; omega), beB_len]
    simp
  | k + 1, n, i + 1, h => by
    rw [beB, List.getElem?_append_left (by rw [beB_len]; omega), show k + 1 - 1 - (i + 1) = k - 1 - i by omega, beB_get k (n / 256) i (by omega), Int.pow_succ, Int.mul_comm, Int.ediv_ediv_of_nonneg (by omega)]
/-- What lies in the row when i bytes have been laid. -/
def laidB (n : Int) (k i : Nat) : List Int := List.replicate (k - i) 0 ++ (beB n k).drop (k - i)
theorem laidB_zero (n : Int) (k : Nat) : laidB n k 0 = List.replicate k 0 := by
  unfold laidB
  rw [Nat.sub_zero, List.drop_eq_nil_of_le (by rw [beB_len]; exact Nat.le_refl _), List.append_nil]
theorem laidB_all (n : Int) (k : Nat) : laidB n k k = beB n k := by
  unfold laidB
  rw [Nat.sub_self, List.drop_zero]; rfl
theorem laidB_next (n : Int) (k i : Nat) (h : i < k) : (laidB n k i).set (k - 1 - i) (n / 256 ^ i % 256) = laidB n k (i + 1) := by
  unfold laidB
  have h1 : k - i = (k - (i + 1)) + 1 := by omega
  have h2 : (beB n k).drop (k - (i + 1)) = (n / 256 ^ i % 256) :: (beB n k).drop (k - i) := by
    have h3 := beB_get k n i h
    have h4 : k - (i + 1) < (beB n k).length := by rw [beB_len]; omega
    rw [List.drop_eq_getElem_cons h4, show k - (i + 1) + 1 = k - i by omega]
    congr 1
    have h5 := List.getElem?_eq_getElem h4
    rw [show k - 1 - i = k - (i + 1) by omega, h5] at h3
    injection h3
  rw [h2, h1, List.replicate_succ', List.append_assoc, List.set_append_right _ _ (by rw [List.length_replicate]; omega), List.length_replicate, show k - 1 - i - (k - (i + 1)) = 0 by omega]
  rfl
theorem pow256 (j : Nat) : (256 : Int) ^ j = 2 ^ (8 * j) := by rw [Int.pow_mul]; rfl

set_option maxHeartbeats 800000 in
theorem laid_any (n : Int) (k : Nat) (w : World) (h8 : k ≤ 8) :
    Calls Try.prog 101 #[.int .u64 n, .int .i64 k] w (RetSl (eI .u8) 1 (beB n k) w) := by
  go_enter Try.func101, Try.ntmps101
  go_wp2_with (at_make; refine wpList_mk _ rfl _ _ 35 rfl w.heap.size info_u8 Try.underlying35 .i64 .i64 _ _ k rfl rfl rfl rfl (by omega) (by omega) (Nat.le_refl _) ?_; intro w1 hO hg hz)
  have hE : Ext w w1 := (Ext.refl _).grown hg fun _ h => by cases h
  rw [← laidB_zero n k] at hO
  go_loopw [6, 11] (fun _ i wr => ∃ j : Nat, j ≤ k ∧ i = .int .i64 j ∧ Ow (eI .u8) 1 5 w.heap.size wr (some ⟨w.heap.size, 0, none⟩) k k (laidB n k j) ∧ Ext w wr) (fun _ i _ => k - (intOf i).toNat)
  case atStart => exact ⟨0, Nat.zero_le _, rfl, hO, hE⟩
  case round =>
    clear hO hE hg hz
    obtain ⟨j, hj, rfl, hO, hE⟩ := hrel
    by_cases hlt : j < k
    · obtain ⟨x, _, hc⟩ := hO.num (k - 1 - j) (by omega)
      have hf := hO.free (k - 1 - j)
      have H := Lib.hid hO
      clear hO
      go_wp2
      refine ⟨⟨j + 1, by omega, by go_num, ?_, hE.setCell (Nat.le_refl _) _⟩, by simp [intOf]; omega⟩
      have h1 := (H.out.set (k - 1 - j) (n / 2 ^ (8 * j) % 256)).1
      have h2 := laidB_next n k j hlt
      rw [pow256] at h2
      rw [h2] at h1
      exact h1
    · go_wp2
      go_ret
      obtain rfl : j = k := by omega
      rw [laidB_all] at hO
      exact ⟨_, _, _, rfl, (hO.sl (eI_len _)).mono fun _ h => h.1, hE⟩

/-- Bytes that are put, at block g: how many there may be, what there is, what went wrong. What lies below 'base' is not theirs. -/
structure OutAt (base : Nat) (w : World) (g : Nat) (most : Int) (l : List Int) (er : Int) : Prop where
  ex : ∃ A n cap, w.heap[g]? = some (.cells #[.slice A n cap, .int .i64 most, .int .i64 er] 145 (0, 0)) ∧ Ow (eI .u8) 1 5 base w A n cap l
  le : base ≤ g
/-- The blocks below base are as they were; and so is whatever holds neither bytes nor such a writer. -/
structure Kept (base : Nat) (w w' : World) : Prop where
  out : Below base w w'
  oth : ∀ (k : Nat) (cs : Array Value) (t : Nat) (fr : Nat × Nat), w.heap[k]? = some (.cells cs t fr) → t ≠ 5 → t ≠ 145 → w'.heap[k]? = some (.cells cs t fr)
theorem Kept.refl (base : Nat) (w : World) : Kept base w w := ⟨Below.refl _ _, fun _ _ _ _ h _ _ => h⟩
theorem Kept.trans {base : Nat} {a b c : World} (h : Kept base a b) (k : Kept base b c) : Kept base a c := ⟨h.out.trans k.out, fun i cs t fr h1 h2 h3 => k.oth i cs t fr (h.oth i cs t fr h1 h2 h3) h2 h3⟩
theorem Kept.setOut {base g j : Nat} {a b : World} (h : Kept base a b) (hp : base ≤ g) {cs : Array Value} {fr : Nat × Nat} (hg : b.heap[g]? = some (.cells cs 145 fr)) (u : Value) : Kept base a (b.setCell ⟨g, j, none⟩ u) :=
  ⟨h.out.setCell hp u, fun i cs' t fr' h1 h2 h3 => by
    have h4 := h.oth i cs' t fr' h1 h2 h3
    rw [Below.heap_setCell _ _ _ _ (fun e => ?_)]
    · exact h4
    · subst e
      rw [h4] at hg
      injection hg with hg
      injection hg with _ hg
      exact h3 hg⟩
theorem Ext.kept {base : Nat} {a b : World} (h : Ext a b) (hb : base ≤ a.heap.size) : Kept base a b := ⟨h.out.mono hb, fun i cs t fr h1 _ _ => (h.block i (lt_of_heap h1)).trans h1⟩
theorem Kept.ext {a b c : World} {base : Nat} (h : Ext a b) (k : Kept base b c) (hb : a.heap.size ≤ base) : Ext a c := ⟨h.out.trans (k.out.mono hb)⟩
theorem Kept.at {base : Nat} {a b : World} (h : Kept base a b) {g j : Nat} {cs : Array Value} {t : Nat} {fr : Nat × Nat} (hg : a.heap[g]? = some (.cells cs t fr)) (h1 : t ≠ 5) (h2 : t ≠ 145) : b.cell? ⟨g, j, none⟩ = cs[j]? :=
  cell_of_heap (h.oth g cs t fr hg h1 h2) j
theorem Sl.keep {α : Type} {enc : α → List Value} {sz base : Nat} {Q : Nat → Prop} {w w' : World} {A : Option Addr} {n cap : Nat} {l : List α} (h : Sl enc sz Q w A n cap l) (hk : Kept base w w') (hq : ∀ k, Q k → k < base) : Sl enc sz Q w' A n cap l :=
  h.step fun k h1 _ => hk.out.block k (hq k h1)
theorem OutAt.ext {base : Nat} {w w' : World} {g : Nat} {most : Int} {l : List Int} {er : Int} (i : OutAt base w g most l er) (he : Ext w w') : OutAt base w' g most l er := by
  obtain ⟨A, n, cap, h1, h2⟩ := i.ex
  exact ⟨⟨A, n, cap, (he.block g (lt_of_heap h1)).trans h1, h2.ext he⟩, i.le⟩

/-- What becomes of bytes and error when more are put. -/
def putO (most : Int) (s : List Int × Int) (b : List Int) : List Int × Int :=
  if s.2 = 0 then (if most - s.1.length < b.length then (s.1, 6) else (s.1 ++ b, 0)) else s
def OutDone (base g : Nat) (most : Int) (w : World) (s : List Int × Int) (e : Ending) (w' : World) : Prop := e = .returned (.tuple #[]) ∧ OutAt base w' g most s.1 s.2 ∧ Kept base w w'

set_option maxHeartbeats 400000 in
theorem ofail_any (base g : Nat) (most : Int) (l : List Int) (c : Int) (w : World) (h : OutAt base w g most l 0) :
    Calls Try.prog 98 #[.pointer (some ⟨g, 0, none⟩), .int .i64 c] w (OutDone base g most w (l, c)) := by
  have hle := h.le
  obtain ⟨A, n, cap, h1, h2⟩ := h.ex
  have c2 := cell_of_heap h1 2
  have f2 := free_of_heap h1 2
  simp only [List.getElem?_toArray, List.getElem?_cons_zero, List.getElem?_cons_succ] at c2
  have H1 := Lib.hid h1
  have H2 := Lib.hid h2
  clear h h1 h2
  go_enter Try.func98, Try.ntmps98
  go_wp2
  go_end0
  refine ⟨rfl, ⟨⟨_, _, _, (heap_set _ _ _ _ _ _ _ H1.out).trans rfl, H2.out.step fun k hk => Below.heap_setCell _ _ _ _ (H2.out.ne H1.out (by decide) k hk)⟩, hle⟩, (Kept.refl _ _).setOut hle H1.out _⟩

set_option maxHeartbeats 800000 in
theorem oput_any (base g : Nat) (most : Int) (l : List Int) (er : Int) (A : Option Addr) (n cap : Nat) (b : List Int) (Q : Nat → Prop) (w : World) (h : OutAt base w g most l er)
    (hs : Sl (eI .u8) 1 Q w A n cap b) (hl : l.length ≤ 1048576) (hb : b.length ≤ 1048576) (hm : 0 ≤ most ∧ most ≤ 1048576) :
    Calls Try.prog 100 #[.pointer (some ⟨g, 0, none⟩), .slice A n cap] w (OutDone base g most w (putO most (l, er) b)) := by
  obtain ⟨hm0, hm1⟩ := hm
  have hle := h.le
  obtain ⟨A0, n0, cap0, h1, h2⟩ := h.ex
  have c0 := cell_of_heap h1 0
  have c1 := cell_of_heap h1 1
  have c2 := cell_of_heap h1 2
  have f0 := free_of_heap h1 0
  simp only [List.getElem?_toArray, List.getElem?_cons_zero, List.getElem?_cons_succ] at c0 c1 c2
  have n0' : n0 ≤ 1048576 := by rw [h2.len]; exact hl
  have n' : n ≤ 1048576 := by rw [hs.len]; exact hb
  have hbase : base ≤ w.heap.size := Nat.le_of_lt (Nat.lt_of_le_of_lt hle (lt_of_heap h1))
  have HN0 := Lib.hid h2.len
  have HN := Lib.hid hs.len
  have HH := Lib.hid h
  have H1 := Lib.hid h1
  have H2 := Lib.hid h2
  have HS := Lib.hid hs
  clear h h1 h2 hs
  by_cases he : er = 0
  · subst he
    by_cases hlt : most - (n0 : Int) < (n : Int)
    · have E : putO most (l, 0) b = (l, 6) := by unfold putO; rw [if_pos rfl, if_pos (by rw [← HN0.out, ← HN.out]; exact hlt)]
      rw [E]
      go_enter Try.func100, Try.ntmps100
      go_wp2
      go_quiet (fail)
      go_wp2_with (go_at_call 98; refine (ofail_any base _ most l _ _ (HH.out.ext ((Ext.refl _).drewN _))).mono ?_; rintro e w' ⟨rfl, hi, hk⟩)
      go_end0
      exact ⟨rfl, hi, ((Ext.refl _).drewN _ |>.kept hbase).trans hk⟩
    · have E : putO most (l, 0) b = (l ++ b, 0) := by unfold putO; rw [if_pos rfl, if_neg (by rw [← HN0.out, ← HN.out]; exact hlt)]
      rw [E]
      go_enter Try.func100, Try.ntmps100
      go_wp2
      go_quiet (fail)
      go_wp2_with (at_builtin; refine wpList_app _ rfl _ _ 35 rfl info_u8 Try.underlying35 rfl (by decide) (eI_len _) (eI_one _) (base := base) (H2.out.ext ((Ext.refl _).drewN _)) rfl (HS.out.ext ((Ext.refl _).drewN _)) rfl (by omega) (by omega) hbase ?_; intro A2 n2 cap2 w2 hO hg hrow _; have hh := heap_grown (by exact H1.out) hg (H2.out.row_ne H1.out (by decide)); have c0' := cell_of_heap hh 0; have f0' := free_of_heap hh 0; simp only [List.getElem?_toArray, List.getElem?_cons_zero] at c0'; have HO := Lib.hid hO; have HG := Lib.hid hg; have HH2 := Lib.hid hh; clear hO hg hrow hh)
      go_end0
      refine ⟨rfl, ⟨⟨A2, n2, cap2, (heap_set _ _ _ _ _ _ _ HH2.out).trans rfl, HO.out.step fun k hk => Below.heap_setCell _ _ _ _ (HO.out.ne HH2.out (by decide) k hk)⟩, hle⟩, Kept.setOut ⟨?_, ?_⟩ hle HH2.out _⟩
      · exact ((Below.refl base w).trans (((Ext.refl w).drewN _).out.mono hbase)).grown HG.out hbase fun k hk => (H2.out.lt k hk).1
      · intro k cs t fr hk ht _
        exact heap_grown (by exact hk) HG.out (H2.out.row_ne hk ht)
  · have e0 : (er != 0) = true := by simp [he]
    have E : putO most (l, er) b = (l, er) := by simp [putO, he]
    rw [E]
    clear he
    go_enter Try.func100, Try.ntmps100
    go_wp2
    go_end0
    exact ⟨rfl, HH.out, Kept.refl _ _⟩
end Go.Proofs.Ytdocdppimpapiaa
