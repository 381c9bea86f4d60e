/-
  vol.Right, What, Inode, Block and the reference's: contracts.
-/
import Derived.Test.YtdocdppimpapiaaFw
namespace Go.Proofs.Ytdocdppimpapiaa
open Go.RowKit

def rightB (n b : Int) : Bool := decide (1 ≤ n) && (decide (n ≤ 64) && (decide (1 ≤ b) && decide (b ≤ 96)))
theorem rightB_t {n b : Int} (h1 : 1 ≤ n) (h2 : n ≤ 64) (h3 : 1 ≤ b) (h4 : b ≤ 96) : rightB n b = true := by simp [rightB, *]
theorem rightB_f {n b : Int} (h : n < 1 ∨ 64 < n ∨ b < 1 ∨ 96 < b) : rightB n b = false := by
  cases hb : rightB n b with
  | false => rfl
  | true => exact absurd h (by simp [rightB] at hb; omega)
theorem right_bd {n b : Int} (h : rightB n b = true) : 1 ≤ n ∧ n ≤ 64 ∧ 1 ≤ b ∧ b ≤ 96 := by simp [rightB] at h; omega

set_option maxHeartbeats 400000 in
theorem right_any (n b : Int) (w : World) :
    Calls Try.prog 14 #[.agg #[.int .i64 n, .int .i64 b]] w fun e w' => e = .returned (.bool (rightB n b)) ∧ Ext w w' := by
  go_enter Try.func14, Try.ntmps14
  go_wp2
  all_goals
    go_ret
    refine ⟨ret_bool ?_, (Ext.refl _).alloc _⟩
    first | (simp [rightB, *]; done) | (symm; exact rightB_f (by omega))

set_option maxHeartbeats 400000 in
theorem rright_any (n b : Int) (w : World) :
    Calls Try.prog 15 #[.agg #[.int .i64 n, .int .i64 b]] w fun e w' => e = .returned (.bool (rightB n b)) ∧ Ext w w' := by
  go_enter Try.func15, Try.ntmps15
  go_wp2
  all_goals
    go_ret
    refine ⟨ret_bool ?_, (Ext.refl _).alloc _⟩
    first | (simp [rightB, *]; done) | (symm; exact rightB_f (by omega))

def inodeK (n b i : Int) : Int := if rightB n b = true ∧ 1 ≤ i ∧ i ≤ n then i + 1 else 0
def blockK (n b i : Int) : Int := if rightB n b = true ∧ 0 ≤ i ∧ i < b then 2 + n + i else 0
theorem inodeK_no {n b i : Int} (h : ¬ (rightB n b = true ∧ 1 ≤ i ∧ i ≤ n)) : inodeK n b i = 0 := if_neg h
theorem inodeK_yes {n b i : Int} (h : rightB n b = true ∧ 1 ≤ i ∧ i ≤ n) : inodeK n b i = i + 1 := if_pos h
theorem blockK_no {n b i : Int} (h : ¬ (rightB n b = true ∧ 0 ≤ i ∧ i < b)) : blockK n b i = 0 := if_neg h
theorem blockK_yes {n b i : Int} (h : rightB n b = true ∧ 0 ≤ i ∧ i < b) : blockK n b i = 2 + n + i := if_pos h

set_option maxHeartbeats 400000 in
theorem inode_any (n b i : Int) (w : World) (hi : -9223372036854775808 ≤ i ∧ i ≤ 9223372036854775807) :
    Calls Try.prog 16 #[.agg #[.int .i64 n, .int .i64 b], .int .i64 i] w fun e w' => e = .returned (.int .u32 (inodeK n b i)) ∧ Ext w w' := by
  obtain ⟨hi0, hi1⟩ := hi
  by_cases hr : rightB n b = true
  · obtain ⟨h1, h2, h3, h4⟩ := right_bd hr
    go_enter Try.func16, Try.ntmps16
    go_wp2_with (go_at_call 14; refine (right_any _ _ _).mono ?_; rintro e w' ⟨rfl, he⟩; obtain ⟨hc, hf⟩ := ecell he)
    all_goals
      go_ret
      refine ⟨ret_int ?_, ((Ext.refl _).alloc _).trans (by assumption)⟩
      first | (symm; exact inodeK_no (by omega)) | (rw [inodeK_yes ⟨hr, by omega, by omega⟩]; done) | (rw [inodeK_yes ⟨hr, by omega, by omega⟩]; omega)
  · go_enter Try.func16, Try.ntmps16
    go_wp2_with (go_at_call 14; refine (right_any _ _ _).mono ?_; rintro e w' ⟨rfl, he⟩; obtain ⟨hc, hf⟩ := ecell he)
    go_ret
    exact ⟨ret_int (inodeK_no (fun h => hr h.1)).symm, ((Ext.refl _).alloc _).trans (by assumption)⟩

set_option maxHeartbeats 400000 in
theorem rinode_any (n b i : Int) (w : World) (hi : -9223372036854775808 ≤ i ∧ i ≤ 9223372036854775807) :
    Calls Try.prog 17 #[.agg #[.int .i64 n, .int .i64 b], .int .i64 i] w fun e w' => e = .returned (.int .u32 (inodeK n b i)) ∧ Ext w w' := by
  obtain ⟨hi0, hi1⟩ := hi
  by_cases hr : rightB n b = true
  · obtain ⟨h1, h2, h3, h4⟩ := right_bd hr
    go_enter Try.func17, Try.ntmps17
    go_wp2_with (go_at_call 15; refine (rright_any _ _ _).mono ?_; rintro e w' ⟨rfl, he⟩; obtain ⟨hc, hf⟩ := ecell he)
    all_goals
      go_ret
      refine ⟨ret_int ?_, ((Ext.refl _).alloc _).trans (by assumption)⟩
      first | (symm; exact inodeK_no (by omega)) | (rw [inodeK_yes ⟨hr, by omega, by omega⟩]; done) | (rw [inodeK_yes ⟨hr, by omega, by omega⟩]; omega)
  · go_enter Try.func17, Try.ntmps17
    go_wp2_with (go_at_call 15; refine (rright_any _ _ _).mono ?_; rintro e w' ⟨rfl, he⟩; obtain ⟨hc, hf⟩ := ecell he)
    go_ret
    exact ⟨ret_int (inodeK_no (fun h => hr h.1)).symm, ((Ext.refl _).alloc _).trans (by assumption)⟩

set_option maxHeartbeats 400000 in
theorem block_any (n b i : Int) (w : World) (hi : -9223372036854775808 ≤ i ∧ i ≤ 9223372036854775807) :
    Calls Try.prog 18 #[.agg #[.int .i64 n, .int .i64 b], .int .i64 i] w fun e w' => e = .returned (.int .u32 (blockK n b i)) ∧ Ext w w' := by
  obtain ⟨hi0, hi1⟩ := hi
  by_cases hr : rightB n b = true
  · obtain ⟨h1, h2, h3, h4⟩ := right_bd hr
    go_enter Try.func18, Try.ntmps18
    go_wp2_with (go_at_call 14; refine (right_any _ _ _).mono ?_; rintro e w' ⟨rfl, he⟩; obtain ⟨hc, hf⟩ := ecell he)
    all_goals
      go_ret
      refine ⟨ret_int ?_, ((Ext.refl _).alloc _).trans (by assumption)⟩
      first | (symm; exact blockK_no (by omega)) | (rw [blockK_yes ⟨hr, by omega, by omega⟩]; done) | (rw [blockK_yes ⟨hr, by omega, by omega⟩]; omega)
  · go_enter Try.func18, Try.ntmps18
    go_wp2_with (go_at_call 14; refine (right_any _ _ _).mono ?_; rintro e w' ⟨rfl, he⟩; obtain ⟨hc, hf⟩ := ecell he)
    go_ret
    exact ⟨ret_int (blockK_no (fun h => hr h.1)).symm, ((Ext.refl _).alloc _).trans (by assumption)⟩

set_option maxHeartbeats 400000 in
theorem rblock_any (n b i : Int) (w : World) (hi : -9223372036854775808 ≤ i ∧ i ≤ 9223372036854775807) :
    Calls Try.prog 19 #[.agg #[.int .i64 n, .int .i64 b], .int .i64 i] w fun e w' => e = .returned (.int .u32 (blockK n b i)) ∧ Ext w w' := by
  obtain ⟨hi0, hi1⟩ := hi
  by_cases hr : rightB n b = true
  · obtain ⟨h1, h2, h3, h4⟩ := right_bd hr
    go_enter Try.func19, Try.ntmps19
    go_wp2_with (go_at_call 15; refine (rright_any _ _ _).mono ?_; rintro e w' ⟨rfl, he⟩; obtain ⟨hc, hf⟩ := ecell he)
    all_goals
      go_ret
      refine ⟨ret_int ?_, ((Ext.refl _).alloc _).trans (by assumption)⟩
      first | (symm; exact blockK_no (by omega)) | (rw [blockK_yes ⟨hr, by omega, by omega⟩]; done) | (rw [blockK_yes ⟨hr, by omega, by omega⟩]; omega)
  · go_enter Try.func19, Try.ntmps19
    go_wp2_with (go_at_call 15; refine (rright_any _ _ _).mono ?_; rintro e w' ⟨rfl, he⟩; obtain ⟨hc, hf⟩ := ecell he)
    go_ret
    exact ⟨ret_int (blockK_no (fun h => hr h.1)).symm, ((Ext.refl _).alloc _).trans (by assumption)⟩

def whatK (n b k : Int) : Int := if rightB n b = true ∧ k < 2 + n + b then (if k = 0 then 1 else if k = 1 then 2 else if k < 2 + n then 3 else 4) else 0
def whatI (n b k : Int) : Int := if rightB n b = true ∧ k < 2 + n + b then (if k = 0 then 0 else if k = 1 then 0 else if k < 2 + n then k - 1 else k - 2 - n) else 0
theorem what_out {n b k : Int} (h : ¬ (rightB n b = true ∧ k < 2 + n + b)) : 0 = whatK n b k ∧ 0 = whatI n b k := ⟨(if_neg h).symm, (if_neg h).symm⟩
theorem what_0 {n b k : Int} (h : rightB n b = true ∧ k < 2 + n + b) (hk : k = 0) : 1 = whatK n b k ∧ 0 = whatI n b k := by
  subst hk; constructor
  · unfold whatK; rw [if_pos h]; rfl
  · unfold whatI; rw [if_pos h]; rfl
theorem what_1 {n b k : Int} (h : rightB n b = true ∧ k < 2 + n + b) (hk : k = 1) : 2 = whatK n b k ∧ 0 = whatI n b k := by
  subst hk; constructor
  · unfold whatK; rw [if_pos h]; rfl
  · unfold whatI; rw [if_pos h]; rfl
theorem what_n {n b k : Int} (h : rightB n b = true ∧ k < 2 + n + b) (h0 : 2 ≤ k) (hk : k < 2 + n) : 3 = whatK n b k ∧ k - 1 = whatI n b k := by
  constructor
  · unfold whatK; rw [if_pos h, if_neg (by omega), if_neg (by omega), if_pos hk]
  · unfold whatI; rw [if_pos h, if_neg (by omega), if_neg (by omega), if_pos hk]
theorem what_b {n b k : Int} (h : rightB n b = true ∧ k < 2 + n + b) (h0 : 2 ≤ k) (hk : 2 + n ≤ k) : 4 = whatK n b k ∧ k - 2 - n = whatI n b k := by
  have := right_bd h.1
  constructor
  · unfold whatK; rw [if_pos h, if_neg (by omega), if_neg (by omega), if_neg (by omega)]
  · unfold whatI; rw [if_pos h, if_neg (by omega), if_neg (by omega), if_neg (by omega)]
theorem ret_what {n b k x y : Int} (h : x = whatK n b k ∧ y = whatI n b k) : Ending.returned (.tuple #[.int .i64 x, .int .i64 y]) = .returned (.tuple #[.int .i64 (whatK n b k), .int .i64 (whatI n b k)]) := by rw [h.1, h.2]

set_option maxHeartbeats 400000 in
theorem what_any (n b k : Int) (w : World) (hk : 0 ≤ k ∧ k < 4294967296) :
    Calls Try.prog 12 #[.agg #[.int .i64 n, .int .i64 b], .int .u32 k] w fun e w' => e = .returned (.tuple #[.int .i64 (whatK n b k), .int .i64 (whatI n b k)]) ∧ Ext w w' := by
  obtain ⟨hk0, hk1⟩ := hk
  by_cases hr : rightB n b = true
  · obtain ⟨h1, h2, h3, h4⟩ := right_bd hr
    go_enter Try.func12, Try.ntmps12
    go_wp2_with (go_at_call 14; refine (right_any _ _ _).mono ?_; rintro e w' ⟨rfl, he⟩; obtain ⟨hc, hf⟩ := ecell he)
    all_goals try (go_quiet (fail); go_wp2)
    all_goals go_ret2
    all_goals refine ⟨ret_what ?_, by first | exact ((Ext.refl _).alloc _).trans (by assumption) | exact (((Ext.refl _).alloc _).trans (by assumption)).drewN _⟩
    all_goals try simp only [beq_iff_eq, beq_eq_false_iff_ne, ne_eq] at *
    all_goals first | exact what_out (by omega) | exact what_0 ⟨hr, by omega⟩ (by omega) | exact what_1 ⟨hr, by omega⟩ (by omega) | (have h := what_n (b := b) ⟨hr, by omega⟩ (by omega) (by assumption); rw [← h.1, ← h.2]; exact ⟨rfl, by omega⟩) | exact what_b ⟨hr, by omega⟩ (by omega) (by omega)
  · go_enter Try.func12, Try.ntmps12
    go_wp2_with (go_at_call 14; refine (right_any _ _ _).mono ?_; rintro e w' ⟨rfl, he⟩; obtain ⟨hc, hf⟩ := ecell he)
    go_ret2
    exact ⟨ret_what (what_out (fun h => hr h.1)), ((Ext.refl _).alloc _).trans (by assumption)⟩

set_option maxHeartbeats 800000 in
theorem rwhat_any (n b k : Int) (w : World) (hk : 0 ≤ k ∧ k < 4294967296) :
    Calls Try.prog 13 #[.agg #[.int .i64 n, .int .i64 b], .int .u32 k] w fun e w' => e = .returned (.tuple #[.int .i64 (whatK n b k), .int .i64 (whatI n b k)]) ∧ Ext w w' := by
  obtain ⟨hk0, hk1⟩ := hk
  by_cases hr : rightB n b = true
  · obtain ⟨h1, h2, h3, h4⟩ := right_bd hr
    by_cases c0 : k = 0
    · have e0 : (k == 0) = true := by simp [c0]
      have H := Lib.hid c0
      clear c0
      go_enter Try.func13, Try.ntmps13
      go_wp2_with (go_at_call 15; refine (rright_any _ _ _).mono ?_; rintro e w' ⟨rfl, he⟩; obtain ⟨hc, hf⟩ := ecell he)
      go_ret2
      have c0 := H.out
      exact ⟨ret_what (what_0 ⟨hr, by omega⟩ c0), ((Ext.refl _).alloc _).trans (by assumption)⟩
    by_cases c1 : k = 1
    · have e1 : (k == 1) = true := by simp [c1]
      have e0 : (k == 0) = false := by simp [c0]
      have H := Lib.hid c1
      clear c0 c1
      go_enter Try.func13, Try.ntmps13
      go_wp2_with (go_at_call 15; refine (rright_any _ _ _).mono ?_; rintro e w' ⟨rfl, he⟩; obtain ⟨hc, hf⟩ := ecell he)
      go_ret2
      have c1 := H.out
      exact ⟨ret_what (what_1 ⟨hr, by omega⟩ c1), ((Ext.refl _).alloc _).trans (by assumption)⟩
    have e0 : (k == 0) = false := by simp [c0]
    have e1 : (k == 1) = false := by simp [c1]
    have h5 : 2 ≤ k := by omega
    clear c0 c1
    go_enter Try.func13, Try.ntmps13
    go_wp2_with (go_at_call 15; refine (rright_any _ _ _).mono ?_; rintro e w' ⟨rfl, he⟩; obtain ⟨hc, hf⟩ := ecell he)
    go_loopw [6] (fun i wr => ∃ j : Int, i = .int .i64 j ∧ 1 ≤ j ∧ j ≤ n + 1 ∧ j + 1 ≤ k ∧ Ext (w.alloc (.cells #[.int .i64 n, .int .i64 b] 23)) wr) (fun i _ => (n + 1 - intOf i).toNat)
    case atStart => exact ⟨1, rfl, by omega, by omega, by omega, he⟩
    case round =>
      clear hc hf
      obtain ⟨j, rfl, hj1, hj2, hj3, hx⟩ := hrel
      obtain ⟨hc, hf⟩ := ecell hx
      by_cases hjn : j ≤ n
      · have ek := inodeK_yes (i := j) ⟨hr, hj1, hjn⟩
        by_cases ej : j + 1 = k
        · have E : (inodeK n b j == k) = true := by rw [ek]; simp [ej]
          have H := Lib.hid ej
          clear ek ej
          go_wp2_with (go_at_call 17; refine (rinode_any _ _ _ _ (by omega)).mono ?_; rintro e w2 ⟨rfl, he2⟩; obtain ⟨hc2, hf2⟩ := ecell he2)
          go_ret2
          have ej := H.out
          have h := what_n (b := b) (k := k) ⟨hr, by omega⟩ (by omega) (by omega)
          refine ⟨?_, ((Ext.refl _).alloc _).trans (Ext.trans (by assumption) (by assumption))⟩
          rw [← h.1, ← h.2, ← ej]; simp
        · have E : (inodeK n b j == k) = false := by rw [ek]; simp [ej]
          clear ek
          go_wp2_with (go_at_call 17; refine (rinode_any _ _ _ _ (by omega)).mono ?_; rintro e w2 ⟨rfl, he2⟩; obtain ⟨hc2, hf2⟩ := ecell he2)
          go_roundw
          case rel => exact ⟨j + 1, rfl, by omega, by omega, by omega, Ext.trans (by assumption) (by assumption)⟩
          case measure => simp [intOf]; omega
      · go_wp2
        have h6 : 2 + n ≤ k := by omega
        clear hj1 hj2 hj3 hjn
        go_loopw [7] (fun i wr => ∃ j : Int, i = .int .i64 j ∧ 0 ≤ j ∧ j ≤ b ∧ 2 + n + j ≤ k ∧ Ext (w.alloc (.cells #[.int .i64 n, .int .i64 b] 23)) wr) (fun i _ => (b - intOf i).toNat)
        case atStart => exact ⟨0, rfl, by omega, by omega, by omega, hx⟩
        case round =>
          clear hc hf hx
          obtain ⟨j, rfl, hj1, hj2, hj3, hx⟩ := hrel
          obtain ⟨hc, hf⟩ := ecell hx
          by_cases hjn : j < b
          · have ek := blockK_yes (i := j) ⟨hr, hj1, hjn⟩
            by_cases ej : 2 + n + j = k
            · have E : (blockK n b j == k) = true := by rw [ek]; simp [ej]
              have H := Lib.hid ej
              clear ek ej
              go_wp2_with (go_at_call 19; refine (rblock_any _ _ _ _ (by omega)).mono ?_; rintro e w2 ⟨rfl, he2⟩; obtain ⟨hc2, hf2⟩ := ecell he2)
              go_ret2
              have ej := H.out
              have h := what_b (b := b) (k := k) ⟨hr, by omega⟩ (by omega) (by omega)
              refine ⟨?_, ((Ext.refl _).alloc _).trans (Ext.trans (by assumption) (by assumption))⟩
              rw [← h.1, ← h.2, ← ej, show 2 + n + j - 2 - n = j by omega]; simp
            · have E : (blockK n b j == k) = false := by rw [ek]; simp [ej]
              clear ek
              go_wp2_with (go_at_call 19; refine (rblock_any _ _ _ _ (by omega)).mono ?_; rintro e w2 ⟨rfl, he2⟩; obtain ⟨hc2, hf2⟩ := ecell he2)
              go_roundw
              case rel => exact ⟨j + 1, rfl, by omega, by omega, by omega, Ext.trans (by assumption) (by assumption)⟩
              case measure => simp [intOf]; omega
          · go_wp2
            go_ret2
            exact ⟨ret_what (what_out (fun h => by omega)), ((Ext.refl _).alloc _).trans (by assumption)⟩
  · go_enter Try.func13, Try.ntmps13
    go_wp2_with (go_at_call 15; refine (rright_any _ _ _).mono ?_; rintro e w' ⟨rfl, he⟩; obtain ⟨hc, hf⟩ := ecell he)
    go_ret2
    exact ⟨ret_what (what_out (fun h => hr h.1)), ((Ext.refl _).alloc _).trans (by assumption)⟩
end Go.Proofs.Ytdocdppimpapiaa
