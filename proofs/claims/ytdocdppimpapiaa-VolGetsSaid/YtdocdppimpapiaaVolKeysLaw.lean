/-
  VolKeys: whatever the shape, the key and the number: the call returns true.
-/
import Derived.Test.YtdocdppimpapiaaKeys
namespace Go.Proofs.Ytdocdppimpapiaa
open Go.RowKit

set_option maxHeartbeats 800000 in
theorem awake30_any (w : World) : Calls Try.prog 20 #[] w fun e w' => e = .returned (.bool true) ∧ Ext w w' := by
  have e1 : whatK 4 9 6 = 4 := by decide
  have e2 : whatI 4 9 6 = 0 := by decide
  have e3 : blockK 4 9 0 = 6 := by decide
  have e4 : rightB 4 9 = true := by decide
  go_enter Try.func20, Try.ntmps20
  go_wp2_with (first
    | (go_at_call 12; refine (what_any _ _ _ _ (by decide)).mono ?_; rintro e w1 ⟨rfl, he1⟩; obtain ⟨hc1, hf1, hz1⟩ := ecell3 he1)
    | (go_at_call 18; refine (block_any _ _ _ _ (by decide)).mono ?_; rintro e w2 ⟨rfl, he2⟩; obtain ⟨hc2, hf2, hz2⟩ := ecell3 he2)
    | (go_at_call 14; refine (right_any _ _ _).mono ?_; rintro e w3 ⟨rfl, he3⟩; obtain ⟨hc3, hf3, hz3⟩ := ecell3 he3))
  go_ret
  exact ⟨rfl, ((((Ext.refl _).alloc _).trans he1).trans he2).trans he3⟩


theorem what_back3 {n b k : Int} (hk : 0 ≤ k) (h : whatK n b k = 3) : inodeK n b (whatI n b k) = k := by
  unfold whatK at h; unfold whatI
  split at h <;> try (exact absurd h (by decide))
  rename_i hc
  have := right_bd hc.1
  rw [if_pos hc]
  split at h <;> try (exact absurd h (by decide))
  split at h <;> try (exact absurd h (by decide))
  split at h <;> try (exact absurd h (by decide))
  rw [if_neg (by omega), if_neg (by omega), if_pos (by omega), inodeK_yes ⟨hc.1, by omega, by omega⟩]; omega
theorem what_back4 {n b k : Int} (h : whatK n b k = 4) : blockK n b (whatI n b k) = k := by
  unfold whatK at h; unfold whatI
  split at h <;> try (exact absurd h (by decide))
  rename_i hc
  have := right_bd hc.1
  rw [if_pos hc]
  split at h <;> try (exact absurd h (by decide))
  split at h <;> try (exact absurd h (by decide))
  split at h <;> try (exact absurd h (by decide))
  rw [if_neg (by omega), if_neg (by omega), if_neg (by omega), blockK_yes ⟨hc.1, by omega, by omega⟩]; omega
theorem what_bd {n b k : Int} (hk : 0 ≤ k ∧ k < 4294967296) : -9223372036854775808 ≤ whatI n b k ∧ whatI n b k ≤ 9223372036854775807 := by
  unfold whatI
  split
  · rename_i hc
    have := right_bd hc.1
    split
    · omega
    · split
      · omega
      · split <;> omega
  · omega

set_option maxHeartbeats 1600000 in
theorem volKeys_any (n b k i : Int) (w : World) (hk : 0 ≤ k ∧ k < 4294967296) (hi : -9223372036854775808 ≤ i ∧ i ≤ 9223372036854775807) :
    Calls Try.prog 3 #[.agg #[.int .i64 n, .int .i64 b], .int .u32 k, .int .i64 i] w fun e w' => e = .returned (.bool true) ∧ Ext w w' := by
  have hI := what_bd (n := n) (b := b) hk
  have T3 : (whatK n b k == 3) = true → (inodeK n b (whatI n b k) != k) = false := fun h => by simp only [beq_iff_eq] at h; simp [what_back3 hk.1 h]
  have T4 : (whatK n b k == 4) = true → (blockK n b (whatI n b k) != k) = false := fun h => by simp only [beq_iff_eq] at h; simp [what_back4 h]
  have T3' := Lib.hid T3
  have T4' := Lib.hid T4
  clear T3 T4
  go_enter Try.func3, Try.ntmps3
  go_wp2_with (first
    | (go_at_call 12; refine (what_any _ _ _ _ hk).mono ?_; rintro e w1 ⟨rfl, he1⟩; obtain ⟨hc1, hf1, hz1⟩ := ecell3 he1)
    | (go_at_call 13; refine (rwhat_any _ _ _ _ hk).mono ?_; rintro e w2 ⟨rfl, he2⟩; obtain ⟨hc2, hf2, hz2⟩ := ecell3 he2))
  have B : Ext ((w.alloc (.cells #[.int .i64 n, .int .i64 b] 23)).alloc (.cells #[.int .i64 n, .int .i64 b] 25)) w2.drew := (he1.trans he2).drew
  have b0 := B.at (((Ext.refl _).alloc _).at (cell_new w #[.int .i64 n, .int .i64 b] 23 0 (0, 0) rfl))
  have b1 := B.at (((Ext.refl _).alloc _).at (cell_new w #[.int .i64 n, .int .i64 b] 23 1 (0, 0) rfl))
  have b2 := B.at (cell_new (w.alloc (.cells #[.int .i64 n, .int .i64 b] 23)) #[.int .i64 n, .int .i64 b] 25 0 (0, 0) rfl)
  have b3 := B.at (cell_new (w.alloc (.cells #[.int .i64 n, .int .i64 b] 23)) #[.int .i64 n, .int .i64 b] 25 1 (0, 0) rfl)
  rw [World.size_alloc] at b2 b3
  have b4 : Ext w w2.drew := (((Ext.refl w).alloc _).alloc _).trans B
  go_region_held3 (fun W => W.cell? ⟨w.heap.size, 0, none⟩ = some (.int .i64 n) ∧ W.cell? ⟨w.heap.size, 1, none⟩ = some (.int .i64 b) ∧ W.cell? ⟨w.heap.size + 1, 0, none⟩ = some (.int .i64 n) ∧ W.cell? ⟨w.heap.size + 1, 1, none⟩ = some (.int .i64 b) ∧ Ext w W)
   (first | exact ⟨b0, b1, b2, b3, b4⟩ | (go_split_ands; refine ⟨he3.at (by assumption), he3.at (by assumption), he3.at (by assumption), he3.at (by assumption), Ext.trans (by assumption) he3⟩))
   (first
    | (go_at_call 14; refine (right_any _ _ _).mono ?_; rintro e w3 ⟨rfl, he3⟩; obtain ⟨hc3, hf3, hz3⟩ := ecell3 he3)
    | (go_at_call 15; refine (rright_any _ _ _).mono ?_; rintro e w3 ⟨rfl, he3⟩; obtain ⟨hc3, hf3, hz3⟩ := ecell3 he3)
    | (go_at_call 16; refine (inode_any _ _ _ _ hi).mono ?_; rintro e w3 ⟨rfl, he3⟩; obtain ⟨hc3, hf3, hz3⟩ := ecell3 he3)
    | (go_at_call 17; refine (rinode_any _ _ _ _ hi).mono ?_; rintro e w3 ⟨rfl, he3⟩; obtain ⟨hc3, hf3, hz3⟩ := ecell3 he3)
    | (go_at_call 18; refine (block_any _ _ _ _ hi).mono ?_; rintro e w3 ⟨rfl, he3⟩; obtain ⟨hc3, hf3, hz3⟩ := ecell3 he3)
    | (go_at_call 19; refine (rblock_any _ _ _ _ hi).mono ?_; rintro e w3 ⟨rfl, he3⟩; obtain ⟨hc3, hf3, hz3⟩ := ecell3 he3))
  rename_i hS
  obtain ⟨s0, s1, s2, s3, s4⟩ := hS
  by_cases t3 : (whatK n b k == 3) = true
  · have t3' := T3'.out t3
    have t4 : (whatK n b k == 4) = false := by simp only [beq_iff_eq] at t3; rw [t3]; rfl
    go_wp2_with (first
      | (go_at_call 16; refine (inode_any _ _ _ _ hI).mono ?_; rintro e w4 ⟨rfl, he4⟩; obtain ⟨hc4, hf4, hz4⟩ := ecell3 he4)
      | (go_at_call 18; refine (block_any _ _ _ _ hI).mono ?_; rintro e w4 ⟨rfl, he4⟩; obtain ⟨hc4, hf4, hz4⟩ := ecell3 he4)
      | (go_at_call 20; refine (awake30_any _).mono ?_; rintro e w5 ⟨rfl, he5⟩))
    go_ret
    exact ⟨rfl, (s4.trans he4).trans he5⟩
  have t3' : (whatK n b k == 3) = false := by simpa using t3
  clear t3
  by_cases t4 : (whatK n b k == 4) = true
  · have t4' := T4'.out t4
    go_wp2_with (first
      | (go_at_call 16; refine (inode_any _ _ _ _ hI).mono ?_; rintro e w4 ⟨rfl, he4⟩; obtain ⟨hc4, hf4, hz4⟩ := ecell3 he4)
      | (go_at_call 18; refine (block_any _ _ _ _ hI).mono ?_; rintro e w4 ⟨rfl, he4⟩; obtain ⟨hc4, hf4, hz4⟩ := ecell3 he4)
      | (go_at_call 20; refine (awake30_any _).mono ?_; rintro e w5 ⟨rfl, he5⟩))
    go_ret
    exact ⟨rfl, (s4.trans he4).trans he5⟩
  · have t4' : (whatK n b k == 4) = false := by simpa using t4
    clear t4
    go_wp2_with (first
      | (go_at_call 16; refine (inode_any _ _ _ _ hI).mono ?_; rintro e w4 ⟨rfl, he4⟩; obtain ⟨hc4, hf4, hz4⟩ := ecell3 he4)
      | (go_at_call 18; refine (block_any _ _ _ _ hI).mono ?_; rintro e w4 ⟨rfl, he4⟩; obtain ⟨hc4, hf4, hz4⟩ := ecell3 he4)
      | (go_at_call 20; refine (awake30_any _).mono ?_; rintro e w5 ⟨rfl, he5⟩))
    go_ret
    exact ⟨rfl, s4.trans he5⟩
end Go.Proofs.Ytdocdppimpapiaa
