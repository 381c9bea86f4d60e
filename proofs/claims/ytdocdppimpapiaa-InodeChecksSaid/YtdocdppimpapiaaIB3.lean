/-
  Sort and Compact of ints, laid by the shelf (lay-shelf, lay-plain). The blocks of extents: right, each and its iterator, AppendSeq and Collect over it. Sorted and Compact of an iterator's ints, Need, Has, Same of ints, the reference's blocks. Need, Has, Same of ints, the reference's blocks. The reference's blocks. Which extents are fine. inode.Check.
-/
import Derived.Shelf.Small.Bits
import Derived.Shelf.Small.Wraps
import Derived.Shelf.Strconv.Itoa0
import Derived.Shelf.Sort.Plain
import Derived.Ground.Names2Prog
import Derived.Shelf.Slices.CompactI
import Derived.Shelf.Slices.SearchI
import Derived.Shelf.Slices.Cells
import Derived.Shelf.Slices.In.SortNone
import Derived.Test.YtdocdppimpapiaaProg
import Derived.RangeFuncBox
import Derived.RangeFuncNested
import Derived.RangeFuncBound
import Derived.RangeFuncCalls
import Derived.RangeFuncLeaves
import Derived.Shelf.Abstract
import Derived.Shelf.RegionOpen
import Derived.OwnWalkIn
import Derived.TacticsInMore
import Derived.LoopNIn
import Derived.LoopIn
import Derived.Maps.AppendAt
import Derived.Sort.OwnSortedInts
import Derived.Lib.OwnBridge
import Derived.Test.YtdocdppimpapiaaIB1
set_option linter.unusedSimpArgs false
set_option linter.unusedVariables false
namespace Go.Proofs
open Go.Shelf
def Try.lays128_ren : Go.Shelf.Ren := ⟨fun | 128 => 129 | n => n, fun | 51 => 24 | 3 => 3 | 4 => 4 | 46 => 155 | 5 => 5 | 9 => 9 | n => n, fun | n => n⟩
theorem Try.lays128 : Go.Proofs.Lays.n128 Try.prog Try.lays128_ren := {
  mixed := by kernel_rfl
  f128 := Try.func129.trans (congrArg some (by kernel_rfl))
  t3 := Try.underlying3
  a3 := Try.isAgg3
  z3 := Try.sizeOf3
  v3 := Try.zeroValue3
  t4 := Try.underlying4
  a4 := Try.isAgg4
  z4 := Try.sizeOf4
  v4 := Try.zeroValue4
  t5 := Try.underlying5
  a5 := Try.isAgg5
  z5 := Try.sizeOf5
  v5 := Try.zeroValue5
  t9 := Try.underlying9
  a9 := Try.isAgg9
  z9 := Try.sizeOf9
  v9 := Try.zeroValue9
  t46 := Try.underlying155
  a46 := Try.isAgg155
  z46 := Try.sizeOf155
  v46 := Try.zeroValue155
  t51 := Try.underlying24
  a51 := Try.isAgg24
  z51 := Try.sizeOf24
  v51 := Try.zeroValue24 }
/-- bits.Len32: "Len32 returns the minimum number of bits required to represent x; the result is 0 for x == 0.": IT RETURNS 'Lib.bitLen x'; the world is as it was. ('h0', 'h1': x is a uint32.) (LAID: no walk: one application.) -/
theorem Try.bits_Len32 (x : Int) (w : World) (h0 : 0 ≤ x) (h1 : x ≤ 4294967295) :
    Calls Try.prog 129 #[.int .u32 x] w fun e w' => e = .returned (.int .i64 (Lib.bitLen x.toNat)) ∧ w' = w := Any.bits_Len32 Try.lays128 x w h0 h1
def Try.lays125_ren : Go.Shelf.Ren := ⟨fun | 125 => 118 | 128 => 129 | 129 => 130 | n => n, fun | 46 => 155 | 3 => 3 | 51 => 24 | 53 => 100 | 4 => 4 | 5 => 5 | 9 => 9 | n => n, fun | n => n⟩
theorem Try.lays125 : Go.Proofs.Lays.n125 Try.prog Try.lays125_ren := {
  mixed := by kernel_rfl
  f125 := Try.func118.trans (congrArg some (by kernel_rfl))
  f128 := Try.func129.trans (congrArg some (by kernel_rfl))
  f129 := Try.func130.trans (congrArg some (by kernel_rfl))
  t3 := Try.underlying3
  a3 := Try.isAgg3
  z3 := Try.sizeOf3
  v3 := Try.zeroValue3
  t4 := Try.underlying4
  a4 := Try.isAgg4
  z4 := Try.sizeOf4
  v4 := Try.zeroValue4
  t5 := Try.underlying5
  a5 := Try.isAgg5
  z5 := Try.sizeOf5
  v5 := Try.zeroValue5
  t9 := Try.underlying9
  a9 := Try.isAgg9
  z9 := Try.sizeOf9
  v9 := Try.zeroValue9
  t46 := Try.underlying155
  a46 := Try.isAgg155
  z46 := Try.sizeOf155
  v46 := Try.zeroValue155
  t51 := Try.underlying24
  a51 := Try.isAgg24
  z51 := Try.sizeOf24
  v51 := Try.zeroValue24
  t53 := Try.underlying100
  a53 := Try.isAgg100
  z53 := Try.sizeOf100
  v53 := Try.zeroValue100 }
/-- bits.Len: "Len returns the minimum number of bits required to represent x; the result is 0 for x == 0.": IT RETURNS 'Lib.bitLen x'; the world is as it was. (A uint has 64 bits in the model.) ITS CALLEE bits.Len64 IS MET BY ITS OWN CONTRACT OFF THE SHELF (lay that first). (LAID: no walk: one application.) -/
theorem Try.bits_Len (x : Int) (w : World) (h0 : 0 ≤ x) (h1 : x ≤ 18446744073709551615) :
    Calls Try.prog 118 #[.int .u64 x] w fun e w' => e = .returned (.int .i64 (Lib.bitLen x.toNat)) ∧ w' = w := Any.bits_Len Try.lays125 x w h0 h1
def Try.lays215_ren : Go.Shelf.Ren := ⟨fun | 215 => 136 | n => n, fun | 3 => 3 | 4 => 4 | n => n, fun | n => n⟩
theorem Try.lays215 : Go.Proofs.Lays.n215 Try.prog Try.lays215_ren := {
  mixed := by kernel_rfl
  f215 := Try.func136.trans (congrArg some (by kernel_rfl))
  t3 := Try.underlying3
  a3 := Try.isAgg3
  z3 := Try.sizeOf3
  v3 := Try.zeroValue3
  t4 := Try.underlying4
  a4 := Try.isAgg4
  z4 := Try.sizeOf4
  v4 := Try.zeroValue4 }
open Go.RowKit in
/-- cmp.isNaN at int: 'x != x': false. (LAID: no walk: one application.) -/
theorem Try.cmp_isNaN_int (x : Int) (w : World) :
    Calls Try.prog 136 #[.int .i64 x] w fun e w' => e = .returned (.bool false) ∧ w' = w := Any.cmp_isNaN_int Try.lays215 x w
def Try.lays129_ren : Go.Shelf.Ren := ⟨fun | 129 => 130 | n => n, fun | 53 => 100 | 3 => 3 | 4 => 4 | 46 => 155 | 5 => 5 | 9 => 9 | n => n, fun | n => n⟩
theorem Try.lays129 : Go.Proofs.Lays.n129 Try.prog Try.lays129_ren := {
  mixed := by kernel_rfl
  f129 := Try.func130.trans (congrArg some (by kernel_rfl))
  t3 := Try.underlying3
  a3 := Try.isAgg3
  z3 := Try.sizeOf3
  v3 := Try.zeroValue3
  t4 := Try.underlying4
  a4 := Try.isAgg4
  z4 := Try.sizeOf4
  v4 := Try.zeroValue4
  t5 := Try.underlying5
  a5 := Try.isAgg5
  z5 := Try.sizeOf5
  v5 := Try.zeroValue5
  t9 := Try.underlying9
  a9 := Try.isAgg9
  z9 := Try.sizeOf9
  v9 := Try.zeroValue9
  t46 := Try.underlying155
  a46 := Try.isAgg155
  z46 := Try.sizeOf155
  v46 := Try.zeroValue155
  t53 := Try.underlying100
  a53 := Try.isAgg100
  z53 := Try.sizeOf100
  v53 := Try.zeroValue100 }
/-- bits.Len64: "Len64 returns the minimum number of bits required to represent x; the result is 0 for x == 0.": IT RETURNS 'Lib.bitLen x'; the world is as it was. ('h0', 'h1': x is a uint64.) (LAID: no walk: one application.) -/
theorem Try.bits_Len64 (x : Int) (w : World) (h0 : 0 ≤ x) (h1 : x ≤ 18446744073709551615) :
    Calls Try.prog 130 #[.int .u64 x] w fun e w' => e = .returned (.int .i64 (Lib.bitLen x.toNat)) ∧ w' = w := Any.bits_Len64 Try.lays129 x w h0 h1
def Try.lays189_ren : Go.Shelf.Ren := ⟨fun | 189 => 115 | 125 => 118 | 257 => 117 | 128 => 129 | 129 => 130 | 294 => 120 | 295 => 121 | 296 => 122 | 297 => 123 | 298 => 124 | 299 => 125 | 216 => 126 | 300 => 127 | 301 => 128 | 328 => 131 | 329 => 132 | 330 => 133 | 331 => 134 | 332 => 135 | 215 => 136 | 343 => 137 | n => n, fun | 28 => 57 | 3 => 3 | 46 => 155 | 0 => 0 | 51 => 24 | 53 => 100 | 4 => 4 | 183 => 164 | 182 => 163 | 131 => 169 | 5 => 5 | 9 => 9 | 218 => 173 | 222 => 177 | 228 => 179 | 229 => 26 | n => n, fun | n => n⟩
theorem Try.lays189 : Go.Proofs.Lays.n189 Try.prog Try.lays189_ren := {
  mixed := by kernel_rfl
  f125 := Try.func118.trans (congrArg some (by kernel_rfl))
  f128 := Try.func129.trans (congrArg some (by kernel_rfl))
  f129 := Try.func130.trans (congrArg some (by kernel_rfl))
  f189 := Try.func115.trans (congrArg some (by kernel_rfl))
  f215 := Try.func136.trans (congrArg some (by kernel_rfl))
  f216 := Try.func126.trans (congrArg some (by kernel_rfl))
  f257 := Try.func117.trans (congrArg some (by kernel_rfl))
  f294 := Try.func120.trans (congrArg some (by kernel_rfl))
  f295 := Try.func121.trans (congrArg some (by kernel_rfl))
  f296 := Try.func122.trans (congrArg some (by kernel_rfl))
  f297 := Try.func123.trans (congrArg some (by kernel_rfl))
  f298 := Try.func124.trans (congrArg some (by kernel_rfl))
  f299 := Try.func125.trans (congrArg some (by kernel_rfl))
  f300 := Try.func127.trans (congrArg some (by kernel_rfl))
  f301 := Try.func128.trans (congrArg some (by kernel_rfl))
  f328 := Try.func131.trans (congrArg some (by kernel_rfl))
  f329 := Try.func132.trans (congrArg some (by kernel_rfl))
  f330 := Try.func133.trans (congrArg some (by kernel_rfl))
  f331 := Try.func134.trans (congrArg some (by kernel_rfl))
  f332 := Try.func135.trans (congrArg some (by kernel_rfl))
  f343 := Try.func137.trans (congrArg some (by kernel_rfl))
  t0 := Try.underlying0
  a0 := Try.isAgg0
  z0 := Try.sizeOf0
  v0 := Try.zeroValue0
  t3 := Try.underlying3
  a3 := Try.isAgg3
  z3 := Try.sizeOf3
  v3 := Try.zeroValue3
  t4 := Try.underlying4
  a4 := Try.isAgg4
  z4 := Try.sizeOf4
  v4 := Try.zeroValue4
  t5 := Try.underlying5
  a5 := Try.isAgg5
  z5 := Try.sizeOf5
  v5 := Try.zeroValue5
  t9 := Try.underlying9
  a9 := Try.isAgg9
  z9 := Try.sizeOf9
  v9 := Try.zeroValue9
  t28 := Try.underlying57
  a28 := Try.isAgg57
  z28 := Try.sizeOf57
  v28 := Try.zeroValue57
  t46 := Try.underlying155
  a46 := Try.isAgg155
  z46 := Try.sizeOf155
  v46 := Try.zeroValue155
  t51 := Try.underlying24
  a51 := Try.isAgg24
  z51 := Try.sizeOf24
  v51 := Try.zeroValue24
  t53 := Try.underlying100
  a53 := Try.isAgg100
  z53 := Try.sizeOf100
  v53 := Try.zeroValue100
  t131 := Try.underlying169
  a131 := Try.isAgg169
  z131 := Try.sizeOf169
  v131 := Try.zeroValue169
  t182 := Try.underlying163
  a182 := Try.isAgg163
  z182 := Try.sizeOf163
  v182 := Try.zeroValue163
  t183 := Try.underlying164
  a183 := Try.isAgg164
  z183 := Try.sizeOf164
  v183 := Try.zeroValue164
  t218 := Try.underlying173
  a218 := Try.isAgg173
  z218 := Try.sizeOf173
  v218 := Try.zeroValue173
  t222 := Try.underlying177
  a222 := Try.isAgg177
  z222 := Try.sizeOf177
  v222 := Try.zeroValue177
  t228 := Try.underlying179
  a228 := Try.isAgg179
  z228 := Try.sizeOf179
  v228 := Try.zeroValue179
  t229 := Try.underlying26
  a229 := Try.isAgg26
  z229 := Try.sizeOf26
  v229 := Try.zeroValue26 }
open Go.Sort Go.RowKit in
theorem Try.slices_Sort_int (blk off cap : Nat) (zs : List Int) (w : World) (hH : Holds (Value.int .i64) w blk off zs.toArray) (hblk : blk < w.heap.size) (hsz : zs.length < 4611686018427387904) :
    Calls Try.prog 115 #[.slice (some ⟨blk, off, none⟩) zs.length cap] w fun e w' =>
      e = .returned (.tuple #[]) ∧ ∃ n os, w' = grow (putRow (Value.int .i64) (Sort.ahead w n) blk off (zs.mergeSort fun x y => decide (x ≤ y)).toArray) os := Any.slices_Sort_int Try.lays189 blk off cap zs w hH hblk hsz
def Try.laysNm220_ren : Go.Shelf.Ren := ⟨fun | 20 => 111 | n => n, fun | 22 => 57 | 3 => 3 | 4 => 4 | 0 => 0 | n => n, fun | n => n⟩
theorem Try.laysNm220 : Go.Proofs.Lays2.n20 Try.prog Try.laysNm220_ren := {
  mixed := by kernel_rfl
  f20 := Try.func111.trans (congrArg some (by kernel_rfl))
  t0 := Try.underlying0
  a0 := Try.isAgg0
  z0 := Try.sizeOf0
  v0 := Try.zeroValue0
  t3 := Try.underlying3
  a3 := Try.isAgg3
  z3 := Try.sizeOf3
  v3 := Try.zeroValue3
  t4 := Try.underlying4
  a4 := Try.isAgg4
  z4 := Try.sizeOf4
  v4 := Try.zeroValue4
  t22 := Try.underlying57
  a22 := Try.isAgg57
  z22 := Try.sizeOf57
  v22 := Try.zeroValue57
  i3 := by kernel_rfl }
open Go.RowKit Go.Lib Go.Sort in
/-- slices.Compact at []int, over an array: the library's two loops are walked. (LAID: no walk: one application.) -/
theorem Try.slices_Compact_int_arr (blk off cap : Nat) (d : Array Int) (w : World) (hH : Holds encI w blk off d) (hsz : d.size ≤ 9223372036854775807) (hcap : d.size ≤ cap) :
    Calls Try.prog 111 #[.slice (some ⟨blk, off, none⟩) d.size cap] w fun e w' => e = .returned (.slice (some ⟨blk, off, none⟩) (compactUpTo d d.size).length cap) ∧ ∃ q, w' = putRow encI (Sort.ahead w q) blk off (compactUpTo d d.size ++ List.replicate (d.size - (compactUpTo d d.size).length) 0).toArray := Any.slices_Compact_int_arr Try.laysNm220 blk off cap d w hH hsz hcap
open Go.RowKit Go.Lib Go.Sort in
/-- slices.Compact at []int: "Compact replaces consecutive runs of equal elements with a single copy. This is like the uniq command found on Unix. Compact modifies the contents of the slice s and returns the modified slice, which may have a smaller length. Compact zeroes the elements between the new length and the original length. The result preserves the nilness of s.": IT RETURNS THE SLICE CUT TO 'Lib.compact zs'; ITS CELLS HOLD 'Lib.compact zs', THEN ZERO VALUES up to the old length; all else is as it was, but for the count of draws. IN THE WORDS OF slices.Sort's CONTRACT ('Holds', 'putRow'): so the everyday 'slices.Sort(xs); xs = slices.Compact(xs)' goes from the one contract to the other. It asks 'zs.length ≤ cap' (every slice's: the reslicing 's[:k]' looks at it). Length 0, nil: '.._empty'. (LAID: no walk: one application.) -/
theorem Try.slices_Compact_int (blk off cap : Nat) (zs : List Int) (w : World) (hH : Holds (Value.int .i64) w blk off zs.toArray) (hsz : zs.length ≤ 9223372036854775807) (hcap : zs.length ≤ cap) :
    Calls Try.prog 111 #[.slice (some ⟨blk, off, none⟩) zs.length cap] w fun e w' => e = .returned (.slice (some ⟨blk, off, none⟩) (Lib.compact zs).length cap) ∧ ∃ q, w' = putRow (Value.int .i64) (Sort.ahead w q) blk off (Lib.compact zs ++ List.replicate (zs.length - (Lib.compact zs).length) 0).toArray := Any.slices_Compact_int Try.laysNm220 blk off cap zs w hH hsz hcap
open Go.RowKit Go.Lib Go.Sort in
/-- The same at a slice of length 0, a nil one too: it comes back as it is. (LAID: no walk: one application.) -/
theorem Try.slices_Compact_int_empty (a : Option Addr) (cap : Nat) (w : World) :
    Calls Try.prog 111 #[.slice a 0 cap] w fun e w' => e = .returned (.slice a 0 cap) ∧ w' = w := Any.slices_Compact_int_empty Try.laysNm220 a cap w
def Try.laysNm237_ren : Go.Shelf.Ren := ⟨fun | 37 => 136 | n => n, fun | 3 => 3 | 4 => 4 | n => n, fun | n => n⟩
theorem Try.laysNm237 : Go.Proofs.Lays2.n37 Try.prog Try.laysNm237_ren := {
  mixed := by kernel_rfl
  f37 := Try.func136.trans (congrArg some (by kernel_rfl))
  t3 := Try.underlying3
  a3 := Try.isAgg3
  z3 := Try.sizeOf3
  v3 := Try.zeroValue3
  t4 := Try.underlying4
  a4 := Try.isAgg4
  z4 := Try.sizeOf4
  v4 := Try.zeroValue4 }
open Go.RowKit Go.Lib in
/-- cmp.isNaN[int]: 'x != x': false. (LAID: no walk: one application.) -/
theorem Try.cmp_isNaN_int2 (x : Int) (w : World) :
    Calls Try.prog 136 #[.int .i64 x] w fun e w' => e = .returned (.bool false) ∧ w' = w := Any.cmp_isNaN_int2 Try.laysNm237 x w
def Try.laysNm231_ren : Go.Shelf.Ren := ⟨fun | 31 => 126 | 37 => 136 | n => n, fun | 3 => 3 | 4 => 4 | n => n, fun | n => n⟩
theorem Try.laysNm231 : Go.Proofs.Lays2.n31 Try.prog Try.laysNm231_ren := {
  mixed := by kernel_rfl
  f31 := Try.func126.trans (congrArg some (by kernel_rfl))
  f37 := Try.func136.trans (congrArg some (by kernel_rfl))
  t3 := Try.underlying3
  a3 := Try.isAgg3
  z3 := Try.sizeOf3
  v3 := Try.zeroValue3
  t4 := Try.underlying4
  a4 := Try.isAgg4
  z4 := Try.sizeOf4
  v4 := Try.zeroValue4 }
open Go.RowKit Go.Lib in
/-- cmp.Less[int]: "Less reports whether x is less than y.": 'x < y'; the world is as it was. (LAID: no walk: one application.) -/
theorem Try.cmp_Less_int2 (x y : Int) (w : World) :
    Calls Try.prog 126 #[.int .i64 x, .int .i64 y] w fun e w' => e = .returned (.bool (decide (x < y))) ∧ w' = w := Any.cmp_Less_int2 Try.laysNm231 x y w
open Go.RowKit Go.Lib Go.Sort in
/-- slices.Compact at []int, of an argument: the slice cut to 'Lib.compact (elements)'; the n cells hold that, then zeros. (LAID: no walk: one application.) -/
theorem Try.slices_Compact_int_cells (b off n c : Nat) (zs : List Int) (w : World) (hz : n ≤ zs.length) (hbig : n ≤ 9223372036854775807) (hcap : n ≤ c) (hc : ∀ j, j < zs.length → w.cell? ⟨b, off + j, none⟩ = some (.int .i64 (zs.getD j 0))) (hf : ∀ j, j < n → w.frozen? ⟨b, off + j, none⟩ = false) :
    Calls Try.prog 111 #[.slice (some ⟨b, off, none⟩) n c] w fun e w' => e = .returned (.slice (some ⟨b, off, none⟩) (Lib.compact (zs.take n)).length c) ∧ ∃ q, w' = (w.drewN q).setCells b off ((Lib.compact (zs.take n) ++ List.replicate (n - (Lib.compact (zs.take n)).length) 0).map (Value.int .i64)) := Any.slices_Compact_int_cells Try.laysNm220 b off n c zs w hz hbig hcap hc hf
open Go.RowKit Go.Sort in
/-- .. and plain. (LAID: no walk: one application.) -/
theorem Try.slices_Sort_int_none (p : Option Addr) (cap : Nat) (w : World) :
    Calls Try.prog 115 #[.slice p 0 cap] w fun e w' => e = .returned (.tuple #[]) ∧ w' = w := Any.slices_Sort_int_none Try.lays189 p cap w
end Go.Proofs

namespace Go.Proofs.Ytdocdppimpapiaa
open Go.RowKit Go.Shelf

attribute [local go_sem] Oper.semAt_some

/-- An extent's cells. -/
abbrev Ex := Int × Int
def eX (e : Ex) : List Value := [.int .i64 e.1, .int .i64 e.2]
theorem eX_len (e : Ex) : (eX e).length = 2 := rfl
theorem eX_one (e : Ex) : ∀ u ∈ eX e, u.oneCell' = true := fun u hu => by
  simp only [eX, List.mem_cons, List.mem_nil_iff, or_false] at hu
  rcases hu with rfl | rfl <;> rfl
def exR (e : Ex) : Bool := decide (1 ≤ e.2) && decide (e.2 ≤ 8)
def exUp (s : Int) (k : Nat) : List Int := (List.range k).map fun (i : Nat) => wrap64 (s + (i : Int))
theorem exUp_succ (s : Int) (k : Nat) : exUp s (k + 1) = exUp s k ++ [wrap64 (s + (k : Int))] := by simp [exUp, List.range_succ]
def exB (e : Ex) : List Int := if exR e = true then exUp e.1 e.2.toNat else []
def blkB (l : List Ex) : List Int := l.flatMap exB
theorem exB_len (e : Ex) : (exB e).length ≤ 8 := by
  unfold exB exR
  split
  · rename_i h
    simp at h
    simp [exUp]
    omega
  · exact Nat.zero_le _
theorem blkB_len (l : List Ex) : (blkB l).length ≤ 8 * l.length := by
  induction l with
  | nil => exact Nat.le_refl _
  | cons x l ih =>
    have := exB_len x
    simp only [blkB, List.flatMap_cons, List.length_append, List.length_cons] at *
    omega
theorem blkB_snoc (l : List Ex) (x : Ex) : blkB (l ++ [x]) = blkB l ++ exB x := by simp [blkB]

theorem info_int : (Try.prog.info? 3).map (fun i => (i.zero, i.size, i.bytes)) = some (some (.int .i64 0), 1, 8) := by kernel_rfl
theorem Ow.lower {α : Type} {enc : α → List Value} {sz e base base' : Nat} {w : World} {A : Option Addr} {n cap : Nat} {l : List α} (h : Ow enc sz e base w A n cap l) (hb : base' ≤ base) : Ow enc sz e base' w A n cap l := by
  refine ⟨h.len, h.own.1, ?_⟩
  rcases h.own.2 with h2 | ⟨g, cap, cur, hv, hg, r⟩
  · exact .inl h2
  · exact .inr ⟨g, cap, cur, hv, Nat.le_trans hb hg, r⟩
theorem Sl.ex {Q : Nat → Prop} {w : World} {A : Option Addr} {n cap : Nat} {xs : List Ex} (h : Sl eX 2 Q w A n cap xs) (k : Nat) (hk : k < n) :
    ∃ b off s l, A = some ⟨b, off, none⟩ ∧ xs[k]? = some (s, l) ∧ Q b ∧ b < w.heap.size ∧ w.cell? ⟨b, off + k * 2, none⟩ = some (.int .i64 s) ∧ w.cell? ⟨b, off + k * 2 + 1, none⟩ = some (.int .i64 l) := by
  have hl : k < xs.length := by rw [← h.len]; exact hk
  have hx : xs[k]? = some xs[k] := List.getElem?_eq_getElem hl
  obtain ⟨b, off, ha, hb, hc⟩ := h.at_ k _ hx
  have c0 := hc 0 _ rfl
  rw [Nat.add_zero] at c0
  exact ⟨b, off, _, _, ha, hx, hb, World.block_lt_of_cell? w _ c0, c0, hc 1 _ rfl⟩

theorem Ext.byNone {a b : World} (h : Ext a b) : a.grownBy b none := ⟨h.out.os, h.out.tape, h.out.output, h.size, fun k hk _ => h.block k hk⟩
theorem exB_no {e : Ex} (h : exR e = false) : exB e = [] := by unfold exB; rw [h]; rfl
theorem exB_yes {e : Ex} (h : exR e = true) : exB e = exUp e.1 e.2.toNat := by unfold exB; rw [if_pos h]
theorem exUp_len (s : Int) (k : Nat) : (exUp s k).length = k := by simp [exUp]
theorem take_snoc {α : Type} {l : List α} {k : Nat} {x : α} (h : l[k]? = some x) : l.take (k + 1) = l.take k ++ [x] := by rw [List.take_add_one, h]; rfl

theorem xright_any (s l : Int) (w : World) :
    Calls Try.prog 108 #[.agg #[.int .i64 s, .int .i64 l]] w fun e w' => e = .returned (.bool (exR (s, l))) ∧ Ext w w' := by
  by_cases h1 : 1 ≤ l
  · by_cases h2 : l ≤ 8
    · have E : exR (s, l) = true := by simp [exR, h1, h2]
      rw [E]
      go_enter Try.func108, Try.ntmps108
      go_wp2
      go_ret
      exact ⟨rfl, (Ext.refl _).alloc _⟩
    · have E : exR (s, l) = false := by simp [exR, h2]
      rw [E]
      go_enter Try.func108, Try.ntmps108
      go_wp2
      go_ret
      exact ⟨rfl, (Ext.refl _).alloc _⟩
  · have E : exR (s, l) = false := by simp [exR, h1]
    rw [E]
    go_enter Try.func108, Try.ntmps108
    go_wp2
    go_ret
    exact ⟨rfl, (Ext.refl _).alloc _⟩

theorem each_any (A : Option Addr) (n c : Nat) (w : World) :
    Calls Try.prog 83 #[.slice A n c] w fun e w' => e = .returned (.func (.func 107) #[] #[.pointer (some ⟨w.heap.size, 0, none⟩)]) ∧ w' = w.alloc (.cells #[.slice A n c] 58) := by
  go_enter Try.func83, Try.ntmps83
  go_wp2
  go_ret
  exact ⟨rfl, rfl⟩

/-- What a round keeps: what lay below n₀, and each extent's own block. -/
def KeepE (n₀ : Nat) (W W' : World) : Prop := Below n₀ W W' ∧ ∀ (k : Nat) (cs : Array Value), W.heap[k]? = some (.cells cs 86 (0, 0)) → W'.heap[k]? = some (.cells cs 86 (0, 0))
theorem KeepE.trans {n₀ : Nat} {a b c : World} (h : KeepE n₀ a b) (k : KeepE n₀ b c) : KeepE n₀ a c := ⟨h.1.trans k.1, fun j cs hj => k.2 j cs (h.2 j cs hj)⟩
theorem keepE_b {n₀ : Nat} {w : World} (hn : n₀ ≤ w.heap.size) (W : World) (l : Nat) (o o' : Obj) (hl : w.heap.size ≤ l) (h : W.heap[l]? = some o) (hc : o.isCells = false) (hw : o.isWalk = false) : KeepE n₀ W (W.putObj l o') :=
  ⟨belowK_b hn W l o o' hl h hc hw, fun k cs hk => by
    have hne : k ≠ l := fun e => by subst e; rw [h] at hk; cases hk; simp [Obj.isCells] at hc
    exact (World.putObj_heap_other hne).trans hk⟩

set_option maxRecDepth 100000 in
set_option maxHeartbeats 2000000 in
/-- The iterator over extents. -/
theorem each1_in (n : Nat) (hn : 1 ≤ n) (l Bs n₀ len cap : Nat) (A : Option Addr) (xs : List Ex) (Q : Nat → Prop) (hQ : ∀ k, Q k → k < n₀) (J Jx : List Int → World → Prop)
    (hJe : ∀ s W W', Ext W W' → J s W → J s W')
    (hY : ∀ pre x W, J pre W → pre.length < 8 * len → YieldAt Fence.wide (n - 1) Try.prog l #[.int .i64 x] W fun e W' =>
      (e = .returned (.bool true) ∧ J (pre ++ [x]) W' ∧ KeepE n₀ W W') ∨ (e = .returned (.bool false) ∧ Jx (pre ++ [x]) W'))
    (W : World) (hn₀ : n₀ ≤ W.heap.size) (hBs : W.cell? ⟨Bs, 0, none⟩ = some (.slice A len cap)) (hS : Sl eX 2 Q W A len cap xs) (h0 : J [] W) :
    CallsIn Fence.wide n Try.prog 107 #[.func (.yield l) #[] #[], .pointer (some ⟨Bs, 0, none⟩)] W fun e W' => (∃ v, e = .returned v) ∧
      ((∃ ys, ys = blkB xs ∧ J ys W') ∨ (∃ pre, True ∧ Jx pre W')) := by
  refine callsIn_of_wp Try.func107 rfl trivial ?_ rfl
  simp only [Try.ntmps107, List.size_toArray, List.length_cons, List.length_nil, Nat.reduceAdd, Nat.reduceSub, Array.replicate_succ, Array.replicate_zero, List.push_toArray, List.append_toArray, List.nil_append, List.cons_append]
  have HL := Lib.hid hS.len
  have hle := hS.le
  have hmx := hS.mx
  have H := Lib.hid hS
  clear hS
  gi_wp2
  gi_loopw [8] (fun i wr => ∃ k : Nat, k ≤ len ∧ i = .int .i64 k ∧ J (blkB (xs.take k)) wr ∧ Below n₀ W wr)
    (fun i _ => len - (intOf i).toNat)
  case atStart => exact ⟨0, Nat.zero_le _, rfl, h0, Below.refl _ _⟩
  case round =>
    obtain ⟨k, hk, rfl, hJs, hB⟩ := hrel
    by_cases hlt : k < len
    · obtain ⟨b, off, s0, l0, rfl, hx, hq, _, hc0, hc1⟩ := H.out.ex k hlt
      have hb := hQ b hq
      have c0 := (hB.cell (p := ⟨b, off + k * 2, none⟩) hb).trans hc0
      have c1 := (hB.cell (p := ⟨b, off + k * 2 + 1, none⟩) hb).trans hc1
      clear hc0 hc1 hq
      have HX := Lib.hid hx
      clear hx
      have hwn := Nat.le_trans hn₀ hB.size
      have k0 : (0 : Int) ≤ (k : Int) := by omega
      have k9 : (k : Int) < (len : Int) := by omega
      have hBl := blkB_len (xs.take k)
      rw [List.length_take] at hBl
      by_cases hr : exR (s0, l0) = true
      · gi_wp2_with (refine ⟨trivial, ?_⟩; gi_at_call 108; refine (callsIn_wide.2 (xright_any s0 l0 _)).mono ?_; rw [hr]; rintro e w1 ⟨rfl, he1⟩; have hE := he1.at (cell_new wr #[.int .i64 s0, .int .i64 l0] 86 1 (0, 0) rfl))
        have hJ1 := hJe _ _ _ (((Ext.refl wr).alloc _).trans he1) hJs
        have hB1 : Below n₀ W w1 := hB.trans ((((Ext.refl wr).alloc _).trans he1).out.mono hwn)
        have hh : w1.heap[wr.heap.size]? = some (.cells #[.int .i64 s0, .int .i64 l0] 86 (0, 0)) := (he1.block _ (by simp)).trans (World.alloc_heap_new wr _)
        have hl8 : 1 ≤ l0 ∧ l0 ≤ 8 := by simpa [exR] using hr
        have EB := Lib.hid (exB_yes hr)
        clear hJs he1 hE
        generalize wr.heap.size = eb at *
        gi_loopw [17] (fun i wr2 => ∃ j : Nat, (j : Int) ≤ l0 ∧ i = .int .i64 j ∧ J (blkB (xs.take k) ++ exUp s0 j) wr2 ∧ Below n₀ W wr2 ∧ wr2.heap[eb]? = some (.cells #[.int .i64 s0, .int .i64 l0] 86 (0, 0)))
          (fun i _ => l0.toNat - (intOf i).toNat)
        case atStart => exact ⟨0, by omega, rfl, by simpa [exUp] using hJ1, hB1, hh⟩
        case round =>
          obtain ⟨j, hj, rfl, hJ2, hB2, hh2⟩ := hrel
          have e0 : wr.cell? ⟨eb, 0, none⟩ = some (.int .i64 s0) := by unfold World.cell?; simp only [hh2]; rfl
          by_cases hjl : (j : Int) < l0
          · obtain ⟨fn, tmps, assign, body, hy, hR⟩ := hY _ (wrap64 (s0 + (j : Int))) wr hJ2 (by rw [List.length_append, exUp_len]; omega)
            gi_wp2
            refine hR.mono ?_
            rintro e W3 (⟨rfl, hJ3, hk3⟩ | ⟨rfl, hJx3⟩)
            · have hh3 := hk3.2 _ _ hh2
              gi_wp2
              go_roundw
              case rel => exact ⟨j + 1, by omega, by go_num, by rw [exUp_succ, ← List.append_assoc]; exact hJ3, hB2.trans hk3.1, hh3⟩
              case measure => simp [intOf]; omega
            · gi_wp2
              refine bodyPost_ret (results_none rfl _ _ _) rfl ?_
              exact ⟨⟨_, rfl⟩, .inr ⟨_, trivial, hJx3⟩⟩
          · gi_wp2
            go_roundw
            case rel => exact ⟨k + 1, by omega, by go_num, by rw [take_snoc HX.out, blkB_snoc, EB.out, show l0.toNat = j by omega]; exact hJ2, hB2⟩
            case measure => simp [intOf]; omega
      · have hr' : exR (s0, l0) = false := by simpa using hr
        gi_wp2_with (refine ⟨trivial, ?_⟩; gi_at_call 108; refine (callsIn_wide.2 (xright_any s0 l0 _)).mono ?_; rw [hr']; rintro e w1 ⟨rfl, he1⟩)
        have hJ1 := hJe _ _ _ (((Ext.refl wr).alloc _).trans he1) hJs
        have hB1 : Below n₀ W w1 := hB.trans ((((Ext.refl wr).alloc _).trans he1).out.mono hwn)
        have EB := Lib.hid (exB_no hr')
        go_roundw
        case rel => exact ⟨k + 1, by omega, by go_num, by rw [take_snoc HX.out, blkB_snoc, EB.out, List.append_nil]; exact hJ1, hB1⟩
        case measure => simp [intOf]; omega
    · obtain rfl : k = len := by omega
      have E : xs.take k = xs := List.take_of_length_le (by rw [HL.out]; exact Nat.le_refl _)
      rw [E] at hJs
      gi_wp2
      go_end0
      exact ⟨⟨_, rfl⟩, .inl ⟨_, rfl, hJs⟩⟩

/-- What 'each' hands back is an iterator over the blocks. -/
theorem each_stops (n : Nat) (hn : 1 ≤ n) (Bs n₀ len cap : Nat) (A : Option Addr) (xs : List Ex) (Q : Nat → Prop) (hQ : ∀ k, Q k → k < n₀) (w : World) (hBs : Bs < w.heap.size) (hn₀ : n₀ ≤ w.heap.size)
    (hc : w.cell? ⟨Bs, 0, none⟩ = some (.slice A len cap)) (hS : Sl eX 2 Q w A len cap xs) :
    SeqStopsK Fence.wide n Try.prog 107 #[.pointer (some ⟨Bs, 0, none⟩)] (fun x : Int => #[Value.int .i64 x]) (KeepE n₀) (fun ys => ys = blkB xs) (fun _ => True) (8 * len) w := fun l J Jx W hW hJ _ hY h0 =>
  each1_in n hn l Bs n₀ len cap A xs Q hQ J Jx (fun s a b he hs => hJ s a b none hs he.byNone (fun r e => by cases e)) hY W (Nat.le_trans hn₀ hW.size) ((hW.cell (p := ⟨Bs, 0, none⟩) hBs).trans hc) (hS.ext ⟨hW⟩) h0

set_option maxRecDepth 100000 in
set_option maxHeartbeats 2000000 in
/-- AppendSeq(nil, seq), of an iterator over ints. -/
theorem appendSeq_any (g : Nat) (lb : Array Value) (xs : List Int) (Sp : List Int → Prop) (N : Nat) (hN : N ≤ 1048576) (w : World) (eg : ∀ args w, (callFunc g args).run Try.prog w = .ok (.enter g args) w)
    (hseq : ∀ n, 1 ≤ n → SeqStopsK Fence.wide n Try.prog g lb (fun x : Int => #[Value.int .i64 x]) (KeepE w.heap.size) (fun ys => ys = xs) Sp N w) :
    Calls Try.prog 106 #[.slice none 0 0, .func (.func g) #[] lb] w fun e w' => ∃ A n cap, e = .returned (.slice A n cap) ∧ Ow (eI .i64) 1 3 w.heap.size w' A n cap xs ∧ Ext w w' := by
  refine (callsIn_wide (n := 7)).1 ?_
  obtain ⟨i0, hi, hz0, hz1, hz2⟩ := info_parts info_int
  refine callsIn_of_wp_marks Try.func106 rfl trivial ?_ rfl
  simp only [Try.ntmps106, List.size_toArray, List.length_cons, List.length_nil, Nat.reduceAdd, Nat.reduceSub, Array.replicate_succ, Array.replicate_zero, List.push_toArray, List.append_toArray, List.nil_append, List.cons_append]
  gi_wp2
  have bO := Boxed.new w 57 (.slice none 0 0)
  have hB0 : Below w.heap.size w (w.alloc (.cells #[.slice none 0 0] 57)) := (Below.refl _ w).alloc (Nat.le_refl _) _
  refine wpIn_rangeFunc_ownF rfl (by decide) (gf := g) (lb := lb) rfl trivial eg ((hseq 6 (by decide))) (fun h k => KeepE.trans h k) (fun W l o o' hl => keepE_b (w := w.alloc (.cells #[.slice none 0 0] 57)) (by simp) W l o o' hl) hB0 (fun _ => rfl)
    (fun pre W => (∃ v, Boxed W w.heap.size 57 v ∧ W.ownsRow w.heap.size 3 1 v pre.length (pre.map (Value.int .i64)) ∧ True) ∧ Below w.heap.size w W)
    (fun _ _ _ => False)
    (OwnFrom.and (Own.from (holdsRow_own w.heap.size w.heap.size 57 3 1 (fun pre : List Int => pre.length) (fun pre : List Int => pre.map (Value.int .i64)) (fun _ _ => True)) _) (ownFrom_below (Nat.le_refl _) (by simp)))
    (fun _ _ _ _ _ hs _ _ => hs)
    ⟨⟨_, bO, World.ownsRow_nil _ _ _ _, trivial⟩, hB0⟩
    (fun x => { tmps := #[.slice none 0 0, .func (.func g) #[] lb, .pointer (some ⟨w.heap.size, 0, none⟩), undef, .slice none 0 0, .int .i64 x, .func (.func g) #[] lb, .int .i64 x, undef, undef, undef, undef, undef], defers := [] }) ?assign ?body ?done ?stop
  case assign =>
    intro l x W K hK
    gi_wp2
    exact hK
  case body =>
    rintro l pre x W ⟨⟨v, hv, hrow, _⟩, hB⟩ hlt
    have hmx : pre.length + 1 ≤ maxLen := Nat.le_trans (show pre.length + 1 ≤ 1048577 by omega) (by decide)
    have hc := hv.cell
    gi_wp2_with (gi_at_builtin; refine wpListIn_append_own _ rfl _ _ 57 rfl w.heap.size 3 i0 (.int .i64 0) 1 8 Try.underlying57 hi hz0 hz1 hz2 rfl (by decide) _ _ _ rfl (hrow.alloc _) ⟨W.heap.size, 0, none⟩ 1 1 [.int .i64 x] rfl rfl (cell_one_new _ _ _) (by simp [Value.oneCell']) hmx (by omega) (by have := hB.size; simp; omega) ?_; intro v' w1 hown' hgrow _; obtain ⟨g', cap', rfl⟩ := ownsRow_succ hown'; obtain ⟨hv1, hv2, hr2, hk2, hb2⟩ := hv.appended (by decide) hrow hB.size (Nat.le_refl _) hown' hgrow; have hc1 := hv1.cell; have hf1 := hv1.frozen)
    refine ⟨hk2, ⟨hb2, fun k cs hk => ?_⟩, ⟨_, hv2, by simpa using hr2, trivial⟩, hB.trans hb2⟩
    have hk0 : k < W.heap.size := (Array.getElem?_eq_some_iff.1 hk).1
    have h1 : (W.alloc (Obj.cells #[Value.int IntKind.i64 x] 3)).heap[k]? = some (.cells cs 86 (0, 0)) := (Below.heap_alloc W _ k hk0).trans hk
    have h2 : w1.heap[k]? = some (.cells cs 86 (0, 0)) := by
      refine (hgrow.block k (by simp; omega) fun e => ?_).trans h1
      rcases hrow.2 with ⟨rfl, _⟩ | ⟨g2, cap2, cur2, rfl, _, hgb, _⟩
      · cases e
      · replace e : some k = some g2 := e
        injection e with e
        subst e
        rw [hgb] at hk
        cases hk
    refine (Below.heap_setCell _ _ _ k fun e => ?_).trans h2
    have := hv1
    unfold Boxed at this
    simp only at e
    rw [← e, h2] at this
    cases this
  case done =>
    rintro D ys W hD rfl ⟨⟨v, hv, hrow, _⟩, hB⟩ hK
    have hc := hv.cell
    gi_wp2
    refine ⟨by simp, .inl ⟨_, _, rfl, run_takeDeferred hK, ?_⟩⟩
    refine ⟨_, results_tmp rfl _ _ _, ?_⟩
    have hX : Ext w (W.putObj D (Obj.deferred none)) := ⟨hB.trans (belowK_b (w := w) (Nat.le_refl _) W D _ _ (by simp at hD; omega) hK rfl rfl)⟩
    have hrow' := ownsRow_putObj hrow (Obj.deferred none) hK rfl
    obtain ⟨A, cap, rfl⟩ : ∃ A cap, v = .slice A ys.length cap := by
      rcases hrow.2 with ⟨rfl, h0⟩ | ⟨g2, cap2, cur2, rfl, _⟩
      · exact ⟨none, 0, by rw [h0]⟩
      · exact ⟨_, _, rfl⟩
    exact ⟨A, ys.length, cap, rfl, ⟨rfl, by rw [eI_flat]; exact hrow'⟩, hX⟩
  case stop =>
    rintro D c pre W _ _ h _
    exact h.elim

set_option maxHeartbeats 1000000 in
/-- Collect(seq). -/
theorem collect_any (g : Nat) (lb : Array Value) (xs : List Int) (Sp : List Int → Prop) (N : Nat) (hN : N ≤ 1048576) (w : World) (eg : ∀ args w, (callFunc g args).run Try.prog w = .ok (.enter g args) w)
    (hseq : ∀ n, 1 ≤ n → SeqStopsK Fence.wide n Try.prog g lb (fun x : Int => #[Value.int .i64 x]) (KeepE w.heap.size) (fun ys => ys = xs) Sp N w) :
    Calls Try.prog 82 #[.func (.func g) #[] lb] w fun e w' => ∃ A n cap, e = .returned (.slice A n cap) ∧ Ow (eI .i64) 1 3 w.heap.size w' A n cap xs ∧ Ext w w' := by
  go_enter Try.func82, Try.ntmps82
  go_wp2_with (go_at_call 106; refine (appendSeq_any g lb xs Sp N hN _ eg hseq).mono ?_; rintro e w1 ⟨A, n, cap, rfl, hO, he⟩)
  go_ret
  exact ⟨A, n, cap, rfl, hO, he⟩

set_option maxHeartbeats 1000000 in
/-- An inode's blocks. -/
theorem blocks_any (mode size : Int) (A : Option Addr) (n c : Nat) (xs : List Ex) (Q : Nat → Prop) (w : World) (h : Sl eX 2 Q w A n c xs) (hl : xs.length ≤ 1000) :
    Calls Try.prog 41 #[.agg #[.int .i64 mode, .int .i64 size, .slice A n c]] w fun e w' => ∃ A' n' cap', e = .returned (.slice A' n' cap') ∧ Ow (eI .i64) 1 3 w.heap.size w' A' n' cap' (blkB xs) ∧ Ext w w' := by
  have HL := Lib.hid h.len
  have H := Lib.hid (h.inside fun x => by simp [eX])
  clear h
  go_enter Try.func41, Try.ntmps41
  go_wp2_with (first
    | (go_at_call 83; refine (each_any _ _ _ _).mono ?_; rintro e w1 ⟨rfl, rfl⟩)
    | (go_at_call 82; refine (collect_any _ _ (blkB xs) (fun _ => True) (8 * n) (by rw [HL.out]; omega) _ (enters_of Try.func107 (by kernel_rfl) rfl) (fun m hm => each_stops m hm (w.heap.size + 1) _ n c A xs (fun k => Q k ∧ k < w.heap.size) (fun k hk => by have := hk.2; simp; omega) _ (by simp) (Nat.le_refl _) (by simp) (((H.out.ext ((Ext.refl _).alloc _))).ext ((Ext.refl _).alloc _)))).mono ?_; rintro e w2 ⟨A', n', cap', rfl, hO, he⟩))
  go_ret
  refine ⟨A', n', cap', rfl, hO.lower (by simp; omega), (((Ext.refl w).alloc _).alloc _).trans he⟩
end Go.Proofs.Ytdocdppimpapiaa

namespace Go.Proofs.Ytdocdppimpapiaa
open Go.RowKit Go.Sort

def sortL (xs : List Int) : List Int := xs.mergeSort fun x y => decide (x ≤ y)
theorem sortL_len (xs : List Int) : (sortL xs).length = xs.length := List.length_mergeSort xs
theorem sortL_perm (xs : List Int) : (sortL xs).Perm xs := List.mergeSort_perm xs _
theorem sortL_sorted (xs : List Int) : (sortL xs).Pairwise fun a b => a ≤ b := by
  have h := List.pairwise_mergeSort (le := fun x y : Int => decide (x ≤ y)) (fun a b c h1 h2 => by simp only [decide_eq_true_eq] at *; omega) (fun a b => by simp only [Bool.or_eq_true, decide_eq_true_eq]; omega) xs
  exact h.imp fun h => by simpa using h

theorem compact_len {zs : List Int} (hs : zs.Pairwise fun a b => a ≤ b) : ((Lib.compact zs).length = zs.length) ↔ zs.Nodup := by
  have h1 : (Lib.compact zs).length = ((List.range zs.length).filter (Lib.keeps zs.toArray)).length := by simp [Lib.compact, Lib.compactUpTo]
  have h2 : ((List.range zs.length).filter (Lib.keeps zs.toArray)).length = zs.length ↔ ∀ j ∈ List.range zs.length, Lib.keeps zs.toArray j = true := by
    rw [← List.length_filter_eq_length_iff, List.length_range]
  rw [h1, h2]
  have hg : ∀ j, (hj : j < zs.length) → zs.toArray[j]! = zs[j] := fun j hj => by simp [getElem!_pos, hj]
  constructor
  · intro h
    rw [List.nodup_iff_pairwise_ne, List.pairwise_iff_getElem]
    intro i j hi hj hij e
    have hk := h j (List.mem_range.2 hj)
    simp only [Lib.keeps, decide_eq_true_eq] at hk
    rcases hk with hk | hk
    · omega
    · rw [hg j hj, hg (j - 1) (by omega)] at hk
      rw [List.pairwise_iff_getElem] at hs
      have h3 := hs (j - 1) j (by omega) hj (by omega)
      have h4 : zs[i] ≤ zs[j - 1] := by
        rcases Nat.lt_or_ge i (j - 1) with h5 | h5
        · exact hs i (j - 1) hi (by omega) h5
        · have : i = j - 1 := by omega
          subst this
          exact Int.le_refl _
      omega
  · intro h j hj
    have hj' := List.mem_range.1 hj
    simp only [Lib.keeps, decide_eq_true_eq]
    by_cases h0 : j = 0
    · exact .inl h0
    · right
      rw [hg j hj', hg (j - 1) (by omega)]
      intro e
      rw [List.nodup_iff_pairwise_ne, List.pairwise_iff_getElem] at h
      exact h (j - 1) j (by omega) hj' (by omega) e.symm

set_option maxHeartbeats 1000000 in
/-- Sorted(seq). -/
theorem sorted_any (g : Nat) (lb : Array Value) (xs : List Int) (Sp : List Int → Prop) (N : Nat) (hN : N ≤ 1048576) (hx : xs.length ≤ 1048576) (w : World) (eg : ∀ args w, (callFunc g args).run Try.prog w = .ok (.enter g args) w)
    (hseq : ∀ n, 1 ≤ n → SeqStopsK Fence.wide n Try.prog g lb (fun x : Int => #[Value.int .i64 x]) (KeepE w.heap.size) (fun ys => ys = xs) Sp N w) :
    Calls Try.prog 110 #[.func (.func g) #[] lb] w fun e w' => ∃ A n cap, e = .returned (.slice A n cap) ∧ Ow (eI .i64) 1 3 w.heap.size w' A n cap (sortL xs) ∧ Ext w w' := by
  have hC := collect_any g lb xs Sp N hN w eg hseq
  have hS : ∀ (A : Option Addr) (n cap : Nat) (w1 : World), Ow (eI .i64) 1 3 w.heap.size w1 A n cap xs → Ext w w1 → Calls Try.prog 115 #[.slice A n cap] w1 fun e w' => e = .returned (.tuple #[]) ∧ Ow (eI .i64) 1 3 w.heap.size w' A n cap (sortL xs) ∧ Ext w w' := by
    intro A n cap w1 hO hE
    obtain ⟨hl, hown⟩ := hO
    rcases hown.2 with ⟨hv, hn⟩ | ⟨g1, cap1, cur, hv, hg, hb, h1, h2, h3, h4⟩
    · injection hv with hv1 hv2 hv3
      subst hv1 hv2 hv3
      have hx0 : xs = [] := List.eq_nil_of_length_eq_zero hl.symm
      subst hx0
      refine (Try.slices_Sort_int_none none 0 w1).mono ?_
      rintro e w2 ⟨rfl, rfl⟩
      have e0 : sortL [] = [] := by simp [sortL]
      rw [e0]
      exact ⟨rfl, Ow.nil _, hE⟩
    · injection hv with hv1 hv2 hv3
      subst hv1 hl hv3
      have h4' : cur.toList.take xs.length = xs.map (Value.int .i64) := by rw [← eI_flat, ← h4, Nat.mul_one]
      have hlt : g1 < w1.heap.size := (Array.getElem?_eq_some_iff.1 hb).1
      refine (Try.slices_Sort_int g1 0 cap xs w1 (holds_of_blockI hb h4') hlt (by omega)).mono ?_
      rintro e w2 ⟨rfl, q, os, rfl⟩
      refine ⟨rfl, ⟨(sortL_len xs).symm, ?_⟩, hE.grown (grownBy_sortedI _) fun k e => by cases e; exact hg⟩
      rw [eI_flat]
      exact ownsRow_sortedI (ss := xs) (ts := sortL xs) (sortL_len xs) hg hb h1 h2 h3
  clear hseq eg
  go_enter Try.func110, Try.ntmps110
  go_wp2_with (first
    | (go_at_call 82; refine hC.mono ?_; rintro e w1 ⟨A, n, cap, rfl, hO, hE⟩)
    | (go_at_call 115; refine (hS A n cap _ hO hE).mono ?_; rintro e w2 ⟨rfl, hO2, hE2⟩))
  go_ret
  exact ⟨A, n, cap, rfl, hO2, hE2⟩

/-- Compact of a slice of the call's own: its length. -/
theorem compact_any (base : Nat) (A : Option Addr) (n cap : Nat) (xs : List Int) (w : World) (hO : Ow (eI .i64) 1 3 base w A n cap xs) (hx : xs.length ≤ 1048576) :
    Calls Try.prog 111 #[.slice A n cap] w fun e w' => ∃ cap', e = .returned (.slice A (Lib.compact xs).length cap') ∧ ∀ w0, w0.heap.size ≤ base → Ext w0 w → Ext w0 w' := by
  obtain ⟨hl, hown⟩ := hO
  rcases hown.2 with ⟨hv, hn⟩ | ⟨g1, cap1, cur, hv, hg, hb, h1, h2, h3, h4⟩
  · injection hv with hv1 hv2 hv3
    subst hv1 hv2 hv3
    have hx0 : xs = [] := List.eq_nil_of_length_eq_zero hl.symm
    subst hx0
    refine (Try.slices_Compact_int_empty none 0 w).mono ?_
    rintro e w2 ⟨rfl, rfl⟩
    exact ⟨0, rfl, fun w0 _ h => h⟩
  · injection hv with hv1 hv2 hv3
    subst hv1 hl hv3
    have h4' : cur.toList.take xs.length = xs.map (Value.int .i64) := by rw [← eI_flat, ← h4, Nat.mul_one]
    refine (Try.slices_Compact_int g1 0 cap xs w (holds_of_blockI hb h4') (by omega) h1).mono ?_
    rintro e w2 ⟨rfl, q, rfl⟩
    refine ⟨cap, rfl, fun w0 hw0 hE => ?_⟩
    have hg2 := grownBy_sortedI (w := w) (g := g1) (n := q) (os := #[]) (Lib.compact xs ++ List.replicate (xs.length - (Lib.compact xs).length) 0).toArray
    rw [grow_empty] at hg2
    exact hE.grown hg2 fun k e => by cases e; omega
end Go.Proofs.Ytdocdppimpapiaa

namespace Go.Proofs.Ytdocdppimpapiaa
open Go.RowKit

set_option maxHeartbeats 400000 in
theorem sameI_any (A B : Option Addr) (n m c d : Nat) (a b : List Int) (Q R : Nat → Prop) (w : World) (h : Sl (eI .i64) 1 Q w A n c a) (h' : Sl (eI .i64) 1 R w B m d b) :
    Calls Try.prog 40 #[.slice A n c, .slice B m d] w fun e w' => e = .returned (.bool (eqL a b)) ∧ Drawn w w' := by
  have hn := Nat.le_trans h.le h.mx
  have hm := Nat.le_trans h'.le h'.mx
  have HN := Lib.hid h.len
  have HM := Lib.hid h'.len
  have H := Lib.hid h
  have H' := Lib.hid h'
  clear h h'
  by_cases hl : n = m
  · subst hl
    have E0 : ((n : Int) != (n : Int)) = false := by simp
    go_enter Try.func40, Try.ntmps40
    go_wp2
    go_loopw [5] (fun i wr => ∃ k : Nat, k ≤ n ∧ i = .int .i64 k ∧ a.take k = b.take k ∧ Drawn w wr) (fun i _ => n - (intOf i).toNat)
    case atStart => exact ⟨0, Nat.zero_le _, rfl, rfl, Drawn.refl _⟩
    case round =>
      obtain ⟨k, hk, rfl, hab, hd⟩ := hrel
      have HAB := Lib.hid hab
      clear hab
      by_cases hlt : k < n
      · obtain ⟨b1, o1, x, rfl, hx, _, hl1, hc1⟩ := (H.out.ext hd.ext).num k hlt
        obtain ⟨b2, o2, y, rfl, hy, _, hl2, hc2⟩ := (H'.out.ext hd.ext).num k hlt
        have HX := Lib.hid hx
        have HY := Lib.hid hy
        have k0 : (0 : Int) ≤ (k : Int) := by omega
        have k1 : (k : Int) < (n : Int) := by omega
        clear hx hy
        by_cases hxy : x = y
        · subst hxy
          go_wp2
          go_quiet (fail)
          go_wp2
          refine ⟨⟨k + 1, by omega, by go_num, take_step HAB.out HX.out HY.out, hd.drewN _⟩, by simp [intOf]; omega⟩
        · have e0 : (x != y) = true := by simp [hxy]
          have E : eqL a b = false := decide_eq_false (take_ne HX.out HY.out hxy)
          clear hxy
          go_wp2
          go_quiet (fail)
          go_wp2
          go_ret
          exact ⟨ret_bool E.symm, hd.drewN _⟩
      · have hE : eqL a b = true := decide_eq_true (by
          have h1 := HAB.out
          rwa [List.take_of_length_le (by rw [← HN.out]; omega), List.take_of_length_le (by rw [← HM.out]; omega)] at h1)
        go_wp2
        go_ret
        exact ⟨ret_bool hE.symm, hd⟩
  · have E0 : ((n : Int) != (m : Int)) = true := by simp; omega
    have E : eqL a b = false := eqL_ne (by rw [← HN.out, ← HM.out]; exact hl)
    clear hl
    go_enter Try.func40, Try.ntmps40
    go_wp2
    go_ret
    exact ⟨ret_bool E.symm, Drawn.refl _⟩

def needB (s : Int) : Int := if s ≤ 0 then 0 else (s - 1) / 64 + 1

theorem need_any (s : Int) (hs : s ≤ 9223372036854775807) (w : World) :
    Calls Try.prog 38 #[.int .i64 s] w fun e w' => e = .returned (.int .i64 (needB s)) ∧ w' = w := by
  by_cases h : s ≤ 0
  · have E : needB s = 0 := if_pos h
    rw [E]
    go_enter Try.func38, Try.ntmps38
    go_wp2
    go_ret
    exact ⟨rfl, rfl⟩
  · have E : needB s = (s - 1) / 64 + 1 := if_neg h
    go_enter Try.func38, Try.ntmps38
    go_wp2
    go_ret
    exact ⟨rfl, rfl⟩

theorem rneed_any (s : Int) (hs : s ≤ 9223372036854775807) (w : World) :
    Calls Try.prog 39 #[.int .i64 s] w fun e w' => e = .returned (.int .i64 (needB s)) ∧ w' = w := by
  go_enter Try.func39, Try.ntmps39
  go_wp2
  go_loop [3] (fun i => ∃ k : Nat, (k : Int) ≤ needB s ∧ k ≤ 100 ∧ i = .int .i64 k) (fun i => 100 - (intOf i).toNat)
  case atStart => exact ⟨0, by unfold needB; split <;> omega, by omega, rfl⟩
  case round =>
    obtain ⟨k, hk, hk2, rfl⟩ := hrel
    by_cases h1 : k < 100
    · by_cases h2 : (k : Int) * 64 < s
      · have hk1 : ((k + 1 : Nat) : Int) ≤ needB s := by unfold needB; rw [if_neg (by omega)]; omega
        go_wp2
        refine ⟨⟨k + 1, hk1, by omega, by go_num⟩, by simp [intOf]; omega⟩
      · have E : needB s = k := by unfold needB at hk ⊢; split at hk <;> omega
        go_wp2
        go_ret
        exact ⟨rfl, rfl⟩
    · have E : needB s = (s - 1) / 64 + 1 := by unfold needB at hk ⊢; split at hk <;> omega
      have hs : 0 < s := by unfold needB at hk; split at hk <;> omega
      go_wp2
      go_ret
      exact ⟨rfl, rfl⟩

theorem has_any (A : Option Addr) (n c : Nat) (l : List Int) (x : Int) (Q : Nat → Prop) (w : World) (h : Sl (eI .i64) 1 Q w A n c l) :
    Calls Try.prog 86 #[.slice A n c, .int .i64 x] w fun e w' => e = .returned (.bool (decide (x ∈ l))) ∧ w' = w := by
  have hn := Nat.le_trans h.le h.mx
  have HN := Lib.hid h.len
  have H := Lib.hid h
  clear h
  go_enter Try.func86, Try.ntmps86
  go_wp2
  go_loop [5] (fun i => ∃ k : Nat, k ≤ n ∧ i = .int .i64 k ∧ x ∉ l.take k) (fun i => n - (intOf i).toNat)
  case atStart => exact ⟨0, Nat.zero_le _, rfl, by simp⟩
  case round =>
    obtain ⟨k, hk, rfl, hx⟩ := hrel
    have HX := Lib.hid hx
    clear hx
    by_cases hlt : k < n
    · obtain ⟨b1, o1, y, rfl, hy, _, hl1, hc1⟩ := H.out.num k hlt
      have HY := Lib.hid hy
      clear hy
      have k0 : (0 : Int) ≤ (k : Int) := by omega
      have k1 : (k : Int) < (n : Int) := by omega
      by_cases hxy : y = x
      · subst hxy
        have E : decide (y ∈ l) = true := decide_eq_true (List.mem_of_getElem? HY.out)
        go_wp2
        go_ret
        exact ⟨rfl, rfl⟩
      · have e0 : (y == x) = false := by simpa using hxy
        have HXY := Lib.hid hxy
        clear hxy
        go_wp2
        refine ⟨⟨k + 1, by omega, by go_num, by rw [take_snoc HY.out]; simp [HX.out, HXY.out, Ne.symm HXY.out]⟩, by simp [intOf]; omega⟩
    · have E : decide (x ∈ l) = false := decide_eq_false (by have := HX.out; rwa [List.take_of_length_le (by rw [← HN.out]; omega)] at this)
      go_wp2
      go_ret
      exact ⟨rfl, rfl⟩
end Go.Proofs.Ytdocdppimpapiaa

namespace Go.Proofs.Ytdocdppimpapiaa
open Go.RowKit

set_option maxHeartbeats 1600000 in
theorem rblocks_any (mode size : Int) (A : Option Addr) (n c : Nat) (xs : List Ex) (Q : Nat → Prop) (w : World) (h : Sl eX 2 Q w A n c xs) (hl : xs.length ≤ 1000) :
    Calls Try.prog 47 #[.agg #[.int .i64 mode, .int .i64 size, .slice A n c]] w fun e w' => ∃ A' n' cap', e = .returned (.slice A' n' cap') ∧ Ow (eI .i64) 1 3 w.heap.size w' A' n' cap' (blkB xs) ∧ Ext w w' := by
  have HL := Lib.hid h.len
  have hn : n ≤ 1000 := by rw [h.len]; exact hl
  have H := Lib.hid (h.inside fun x => by simp [eX])
  clear h
  go_enter Try.func47, Try.ntmps47
  go_wp2
  go_loopw [3, 4] (fun v i wr => ∃ (k n' cap' : Nat) (A' : Option Addr), k ≤ n ∧ i = .int .i64 k ∧ v = .slice A' n' cap' ∧ Ow (eI .i64) 1 3 (w.heap.size + 1) wr A' n' cap' (blkB (xs.take k)) ∧ Ext (w.alloc (.cells #[.int .i64 mode, .int .i64 size, .slice A n c] 65)) wr) (fun _ i _ => n - (intOf i).toNat)
  case atStart => exact ⟨0, 0, 0, none, Nat.zero_le _, rfl, rfl, Ow.nil _, Ext.refl _⟩
  case round =>
    obtain ⟨k, n', cap', A', hk, rfl, rfl, hO, he⟩ := hrel
    have b2 := he.at (cell_new w #[.int .i64 mode, .int .i64 size, .slice A n c] 65 2 (0, 0) rfl)
    have HO := Lib.hid hO
    have HX := Lib.hid he
    have hz := he.size
    have hBl := blkB_len (xs.take k)
    rw [List.length_take] at hBl
    clear hO he
    by_cases hlt : k < n
    · obtain ⟨b, off, s0, l0, rfl, hx, hq, hbl, hc0, hc1⟩ := H.out.ex k hlt
      have HK := Lib.hid hx
      have HQ := Lib.hid hq
      have hc0 := (((Ext.refl w).alloc _).trans HX.out).at hc0
      have hc1 := (((Ext.refl w).alloc _).trans HX.out).at hc1
      have k0 : (0 : Int) ≤ (k : Int) := by omega
      have k9 : (k : Int) < (n : Int) := by omega
      clear hx hq
      go_wp2
      go_loopw [3, 5] (fun v i wr => ∃ (j n' cap' : Nat) (A' : Option Addr), (0 < j → exR (s0, l0) = true ∧ (j : Int) ≤ l0) ∧ i = .int .i64 j ∧ v = .slice A' n' cap' ∧ Ow (eI .i64) 1 3 (w.heap.size + 1) wr A' n' cap' (blkB (xs.take k) ++ exUp s0 j) ∧ Ext (w.alloc (.cells #[.int .i64 mode, .int .i64 size, .slice (some ⟨b, off, none⟩) n c] 65)) wr) (fun _ i _ => 9 - (intOf i).toNat)
      case atStart => exact ⟨0, n', cap', A', fun h => absurd h (by decide), rfl, rfl, by simpa [exUp] using HO.out, HX.out⟩
      case round =>
        obtain ⟨j, n', cap', A', hj, rfl, rfl, hO, he⟩ := hrel
        have b2 := he.at (cell_new w #[.int .i64 mode, .int .i64 size, .slice (some ⟨b, off, none⟩) n c] 65 2 (0, 0) rfl)
        obtain ⟨_, _, s1, l1, e1, hx1, _, _, hc0, hc1⟩ := H.out.ex k hlt
        injection e1 with e1
        injection e1 with e1 e2
        subst e1 e2
        rw [HK.out] at hx1
        cases hx1
        have hc0 := (((Ext.refl w).alloc _).trans he).at hc0
        have hc1 := (((Ext.refl w).alloc _).trans he).at hc1
        have HO := Lib.hid hO
        have HX := Lib.hid he
        have hz := he.size
        have hlen : (blkB (xs.take k) ++ exUp s0 j).length + 1 ≤ 1048576 := by
          rw [List.length_append, exUp_len]
          have : j ≤ 8 := by
            rcases Nat.eq_zero_or_pos j with h0 | h0
            · omega
            · obtain ⟨h1, h2⟩ := hj h0
              simp [exR] at h1
              omega
          omega
        clear hO he
        by_cases hr : (j : Int) < l0 ∧ l0 ≤ 8
        · obtain ⟨hr1, hr2⟩ := hr
          go_wp2_with (at_builtin; refine wpList_app _ rfl _ _ 57 rfl info_int Try.underlying57 rfl (by decide) (eI_len _) (eI_one _) (HO.out.ext ((Ext.refl _).alloc _)) rfl (Sl.laid (eI_len _) wr [wrap64 (s0 + (j : Int))] _ 3 1 rfl rfl (by decide)) rfl (by simp only [List.length_singleton]; omega) (by simp only [List.length_singleton]; omega) (by exact Nat.le_trans (by simpa using hz) ((Ext.refl wr).alloc _).size) ?_; intro A2 n2 cap2 w2 hO2 hg2 hrow _)
          refine ⟨⟨j + 1, n2, cap2, A2, fun _ => ⟨by simp [exR]; omega, by omega⟩, by go_num, rfl, by rw [exUp_succ, ← List.append_assoc]; exact hO2, Ext.grown ((HX.out).alloc _) hg2 fun q hq => by have := (HO.out.lt q hq).1; simpa using this⟩, by simp [intOf]; omega⟩
        · have E : exUp s0 j = exB (s0, l0) := by
            rcases Nat.eq_zero_or_pos j with h0 | h0
            · subst h0
              have : exR (s0, l0) = false := by
                simp only [exR, Bool.and_eq_false_iff, decide_eq_false_iff_not]
                omega
              rw [exB_no this]
              rfl
            · obtain ⟨h1, h2⟩ := hj h0
              rw [exB_yes h1]
              have : l0 ≤ 8 := by simp [exR] at h1; omega
              show exUp s0 j = exUp s0 l0.toNat
              rw [show l0.toNat = j by omega]
          have hO := HO.out
          rw [E, ← blkB_snoc, ← take_snoc HK.out] at hO
          have HO3 := Lib.hid hO
          clear hO
          by_cases hr1 : (j : Int) < l0
          · have hr2 : 8 < l0 := by omega
            clear hr
            go_wp2
            refine ⟨⟨k + 1, n', cap', A', by omega, by go_num, rfl, HO3.out, HX.out⟩, by simp [intOf]; omega⟩
          · clear hr
            go_wp2
            refine ⟨⟨k + 1, n', cap', A', by omega, by go_num, rfl, HO3.out, HX.out⟩, by simp [intOf]; omega⟩
    · have hE : xs.take k = xs := List.take_of_length_le (by rw [← HL.out]; omega)
      have hO := HO.out
      rw [hE] at hO
      go_wp2
      go_ret
      exact ⟨A', n', cap', rfl, hO.lower (by omega), ((Ext.refl w).alloc _).trans HX.out⟩
end Go.Proofs.Ytdocdppimpapiaa

namespace Go.Proofs.Ytdocdppimpapiaa
open Go.RowKit

def okE (e : Ex) : Bool := exR e && (decide (0 ≤ e.1) && decide (e.1 < 4096) && decide (e.1 + e.2 ≤ 4096))
def prevE (xs : List Ex) (k : Nat) : Option Ex := if k = 0 then none else xs[k - 1]?
def meets (p : Option Ex) (e : Ex) : Bool := match p with | none => false | some q => decide (e.1 = q.1 + q.2)
def fineX : Option Ex → List Ex → Bool
  | _, [] => true
  | p, e :: l => okE e && (!meets p e && fineX (some e) l)
def fineB (l : List Ex) : Bool := fineX none l && decide (blkB l).Nodup
theorem fineX_step {xs : List Ex} {k : Nat} {e : Ex} (h : xs[k]? = some e) : fineX (prevE xs k) (xs.drop k) = (okE e && (!meets (prevE xs k) e && fineX (prevE xs (k + 1)) (xs.drop (k + 1)))) := by
  have hk : k < xs.length := by
    rcases Nat.lt_or_ge k xs.length with h1 | h1
    · exact h1
    · rw [List.getElem?_eq_none h1] at h; cases h
  have h1 : prevE xs (k + 1) = some e := by simp [prevE, h]
  have h2 : xs[k] = e := by rw [List.getElem?_eq_getElem hk] at h; injection h
  rw [List.drop_eq_getElem_cons hk, h1, h2]
  rfl
theorem okE_bd {e : Ex} (h : okE e = true) : 1 ≤ e.2 ∧ e.2 ≤ 8 ∧ 0 ≤ e.1 ∧ e.1 < 4096 ∧ e.1 + e.2 ≤ 4096 := by
  simp [okE, exR] at h
  omega
theorem okE_no {s l : Int} (h : okE (s, l) = false) : exR (s, l) = false ∨ (exR (s, l) = true ∧ s < 0) ∨ (exR (s, l) = true ∧ 0 ≤ s ∧ 4096 ≤ s) ∨ (exR (s, l) = true ∧ 0 ≤ s ∧ s < 4096 ∧ 4096 < s + l ∧ 1 ≤ l ∧ l ≤ 8) := by
  by_cases hr : exR (s, l) = true
  · right
    have hr' : 1 ≤ l ∧ l ≤ 8 := by simpa [exR] using hr
    simp only [okE, hr, Bool.true_and, Bool.and_eq_false_iff, decide_eq_false_iff_not] at h
    by_cases h1 : s < 0
    · exact .inl ⟨hr, h1⟩
    · by_cases h2 : 4096 ≤ s
      · exact .inr (.inl ⟨hr, by omega, h2⟩)
      · exact .inr (.inr ⟨hr, by omega, by omega, by omega, hr'.1, hr'.2⟩)
  · left
    simpa using hr
theorem okE_right {e : Ex} (h : okE e = true) : exR e = true := by simp [okE] at h; exact h.1

set_option maxHeartbeats 4000000 in
theorem fine_any (A : Option Addr) (n c : Nat) (xs : List Ex) (Q : Nat → Prop) (w : World) (h : Sl eX 2 Q w A n c xs) (hl : xs.length ≤ 1000) :
    Calls Try.prog 85 #[.slice A n c] w fun e w' => e = .returned (.bool (fineB xs)) ∧ Ext w w' := by
  have HL := Lib.hid h.len
  have hn : n ≤ 1000 := by rw [h.len]; exact hl
  have H := Lib.hid (h.inside fun x => by simp [eX])
  clear h
  go_enter Try.func85, Try.ntmps85
  go_wp2
  go_loopw [8] (fun i wr => ∃ k : Nat, k ≤ n ∧ i = .int .i64 k ∧ fineX (prevE xs k) (xs.drop k) = fineX none xs ∧ (∀ q, prevE xs k = some q → okE q = true) ∧ Ext w wr) (fun i _ => n - (intOf i).toNat)
  case atStart => exact ⟨0, Nat.zero_le _, rfl, rfl, fun q hq => (by cases hq), Ext.refl _⟩
  case round =>
    obtain ⟨k, hk, rfl, hf, hp, he⟩ := hrel
    have HF := Lib.hid hf
    have HP := Lib.hid hp
    have HX := Lib.hid he
    clear hf hp he
    by_cases hlt : k < n
    · obtain ⟨b, off, s0, l0, rfl, hx, hq, hbl, hc0, hc1⟩ := H.out.ex k hlt
      have HK := Lib.hid hx
      have hc0 := HX.out.at hc0
      have hc1 := HX.out.at hc1
      have k0 : (0 : Int) ≤ (k : Int) := by omega
      have k9 : (k : Int) < (n : Int) := by omega
      have ST := Lib.hid (fineX_step hx)
      clear hx hq
      by_cases hok : okE (s0, l0) = true
      · have hr := okE_right hok
        obtain ⟨o1, o2, o3, o4, o5⟩ := okE_bd hok
        simp only at o1 o2 o3 o4 o5
        have HOK := Lib.hid hok
        clear hok
        go_wp2_with (go_at_call 108; refine (xright_any s0 l0 _).mono ?_; rw [hr]; rintro e w1 ⟨rfl, he1⟩; have hE0 := he1.at (cell_new wr #[.int .i64 s0, .int .i64 l0] 86 0 (0, 0) rfl); have hE1 := he1.at (cell_new wr #[.int .i64 s0, .int .i64 l0] 86 1 (0, 0) rfl))
        have B3 := Lib.hid (((Ext.refl wr).alloc (.cells #[.int .i64 s0, .int .i64 l0] 86)).trans he1)
        have nxt : ∀ q, prevE xs (k + 1) = some q → okE q = true := fun q hq => by
          simp only [prevE, Nat.add_one_ne_zero, if_false, Nat.add_sub_cancel, HK.out, Option.some.injEq] at hq
          rw [← hq]; exact HOK.out
        have NXT := Lib.hid nxt
        clear nxt
        by_cases hk0 : k = 0
        · have hd0 : decide (0 < k) = false := by simp; omega
          have hm : meets (prevE xs k) (s0, l0) = false := by simp [prevE, hk0, meets]
          have h1 := ST.out
          rw [HF.out, hm, HOK.out] at h1
          have H1 := Lib.hid h1
          clear h1 hm hk0
          go_quiet (fail)
          go_wp2
          exact ⟨⟨k + 1, by omega, by go_num, by have := H1.out; simpa using this.symm, NXT.out, HX.out.trans (B3.out.drewN _)⟩, by simp [intOf]; omega⟩
        · obtain ⟨b2, o2, s2, l2, hA, hp2, _, _, hq0, hq1⟩ := H.out.ex (k - 1) (by omega)
          simp only [Option.some.injEq, Addr.mk.injEq, and_true] at hA
          obtain ⟨rfl, rfl⟩ := hA
          have hq0 := B3.out.at (HX.out.at hq0)
          have hq1 := B3.out.at (HX.out.at hq1)
          have hpv : prevE xs k = some (s2, l2) := by simp [prevE, hk0, hp2]
          obtain ⟨p1, p2, p3, p4, p5⟩ := okE_bd (HP.out _ hpv)
          simp only at p1 p2 p3 p4 p5
          have hd0 : decide (0 < k) = true := by simp; omega
          have k1 : (0 : Int) ≤ (k : Int) - 1 := by omega
          have k2 : (1 : Int) ≤ (k : Int) := by omega
          have k3 : 1 ≤ k := by omega
          have k4 : (k : Int) - 1 < (n : Int) := by omega
          have hw : wrap64 (s2 + l2) = s2 + l2 := IntWalk.wrap64_in _ ⟨by omega, by omega⟩
          have h1 := ST.out
          rw [HF.out, hpv, HOK.out] at h1
          have H1 := Lib.hid h1
          clear h1 hp2 hpv hk0
          by_cases hmt : s0 = s2 + l2
          · have hm : meets (some (s2, l2)) (s0, l0) = true := by simp [meets, hmt]
            have F : fineB xs = false := by
              have h1 := H1.out
              rw [hm] at h1
              unfold fineB
              rw [h1]; rfl
            have F := Lib.hid F
            have e0 : (s0 == s2 + l2) = true := by simpa using hmt
            clear hm hmt
            go_quiet (fail)
            go_wp2
            go_ret
            exact ⟨ret_bool F.out.symm, HX.out.trans (B3.out.drewN _)⟩
          · have hm : meets (some (s2, l2)) (s0, l0) = false := by simp [meets, hmt]
            have h1 := H1.out
            rw [hm] at h1
            have H2 := Lib.hid h1
            have e0 : (s0 == s2 + l2) = false := by simpa using hmt
            clear hm hmt h1
            go_quiet (fail)
            go_wp2
            exact ⟨⟨k + 1, by omega, by go_num, by have := H2.out; simpa using this.symm, NXT.out, HX.out.trans (B3.out.drewN _)⟩, by simp [intOf]; omega⟩
      · have F : fineB xs = false := by
          have h0 : okE (s0, l0) = false := by simpa using hok
          have h1 := ST.out
          rw [HF.out, h0] at h1
          unfold fineB
          rw [h1]; rfl
        have F := Lib.hid F
        rcases okE_no (by simpa using hok) with hr | ⟨hr, hs⟩ | ⟨hr, hs, hs2⟩ | ⟨hr, hs, hs2, hs3, hs4, hs5⟩ <;> clear hok
        · go_wp2_with (go_at_call 108; refine (xright_any s0 l0 _).mono ?_; rw [hr]; rintro e w1 ⟨rfl, he1⟩; have hE0 := he1.at (cell_new wr #[.int .i64 s0, .int .i64 l0] 86 0 (0, 0) rfl); have hE1 := he1.at (cell_new wr #[.int .i64 s0, .int .i64 l0] 86 1 (0, 0) rfl))
          go_ret
          exact ⟨ret_bool F.out.symm, (HX.out.alloc _).trans he1⟩
        · go_wp2_with (go_at_call 108; refine (xright_any s0 l0 _).mono ?_; rw [hr]; rintro e w1 ⟨rfl, he1⟩; have hE0 := he1.at (cell_new wr #[.int .i64 s0, .int .i64 l0] 86 0 (0, 0) rfl); have hE1 := he1.at (cell_new wr #[.int .i64 s0, .int .i64 l0] 86 1 (0, 0) rfl))
          go_ret
          exact ⟨ret_bool F.out.symm, (HX.out.alloc _).trans he1⟩
        · go_wp2_with (go_at_call 108; refine (xright_any s0 l0 _).mono ?_; rw [hr]; rintro e w1 ⟨rfl, he1⟩; have hE0 := he1.at (cell_new wr #[.int .i64 s0, .int .i64 l0] 86 0 (0, 0) rfl); have hE1 := he1.at (cell_new wr #[.int .i64 s0, .int .i64 l0] 86 1 (0, 0) rfl))
          go_ret
          exact ⟨ret_bool F.out.symm, (HX.out.alloc _).trans he1⟩
        · go_wp2_with (go_at_call 108; refine (xright_any s0 l0 _).mono ?_; rw [hr]; rintro e w1 ⟨rfl, he1⟩; have hE0 := he1.at (cell_new wr #[.int .i64 s0, .int .i64 l0] 86 0 (0, 0) rfl); have hE1 := he1.at (cell_new wr #[.int .i64 s0, .int .i64 l0] 86 1 (0, 0) rfl))
          go_ret
          exact ⟨ret_bool F.out.symm, (HX.out.alloc _).trans he1⟩
    · have F : fineX none xs = true := by
        have h1 := HF.out
        rw [List.drop_eq_nil_of_le (by rw [← HL.out]; omega)] at h1
        exact h1.symm
      have hB8 := blkB_len xs
      have hxl : xs.length = n := HL.out.symm
      have G : (((Lib.compact (sortL (blkB xs))).length : Int) == ((blkB xs).length : Int)) = fineB xs := by
        unfold fineB
        rw [F, Bool.true_and]
        have h1 := compact_len (sortL_sorted (blkB xs))
        rw [sortL_len, (sortL_perm (blkB xs)).nodup_iff] at h1
        rw [Bool.eq_iff_iff, decide_eq_true_eq, ← h1, beq_iff_eq]
        omega
      have G := Lib.hid G
      clear F
      go_wp2_with (first
        | (go_at_call 83; refine (each_any _ _ _ _).mono ?_; rintro e w1 ⟨rfl, rfl⟩)
        | (go_at_call 110; refine (sorted_any _ _ (blkB xs) (fun _ => True) (8 * n) (by omega) (by omega) _ (enters_of Try.func107 (by kernel_rfl) rfl) (fun m hm => each_stops m hm wr.heap.size _ n c A xs (fun k => Q k ∧ k < w.heap.size) (fun k hk => by have h1 := hk.2; have h2 := HX.out.size; simp; omega) _ (by simp) (Nat.le_refl _) (by simp) ((H.out.ext HX.out).ext ((Ext.refl _).alloc _)))).mono ?_; rintro e w2 ⟨A', n', cap', rfl, hO, he⟩; have hn' := hO.len; rw [sortL_len] at hn'; subst hn')
        | (go_at_call 111; refine (compact_any _ _ _ _ _ _ hO (by rw [sortL_len]; omega)).mono ?_; rintro e w3 ⟨cap2, rfl, hK⟩))
      go_ret
      refine ⟨rfl, hK w (by have := HX.out.size; simp; omega) ((HX.out.alloc _).trans he)⟩
end Go.Proofs.Ytdocdppimpapiaa

namespace Go.Proofs.Ytdocdppimpapiaa
open Go.RowKit

/-- An inode: the mode, the size, the extents. -/
abbrev Ino := Int × Int × List Ex
def chkA (m s : Int) (l : List Ex) : Prop := s < 0 ∨ (m = 0 ∧ (0 < s ∨ l ≠ []))
def chkB (s : Int) (l : List Ex) : Prop := 8 < l.length ∨ fineB l = false ∨ ((blkB l).length : Int) ≠ needB s
instance (m s : Int) (l : List Ex) : Decidable (chkA m s l) := by unfold chkA; infer_instance
instance (s : Int) (l : List Ex) : Decidable (chkB s l) := by unfold chkB; infer_instance
def checkI (x : Ino) : Int :=
  if x.1 < 0 ∨ 2 < x.1 then 1 else if 512 < x.2.1 then 17 else if chkA x.1 x.2.1 x.2.2 then 4 else if chkB x.2.1 x.2.2 then 4 else 0

set_option maxHeartbeats 4000000 in
theorem check_ino (m s : Int) (A : Option Addr) (n c : Nat) (xs : List Ex) (Q : Nat → Prop) (w : World) (h : Sl eX 2 Q w A n c xs) (hl : xs.length ≤ 1000) :
    Calls Try.prog 53 #[.agg #[.int .i64 m, .int .i64 s, .slice A n c]] w fun e w' => e = .returned (.int .i64 (checkI (m, s, xs))) ∧ Ext w w' := by
  have HL := Lib.hid h.len
  have hn : n ≤ 1000 := by rw [h.len]; exact hl
  have H := Lib.hid h
  have n0 : n = 0 ↔ xs = [] := by rw [h.len]; exact List.length_eq_zero_iff
  clear h
  by_cases a1 : m < 0
  · have E : checkI (m, s, xs) = 1 := by unfold checkI; rw [if_pos (.inl a1)]
    rw [E]
    go_enter Try.func53, Try.ntmps53
    go_wp2
    go_ret
    exact ⟨rfl, (Ext.refl _).alloc _⟩
  by_cases a2 : 2 < m
  · have E : checkI (m, s, xs) = 1 := by unfold checkI; rw [if_pos (.inr a2)]
    rw [E]
    go_enter Try.func53, Try.ntmps53
    go_wp2
    go_ret
    exact ⟨rfl, (Ext.refl _).alloc _⟩
  have n1 : ¬ (m < 0 ∨ 2 < m) := by omega
  by_cases a3 : 512 < s
  · have E : checkI (m, s, xs) = 17 := by unfold checkI; rw [if_neg n1, if_pos a3]
    rw [E]
    go_enter Try.func53, Try.ntmps53
    go_wp2
    go_ret
    exact ⟨rfl, (Ext.refl _).alloc _⟩
  by_cases a4 : s < 0
  · have E : checkI (m, s, xs) = 4 := by unfold checkI; rw [if_neg n1, if_neg a3, if_pos (.inl a4)]
    rw [E]
    go_enter Try.func53, Try.ntmps53
    go_wp2
    go_ret
    exact ⟨rfl, (Ext.refl _).alloc _⟩
  by_cases a5 : m = 0 ∧ 0 < s
  · obtain ⟨rfl, a5⟩ := a5
    have E : checkI (0, s, xs) = 4 := by unfold checkI; rw [if_neg n1, if_neg a3, if_pos (.inr ⟨rfl, .inl a5⟩)]
    rw [E]
    go_enter Try.func53, Try.ntmps53
    go_wp2
    go_ret
    exact ⟨rfl, (Ext.refl _).alloc _⟩
  by_cases a6 : m = 0 ∧ 0 < n
  · obtain ⟨rfl, a6⟩ := a6
    have s0 : s = 0 := by omega
    subst s0
    have E : checkI (0, 0, xs) = 4 := by unfold checkI; rw [if_neg n1, if_neg a3, if_pos (.inr ⟨rfl, .inr fun e => by have := n0.2 e; omega⟩)]
    rw [E]
    go_enter Try.func53, Try.ntmps53
    go_wp2
    go_ret
    exact ⟨rfl, (Ext.refl _).alloc _⟩
  have n3 : ¬ chkA m s xs := by
    rintro (h | ⟨h, h1 | h1⟩)
    · exact a4 h
    · exact a5 ⟨h, h1⟩
    · exact a6 ⟨h, by have : n ≠ 0 := fun e => h1 (n0.1 e); omega⟩
  have E0 : checkI (m, s, xs) = if chkB s xs then 4 else 0 := by unfold checkI; rw [if_neg n1, if_neg a3, if_neg n3]
  have mode : m = 0 ∧ s = 0 ∧ n = 0 ∨ (m == 0) = false := by
    by_cases h : m = 0
    · exact .inl ⟨h, by omega, by omega⟩
    · exact .inr (by simpa using h)
  have hs : s ≤ 9223372036854775807 := by omega
  clear n3 a6 a5 n1 n0
  by_cases b1 : 8 < n
  · have E : checkI (m, s, xs) = 4 := by rw [E0, if_pos (.inl (by have := HL.out; omega))]
    rw [E]
    clear E E0
    have d8 : decide ((8 : Int) < (n : Int)) = true := decide_eq_true (by omega)
    have d8' : decide (8 < n) = true := by simpa using b1
    rcases mode with ⟨rfl, rfl, rfl⟩ | mode
    · omega
    · go_enter Try.func53, Try.ntmps53
      go_wp2
      go_quiet (fail)
      go_wp2
      go_ret
      exact ⟨rfl, ((Ext.refl _).alloc _).drewN _⟩
  have d8 : decide ((8 : Int) < (n : Int)) = false := decide_eq_false (by omega)
  have d8' : decide (8 < n) = false := by simpa using b1
  by_cases b2 : fineB xs = true
  · have fb := b2
    by_cases hb : ((blkB xs).length : Int) = needB s
    · have E : checkI (m, s, xs) = 0 := by
        rw [E0, if_neg]
        rintro (h1 | h1 | h1)
        · have := HL.out; omega
        · rw [b2] at h1; cases h1
        · exact h1 hb
      rw [E]
      clear E E0 b2
      have nq : (((blkB xs).length : Int) != needB s) = false := by simpa using hb
      clear hb
      rcases mode with ⟨rfl, rfl, rfl⟩ | mode
      · have d9 : decide ((8 : Int) < 0) = false := rfl
        have d9' : decide (8 < 0) = false := rfl
        go_enter Try.func53, Try.ntmps53
        go_wp2
        have b0 := cell_new w #[.int .i64 0, .int .i64 0, .slice A 0 c] 60 0 (0, 0) rfl
        have b1' := cell_new w #[.int .i64 0, .int .i64 0, .slice A 0 c] 60 1 (0, 0) rfl
        have b2' := cell_new w #[.int .i64 0, .int .i64 0, .slice A 0 c] 60 2 (0, 0) rfl
        go_region_held3 (fun W => W.cell? ⟨w.heap.size, 0, none⟩ = some (.int .i64 0) ∧ W.cell? ⟨w.heap.size, 1, none⟩ = some (.int .i64 0) ∧ W.cell? ⟨w.heap.size, 2, none⟩ = some (.slice A 0 c) ∧ Ext w W)
          (first | exact ⟨b0, b1', b2', ((Ext.refl _).alloc _).drew⟩ | (go_split_ands; refine ⟨he3.at (by assumption), he3.at (by assumption), he3.at (by assumption), Ext.trans (by assumption) he3⟩) | go_keep)
          (first
            | (go_at_call 85; refine (fine_any _ _ _ _ _ _ (H.out.ext (by (repeat (first | exact Ext.refl _ | assumption | refine Ext.alloc ?_ _ | refine Ext.drew ?_ | refine Ext.drewN ?_ _ | refine Ext.setCell ?_ (by simp) _ | (refine Ext.trans ?_ (by assumption)))))) hl).mono ?_; rw [fb]; rintro e w3 ⟨rfl, he3⟩)
            | (go_at_call 41; refine (blocks_any _ _ _ _ _ _ _ _ (H.out.ext (by (repeat (first | exact Ext.refl _ | assumption | refine Ext.alloc ?_ _ | refine Ext.drew ?_ | refine Ext.drewN ?_ _ | refine Ext.setCell ?_ (by simp) _ | (refine Ext.trans ?_ (by assumption)))))) hl).mono ?_; rintro e w3 ⟨A3, n3, c3, rfl, hO3, he3⟩; obtain rfl := hO3.len)
            | (go_at_call 38; refine (need_any _ (by omega) _).mono ?_; rintro e w3 ⟨rfl, rfl⟩; have he3 := Ext.refl w3))
        rename_i hS
        obtain ⟨s0, s1, s2, s3⟩ := hS
        go_wp2
        go_ret
        exact ⟨rfl, s3⟩
      · go_enter Try.func53, Try.ntmps53
        go_wp2
        have b0 := cell_new w #[.int .i64 m, .int .i64 s, .slice A n c] 60 0 (0, 0) rfl
        have b1' := cell_new w #[.int .i64 m, .int .i64 s, .slice A n c] 60 1 (0, 0) rfl
        have b2' := cell_new w #[.int .i64 m, .int .i64 s, .slice A n c] 60 2 (0, 0) rfl
        go_region_held3 (fun W => W.cell? ⟨w.heap.size, 0, none⟩ = some (.int .i64 m) ∧ W.cell? ⟨w.heap.size, 1, none⟩ = some (.int .i64 s) ∧ W.cell? ⟨w.heap.size, 2, none⟩ = some (.slice A n c) ∧ Ext w W)
          (first | exact ⟨b0, b1', b2', ((Ext.refl _).alloc _).drew⟩ | (go_split_ands; refine ⟨he3.at (by assumption), he3.at (by assumption), he3.at (by assumption), Ext.trans (by assumption) he3⟩) | go_keep)
          (first
            | (go_at_call 85; refine (fine_any _ _ _ _ _ _ (H.out.ext (by (repeat (first | exact Ext.refl _ | assumption | refine Ext.alloc ?_ _ | refine Ext.drew ?_ | refine Ext.drewN ?_ _ | refine Ext.setCell ?_ (by simp) _ | (refine Ext.trans ?_ (by assumption)))))) hl).mono ?_; rw [fb]; rintro e w3 ⟨rfl, he3⟩)
            | (go_at_call 41; refine (blocks_any _ _ _ _ _ _ _ _ (H.out.ext (by (repeat (first | exact Ext.refl _ | assumption | refine Ext.alloc ?_ _ | refine Ext.drew ?_ | refine Ext.drewN ?_ _ | refine Ext.setCell ?_ (by simp) _ | (refine Ext.trans ?_ (by assumption)))))) hl).mono ?_; rintro e w3 ⟨A3, n3, c3, rfl, hO3, he3⟩; obtain rfl := hO3.len)
            | (go_at_call 38; refine (need_any _ (by omega) _).mono ?_; rintro e w3 ⟨rfl, rfl⟩; have he3 := Ext.refl w3))
        rename_i hS
        obtain ⟨s0, s1, s2, s3⟩ := hS
        go_wp2
        go_ret
        exact ⟨rfl, s3⟩
    · have E : checkI (m, s, xs) = 4 := by rw [E0, if_pos (.inr (.inr hb))]
      rw [E]
      clear E E0 b2
      have nq : (((blkB xs).length : Int) != needB s) = true := by simpa using hb
      clear hb
      rcases mode with ⟨rfl, rfl, rfl⟩ | mode
      · have d9 : decide ((8 : Int) < 0) = false := rfl
        have d9' : decide (8 < 0) = false := rfl
        go_enter Try.func53, Try.ntmps53
        go_wp2
        have b0 := cell_new w #[.int .i64 0, .int .i64 0, .slice A 0 c] 60 0 (0, 0) rfl
        have b1' := cell_new w #[.int .i64 0, .int .i64 0, .slice A 0 c] 60 1 (0, 0) rfl
        have b2' := cell_new w #[.int .i64 0, .int .i64 0, .slice A 0 c] 60 2 (0, 0) rfl
        go_region_held3 (fun W => W.cell? ⟨w.heap.size, 0, none⟩ = some (.int .i64 0) ∧ W.cell? ⟨w.heap.size, 1, none⟩ = some (.int .i64 0) ∧ W.cell? ⟨w.heap.size, 2, none⟩ = some (.slice A 0 c) ∧ Ext w W)
          (first | exact ⟨b0, b1', b2', ((Ext.refl _).alloc _).drew⟩ | (go_split_ands; refine ⟨he3.at (by assumption), he3.at (by assumption), he3.at (by assumption), Ext.trans (by assumption) he3⟩) | go_keep)
          (first
            | (go_at_call 85; refine (fine_any _ _ _ _ _ _ (H.out.ext (by (repeat (first | exact Ext.refl _ | assumption | refine Ext.alloc ?_ _ | refine Ext.drew ?_ | refine Ext.drewN ?_ _ | refine Ext.setCell ?_ (by simp) _ | (refine Ext.trans ?_ (by assumption)))))) hl).mono ?_; rw [fb]; rintro e w3 ⟨rfl, he3⟩)
            | (go_at_call 41; refine (blocks_any _ _ _ _ _ _ _ _ (H.out.ext (by (repeat (first | exact Ext.refl _ | assumption | refine Ext.alloc ?_ _ | refine Ext.drew ?_ | refine Ext.drewN ?_ _ | refine Ext.setCell ?_ (by simp) _ | (refine Ext.trans ?_ (by assumption)))))) hl).mono ?_; rintro e w3 ⟨A3, n3, c3, rfl, hO3, he3⟩; obtain rfl := hO3.len)
            | (go_at_call 38; refine (need_any _ (by omega) _).mono ?_; rintro e w3 ⟨rfl, rfl⟩; have he3 := Ext.refl w3))
        rename_i hS
        obtain ⟨s0, s1, s2, s3⟩ := hS
        go_wp2
        go_ret
        exact ⟨rfl, s3⟩
      · go_enter Try.func53, Try.ntmps53
        go_wp2
        have b0 := cell_new w #[.int .i64 m, .int .i64 s, .slice A n c] 60 0 (0, 0) rfl
        have b1' := cell_new w #[.int .i64 m, .int .i64 s, .slice A n c] 60 1 (0, 0) rfl
        have b2' := cell_new w #[.int .i64 m, .int .i64 s, .slice A n c] 60 2 (0, 0) rfl
        go_region_held3 (fun W => W.cell? ⟨w.heap.size, 0, none⟩ = some (.int .i64 m) ∧ W.cell? ⟨w.heap.size, 1, none⟩ = some (.int .i64 s) ∧ W.cell? ⟨w.heap.size, 2, none⟩ = some (.slice A n c) ∧ Ext w W)
          (first | exact ⟨b0, b1', b2', ((Ext.refl _).alloc _).drew⟩ | (go_split_ands; refine ⟨he3.at (by assumption), he3.at (by assumption), he3.at (by assumption), Ext.trans (by assumption) he3⟩) | go_keep)
          (first
            | (go_at_call 85; refine (fine_any _ _ _ _ _ _ (H.out.ext (by (repeat (first | exact Ext.refl _ | assumption | refine Ext.alloc ?_ _ | refine Ext.drew ?_ | refine Ext.drewN ?_ _ | refine Ext.setCell ?_ (by simp) _ | (refine Ext.trans ?_ (by assumption)))))) hl).mono ?_; rw [fb]; rintro e w3 ⟨rfl, he3⟩)
            | (go_at_call 41; refine (blocks_any _ _ _ _ _ _ _ _ (H.out.ext (by (repeat (first | exact Ext.refl _ | assumption | refine Ext.alloc ?_ _ | refine Ext.drew ?_ | refine Ext.drewN ?_ _ | refine Ext.setCell ?_ (by simp) _ | (refine Ext.trans ?_ (by assumption)))))) hl).mono ?_; rintro e w3 ⟨A3, n3, c3, rfl, hO3, he3⟩; obtain rfl := hO3.len)
            | (go_at_call 38; refine (need_any _ (by omega) _).mono ?_; rintro e w3 ⟨rfl, rfl⟩; have he3 := Ext.refl w3))
        rename_i hS
        obtain ⟨s0, s1, s2, s3⟩ := hS
        go_wp2
        go_ret
        exact ⟨rfl, s3⟩
  · have fb : fineB xs = false := by simpa using b2
    have E : checkI (m, s, xs) = 4 := by rw [E0, if_pos (.inr (.inl fb))]
    rw [E]
    clear E E0 b2
    rcases mode with ⟨rfl, rfl, rfl⟩ | mode
    · have e0 : xs = [] := List.eq_nil_of_length_eq_zero HL.out.symm
      subst e0
      exact absurd fb (by decide)
    · go_enter Try.func53, Try.ntmps53
      go_wp2
      have b0 := cell_new w #[.int .i64 m, .int .i64 s, .slice A n c] 60 0 (0, 0) rfl
      have b1' := cell_new w #[.int .i64 m, .int .i64 s, .slice A n c] 60 1 (0, 0) rfl
      have b2' := cell_new w #[.int .i64 m, .int .i64 s, .slice A n c] 60 2 (0, 0) rfl
      first | go_region_law (first | (go_simp; go_at_call 85; refine (fine_any _ _ _ _ _ _ (H.out.ext (by (repeat (first | exact Ext.refl _ | assumption | refine Ext.alloc ?_ _ | refine Ext.drew ?_ | refine Ext.drewN ?_ _ | refine Ext.setCell ?_ (by simp) _ | (refine Ext.trans ?_ (by assumption)))))) hl).mono ?_; rw [fb]; rintro e w3 ⟨rfl, he3⟩)) | fail
      all_goals (go_wp2; go_ret; exact ⟨rfl, by (repeat (first | exact Ext.refl _ | assumption | refine Ext.alloc ?_ _ | refine Ext.drew ?_ | refine Ext.drewN ?_ _ | refine Ext.setCell ?_ (by simp) _ | (refine Ext.trans ?_ (by assumption))))⟩)
end Go.Proofs.Ytdocdppimpapiaa
