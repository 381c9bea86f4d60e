/-
  No cell of these rows narrows 'for every input' (looked for: loops, veiled, ifaces, maps, wideKeys, modest, calm, conditions, laid).
  DERIVED. THE GIVEN ROWS OF THIS SEAT. 9 by the template 'for every input the law returns true; each argument reads behind the call as it read before'; 0 by the template 'total and deterministic' (their statements: YtdocdppimpapiaaTotals.lean).
  GIVEN WITH THE SEED: the statements are not yours to turn. If you find one false, say at which input.
  Laid BY PROGRAM, IN A SANDBOX (cutbox-rows.mjs): the forced cells as the released guide's own fill.sh prints them over the translation 2adafbac73fc90d5… (all of the seat's roots in one cut). By AI agents, Wed Nov 11 2026. No macro, syntax, notation, axiom, sorry.
-/
import Derived.Test.YtdocdppimpapiaaChecked
import GoSem.Claim
import GoSem.ClaimJoined
import GoSem.ClaimMapViews
import Derived.JoinedTies
import Derived.KernelRfl
namespace Go.Proofs.Ytdocdppimpapiaa
/- THE CELL 'sum', in the pinned program and in every row, IS THE sha256 OF THE DUMP (.gsa) THAT YtdocdppimpapiaaProg.lean LOADS. Nothing in Lean hashes anything: it is a label: what it is worth is what the hold of that sum in a sandbox is worth. -/
noncomputable def Try.pinned : Pinned := { name := "ytdocdppimpapiaa", sum := "2adafbac73fc90d5ee331209f45e847a26c4ef2ebcf5644d62cbd86bcd51022f", checked := Try.checked }
namespace Rows
def none {H : Type} : Left H := { results := [], args := [] }

/-- 'catenarylaw30.VolKeys': WHATEVER THE INPUT: true; the input reads as it did. -/
def volKeysSpec : ChangeSpec := { name := "volKeys", fn := fun _ => fun
  | [d1, d2, d3] => { results := [.lit (.bool true)], args := [d1, d2, d3] }
  | _ => none }
def volKeysRow : OpenClaim := { program := "ytdocdppimpapiaa", sum := "2adafbac73fc90d5ee331209f45e847a26c4ef2ebcf5644d62cbd86bcd51022f", func := "catenary/catenarylaw30.VolKeys", spec := "volKeys", apart := false }
def VolKeysSaid : Prop := volKeysRow.holds Try.pinned (OpenSpec.ofChange volKeysSpec)

/-- ITS FALSE NEIGHBOUR: 'it returns false'. Refute it at one input. -/
def volKeysWrong : ChangeSpec := { name := "volKeys", fn := fun _ => fun
  | [d1, d2, d3] => { results := [.lit (.bool false)], args := [d1, d2, d3] }
  | _ => none }
def VolKeysWrongFalsely : Prop := volKeysRow.holds Try.pinned (OpenSpec.ofChange volKeysWrong)

/-- 'catenarylaw30.VolGets': WHATEVER THE INPUT: true; the input reads as it did. -/
def volGetsSpec : ChangeSpec := { name := "volGets", fn := fun _ => fun
  | [d1, d2] => { results := [.lit (.bool true)], args := [d1, d2] }
  | _ => none }
def volGetsRow : OpenClaim := { program := "ytdocdppimpapiaa", sum := "2adafbac73fc90d5ee331209f45e847a26c4ef2ebcf5644d62cbd86bcd51022f", func := "catenary/catenarylaw30.VolGets", spec := "volGets", apart := false }
def VolGetsSaid : Prop := volGetsRow.holds Try.pinned (OpenSpec.ofChange volGetsSpec)

/-- ITS FALSE NEIGHBOUR: 'it returns false'. Refute it at one input. -/
def volGetsWrong : ChangeSpec := { name := "volGets", fn := fun _ => fun
  | [d1, d2] => { results := [.lit (.bool false)], args := [d1, d2] }
  | _ => none }
def VolGetsWrongFalsely : Prop := volGetsRow.holds Try.pinned (OpenSpec.ofChange volGetsWrong)

/-- 'catenarylaw30.VolIntents': WHATEVER THE INPUT: true; the input reads as it did. -/
def volIntentsSpec : ChangeSpec := { name := "volIntents", fn := fun _ => fun
  | [d1, d2] => { results := [.lit (.bool true)], args := [d1, d2] }
  | _ => none }
def volIntentsRow : OpenClaim := { program := "ytdocdppimpapiaa", sum := "2adafbac73fc90d5ee331209f45e847a26c4ef2ebcf5644d62cbd86bcd51022f", func := "catenary/catenarylaw30.VolIntents", spec := "volIntents", unfollowed := true, recurses := true, apart := false }
def VolIntentsSaid : Prop := volIntentsRow.holds Try.pinned (OpenSpec.ofChange volIntentsSpec)

/-- ITS FALSE NEIGHBOUR: 'it returns false'. Refute it at one input. -/
def volIntentsWrong : ChangeSpec := { name := "volIntents", fn := fun _ => fun
  | [d1, d2] => { results := [.lit (.bool false)], args := [d1, d2] }
  | _ => none }
def VolIntentsWrongFalsely : Prop := volIntentsRow.holds Try.pinned (OpenSpec.ofChange volIntentsWrong)

/-- 'catenarylaw28.InodeMakes': WHATEVER THE INPUT: true; the input reads as it did. -/
def inodeMakesSpec : ChangeSpec := { name := "inodeMakes", fn := fun _ => fun
  | [d1, d2, d3] => { results := [.lit (.bool true)], args := [d1, d2, d3] }
  | _ => none }
def inodeMakesRow : OpenClaim := { program := "ytdocdppimpapiaa", sum := "2adafbac73fc90d5ee331209f45e847a26c4ef2ebcf5644d62cbd86bcd51022f", func := "catenary/catenarylaw28.InodeMakes", spec := "inodeMakes", unfollowed := true, recurses := true, apart := false }
def InodeMakesSaid : Prop := inodeMakesRow.holds Try.pinned (OpenSpec.ofChange inodeMakesSpec)

/-- ITS FALSE NEIGHBOUR: 'it returns false'. Refute it at one input. -/
def inodeMakesWrong : ChangeSpec := { name := "inodeMakes", fn := fun _ => fun
  | [d1, d2, d3] => { results := [.lit (.bool false)], args := [d1, d2, d3] }
  | _ => none }
def InodeMakesWrongFalsely : Prop := inodeMakesRow.holds Try.pinned (OpenSpec.ofChange inodeMakesWrong)

/-- 'catenarylaw28.InodeTurns': WHATEVER THE INPUT: true; the input reads as it did. -/
def inodeTurnsSpec : ChangeSpec := { name := "inodeTurns", fn := fun _ => fun
  | [d1, d2, d3] => { results := [.lit (.bool true)], args := [d1, d2, d3] }
  | _ => none }
def inodeTurnsRow : OpenClaim := { program := "ytdocdppimpapiaa", sum := "2adafbac73fc90d5ee331209f45e847a26c4ef2ebcf5644d62cbd86bcd51022f", func := "catenary/catenarylaw28.InodeTurns", spec := "inodeTurns", unfollowed := true, recurses := true, apart := false }
def InodeTurnsSaid : Prop := inodeTurnsRow.holds Try.pinned (OpenSpec.ofChange inodeTurnsSpec)

/-- ITS FALSE NEIGHBOUR: 'it returns false'. Refute it at one input. -/
def inodeTurnsWrong : ChangeSpec := { name := "inodeTurns", fn := fun _ => fun
  | [d1, d2, d3] => { results := [.lit (.bool false)], args := [d1, d2, d3] }
  | _ => none }
def InodeTurnsWrongFalsely : Prop := inodeTurnsRow.holds Try.pinned (OpenSpec.ofChange inodeTurnsWrong)

/-- 'catenarylaw28.InodeBack': WHATEVER THE INPUT: true; the input reads as it did. -/
def inodeBackSpec : ChangeSpec := { name := "inodeBack", fn := fun _ => fun
  | [d1, d2, d3] => { results := [.lit (.bool true)], args := [d1, d2, d3] }
  | _ => none }
def inodeBackRow : OpenClaim := { program := "ytdocdppimpapiaa", sum := "2adafbac73fc90d5ee331209f45e847a26c4ef2ebcf5644d62cbd86bcd51022f", func := "catenary/catenarylaw28.InodeBack", spec := "inodeBack", unfollowed := true, recurses := true, apart := false }
def InodeBackSaid : Prop := inodeBackRow.holds Try.pinned (OpenSpec.ofChange inodeBackSpec)

/-- ITS FALSE NEIGHBOUR: 'it returns false'. Refute it at one input. -/
def inodeBackWrong : ChangeSpec := { name := "inodeBack", fn := fun _ => fun
  | [d1, d2, d3] => { results := [.lit (.bool false)], args := [d1, d2, d3] }
  | _ => none }
def InodeBackWrongFalsely : Prop := inodeBackRow.holds Try.pinned (OpenSpec.ofChange inodeBackWrong)

/-- 'catenarylaw30.VolValues': WHATEVER THE INPUT: true; the input reads as it did. -/
def volValuesSpec : ChangeSpec := { name := "volValues", fn := fun _ => fun
  | [d1, d2] => { results := [.lit (.bool true)], args := [d1, d2] }
  | _ => none }
def volValuesRow : OpenClaim := { program := "ytdocdppimpapiaa", sum := "2adafbac73fc90d5ee331209f45e847a26c4ef2ebcf5644d62cbd86bcd51022f", func := "catenary/catenarylaw30.VolValues", spec := "volValues", unfollowed := true, recurses := true, apart := false }
def VolValuesSaid : Prop := volValuesRow.holds Try.pinned (OpenSpec.ofChange volValuesSpec)

/-- ITS FALSE NEIGHBOUR: 'it returns false'. Refute it at one input. -/
def volValuesWrong : ChangeSpec := { name := "volValues", fn := fun _ => fun
  | [d1, d2] => { results := [.lit (.bool false)], args := [d1, d2] }
  | _ => none }
def VolValuesWrongFalsely : Prop := volValuesRow.holds Try.pinned (OpenSpec.ofChange volValuesWrong)

/-- 'catenarylaw28.InodeChecks': WHATEVER THE INPUT: true; the input reads as it did. -/
def inodeChecksSpec : ChangeSpec := { name := "inodeChecks", fn := fun _ => fun
  | [d1, d2] => { results := [.lit (.bool true)], args := [d1, d2] }
  | _ => none }
def inodeChecksRow : OpenClaim := { program := "ytdocdppimpapiaa", sum := "2adafbac73fc90d5ee331209f45e847a26c4ef2ebcf5644d62cbd86bcd51022f", func := "catenary/catenarylaw28.InodeChecks", spec := "inodeChecks", unfollowed := true, recurses := true, apart := false }
def InodeChecksSaid : Prop := inodeChecksRow.holds Try.pinned (OpenSpec.ofChange inodeChecksSpec)

/-- ITS FALSE NEIGHBOUR: 'it returns false'. Refute it at one input. -/
def inodeChecksWrong : ChangeSpec := { name := "inodeChecks", fn := fun _ => fun
  | [d1, d2] => { results := [.lit (.bool false)], args := [d1, d2] }
  | _ => none }
def InodeChecksWrongFalsely : Prop := inodeChecksRow.holds Try.pinned (OpenSpec.ofChange inodeChecksWrong)

/-- 'catenarylaw28.InodeGets': WHATEVER THE INPUT: true; the input reads as it did. -/
def inodeGetsSpec : ChangeSpec := { name := "inodeGets", fn := fun _ => fun
  | [d] => { results := [.lit (.bool true)], args := [d] }
  | _ => none }
def inodeGetsRow : OpenClaim := { program := "ytdocdppimpapiaa", sum := "2adafbac73fc90d5ee331209f45e847a26c4ef2ebcf5644d62cbd86bcd51022f", func := "catenary/catenarylaw28.InodeGets", spec := "inodeGets", unfollowed := true, recurses := true, apart := false }
def InodeGetsSaid : Prop := inodeGetsRow.holds Try.pinned (OpenSpec.ofChange inodeGetsSpec)

/-- ITS FALSE NEIGHBOUR: 'it returns false'. Refute it at one input. -/
def inodeGetsWrong : ChangeSpec := { name := "inodeGets", fn := fun _ => fun
  | [d] => { results := [.lit (.bool false)], args := [d] }
  | _ => none }
def InodeGetsWrongFalsely : Prop := inodeGetsRow.holds Try.pinned (OpenSpec.ofChange inodeGetsWrong)

/- THE SECOND FORM. 'bulk': how many values and letters a reading holds, each counted each time it is reached (what is shared counts as often as it is met; a slice's spare places count too). A statement '..UptoSaid' is the law's where the arguments, and the package variables that the reading takes, are together of bulk at most 1048576: NARROWER than '..Said'. Prove '..Said' where nothing that the law and all that it calls make is longer than what came in: it says more and counts as full. Else prove '..UptoSaid'. A law counts once. -/
mutual
def uptoBulk {H : Type} : DataW H → Nat
  | .lit (.string bytes) => bytes.length + 1
  | .lit _ => 1
  | .nil => 1
  | .ptr d => uptoBulk d + 1
  | .slice elems spare => uptoBulkAll elems + uptoBulkAll spare + 1
  | .agg parts => uptoBulkAll parts + 1
  | .iface _ d => uptoBulk d + 1
  | .map entries => uptoBulkEntries entries + 1
  | .held _ => 1
def uptoBulkAll {H : Type} : List (DataW H) → Nat
  | [] => 0
  | d :: r => uptoBulk d + uptoBulkAll r
def uptoBulkEntries {H : Type} : List (Lit × DataW H) → Nat
  | [] => 0
  | x :: r => uptoBulkEntry x + uptoBulkEntries r
def uptoBulkEntry {H : Type} : Lit × DataW H → Nat
  | (.string bytes, d) => bytes.length + uptoBulk d + 1
  | (_, d) => uptoBulk d + 1
 end
def uptoSmall : (H : Type) → List (DataW H) → Bool := fun _ ds => decide (uptoBulkAll ds ≤ 1048576)
def OpenSpec.upto (s : _root_.Go.ChangeSpec) : _root_.Go.OpenSpec := { _root_.Go.OpenSpec.ofChange s with cond := some uptoSmall }

/-- 'catenarylaw30.VolKeys', WHERE WHAT IT READS IS OF BULK AT MOST 1048576: true; the input reads as it did. -/
def volKeysUptoRow : OpenClaim := { program := "ytdocdppimpapiaa", sum := "2adafbac73fc90d5ee331209f45e847a26c4ef2ebcf5644d62cbd86bcd51022f", func := "catenary/catenarylaw30.VolKeys", spec := "volKeys", apart := false, narrowed := true }
def VolKeysUptoSaid : Prop := volKeysUptoRow.holds Try.pinned (OpenSpec.upto volKeysSpec)

/-- 'catenarylaw30.VolGets', WHERE WHAT IT READS IS OF BULK AT MOST 1048576: true; the input reads as it did. -/
def volGetsUptoRow : OpenClaim := { program := "ytdocdppimpapiaa", sum := "2adafbac73fc90d5ee331209f45e847a26c4ef2ebcf5644d62cbd86bcd51022f", func := "catenary/catenarylaw30.VolGets", spec := "volGets", apart := false, narrowed := true }
def VolGetsUptoSaid : Prop := volGetsUptoRow.holds Try.pinned (OpenSpec.upto volGetsSpec)

/-- 'catenarylaw30.VolIntents', WHERE WHAT IT READS IS OF BULK AT MOST 1048576: true; the input reads as it did. -/
def volIntentsUptoRow : OpenClaim := { program := "ytdocdppimpapiaa", sum := "2adafbac73fc90d5ee331209f45e847a26c4ef2ebcf5644d62cbd86bcd51022f", func := "catenary/catenarylaw30.VolIntents", spec := "volIntents", unfollowed := true, recurses := true, apart := false, narrowed := true }
def VolIntentsUptoSaid : Prop := volIntentsUptoRow.holds Try.pinned (OpenSpec.upto volIntentsSpec)

/-- 'catenarylaw28.InodeMakes', WHERE WHAT IT READS IS OF BULK AT MOST 1048576: true; the input reads as it did. -/
def inodeMakesUptoRow : OpenClaim := { program := "ytdocdppimpapiaa", sum := "2adafbac73fc90d5ee331209f45e847a26c4ef2ebcf5644d62cbd86bcd51022f", func := "catenary/catenarylaw28.InodeMakes", spec := "inodeMakes", unfollowed := true, recurses := true, apart := false, narrowed := true }
def InodeMakesUptoSaid : Prop := inodeMakesUptoRow.holds Try.pinned (OpenSpec.upto inodeMakesSpec)

/-- 'catenarylaw28.InodeTurns', WHERE WHAT IT READS IS OF BULK AT MOST 1048576: true; the input reads as it did. -/
def inodeTurnsUptoRow : OpenClaim := { program := "ytdocdppimpapiaa", sum := "2adafbac73fc90d5ee331209f45e847a26c4ef2ebcf5644d62cbd86bcd51022f", func := "catenary/catenarylaw28.InodeTurns", spec := "inodeTurns", unfollowed := true, recurses := true, apart := false, narrowed := true }
def InodeTurnsUptoSaid : Prop := inodeTurnsUptoRow.holds Try.pinned (OpenSpec.upto inodeTurnsSpec)

/-- 'catenarylaw28.InodeBack', WHERE WHAT IT READS IS OF BULK AT MOST 1048576: true; the input reads as it did. -/
def inodeBackUptoRow : OpenClaim := { program := "ytdocdppimpapiaa", sum := "2adafbac73fc90d5ee331209f45e847a26c4ef2ebcf5644d62cbd86bcd51022f", func := "catenary/catenarylaw28.InodeBack", spec := "inodeBack", unfollowed := true, recurses := true, apart := false, narrowed := true }
def InodeBackUptoSaid : Prop := inodeBackUptoRow.holds Try.pinned (OpenSpec.upto inodeBackSpec)

/-- 'catenarylaw30.VolValues', WHERE WHAT IT READS IS OF BULK AT MOST 1048576: true; the input reads as it did. -/
def volValuesUptoRow : OpenClaim := { program := "ytdocdppimpapiaa", sum := "2adafbac73fc90d5ee331209f45e847a26c4ef2ebcf5644d62cbd86bcd51022f", func := "catenary/catenarylaw30.VolValues", spec := "volValues", unfollowed := true, recurses := true, apart := false, narrowed := true }
def VolValuesUptoSaid : Prop := volValuesUptoRow.holds Try.pinned (OpenSpec.upto volValuesSpec)

/-- 'catenarylaw28.InodeChecks', WHERE WHAT IT READS IS OF BULK AT MOST 1048576: true; the input reads as it did. -/
def inodeChecksUptoRow : OpenClaim := { program := "ytdocdppimpapiaa", sum := "2adafbac73fc90d5ee331209f45e847a26c4ef2ebcf5644d62cbd86bcd51022f", func := "catenary/catenarylaw28.InodeChecks", spec := "inodeChecks", unfollowed := true, recurses := true, apart := false, narrowed := true }
def InodeChecksUptoSaid : Prop := inodeChecksUptoRow.holds Try.pinned (OpenSpec.upto inodeChecksSpec)

/-- 'catenarylaw28.InodeGets', WHERE WHAT IT READS IS OF BULK AT MOST 1048576: true; the input reads as it did. -/
def inodeGetsUptoRow : OpenClaim := { program := "ytdocdppimpapiaa", sum := "2adafbac73fc90d5ee331209f45e847a26c4ef2ebcf5644d62cbd86bcd51022f", func := "catenary/catenarylaw28.InodeGets", spec := "inodeGets", unfollowed := true, recurses := true, apart := false, narrowed := true }
def InodeGetsUptoSaid : Prop := inodeGetsUptoRow.holds Try.pinned (OpenSpec.upto inodeGetsSpec)

end Rows
end Go.Proofs.Ytdocdppimpapiaa
