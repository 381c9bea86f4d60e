/-
  DERIVED. GIVEN WITH THE SEED: THE CARDS: each row of YtdocdppimpapiabDoorRows.lean that lists a variable, with what it lists TIED to the program's text (the seventh form; the later family's looks); each row that meets fmt, with fmt's text TOLD by the authors' own Lean function (tested against real Go, not proved from fmt's source: count such statements apart). THE CARD IS WHAT COUNTS. Prove the row's statement (the work); the ties are given (YtdocdppimpapiabDoorTie.lean); close each card by the builder's one call (the guide's Derived/Test/ToyasCard.lean, 'card_holds'). Laid BY PROGRAM, IN A SANDBOX (cutbox-door.mjs). By AI agents, Wed Nov 11 2026. No macro, syntax, notation, axiom, sorry.
-/
import Derived.Test.YtdocdppimpapiabDoorRows
import GoSem.ClaimSeven
namespace Go.Proofs.YtdocdppimpapiabDoor
namespace Rows

/-- THE TIED CARD OF 'catenarylaw29.DirsBytes'. -/
def dirsBytesCard : Claim7 := { stood := { row := dirsBytesRow, standIns := [], harness := (true, "6ffbdb9703d4292512948139cf61bf55acf87eaa4cd7dc261761f6ad1e709936"), looks := false }, kinds := [], alts := [], laidByText := true, laidKinds := [.data, .pinned], laidTests := true, laidLooks := .later }
def DirsBytesCardSaid : Prop := Claim7.holds Tryd.pinned (.plain (OpenSpec.ofChange dirsBytesSpec)) dirsBytesCard

/-- THE TIED CARD OF 'catenarylaw29.DirsGets'. -/
def dirsGetsCard : Claim7 := { stood := { row := dirsGetsRow, standIns := [], harness := (true, "6ffbdb9703d4292512948139cf61bf55acf87eaa4cd7dc261761f6ad1e709936"), looks := false }, kinds := [], alts := [], laidByText := true, laidKinds := [.data, .pinned], laidTests := true, laidLooks := .later }
def DirsGetsCardSaid : Prop := Claim7.holds Tryd.pinned (.plain (OpenSpec.ofChange dirsGetsSpec)) dirsGetsCard

/-- THE TIED CARD OF 'catenarylaw29.DirsTurns'. -/
def dirsTurnsCard : Claim7 := { stood := { row := dirsTurnsRow, standIns := [], harness := (true, "6ffbdb9703d4292512948139cf61bf55acf87eaa4cd7dc261761f6ad1e709936"), looks := false }, kinds := [], alts := [], laidByText := true, laidKinds := [.data, .pinned], laidTests := true, laidLooks := .later }
def DirsTurnsCardSaid : Prop := Claim7.holds Tryd.pinned (.plain (OpenSpec.ofChange dirsTurnsSpec)) dirsTurnsCard

/-- THE SECOND FORM's CARD OF 'catenarylaw29.DirsBytes'. -/
def dirsBytesUptoCard : Claim7 := { stood := { row := dirsBytesUptoRow, standIns := [], harness := (true, "6ffbdb9703d4292512948139cf61bf55acf87eaa4cd7dc261761f6ad1e709936"), looks := false }, kinds := [], alts := [], laidByText := true, laidKinds := [.data, .pinned], laidTests := true, laidLooks := .later }
def DirsBytesUptoCardSaid : Prop := Claim7.holds Tryd.pinned (.plain (OpenSpec.upto dirsBytesSpec)) dirsBytesUptoCard

/-- THE SECOND FORM's CARD OF 'catenarylaw29.DirsGets'. -/
def dirsGetsUptoCard : Claim7 := { stood := { row := dirsGetsUptoRow, standIns := [], harness := (true, "6ffbdb9703d4292512948139cf61bf55acf87eaa4cd7dc261761f6ad1e709936"), looks := false }, kinds := [], alts := [], laidByText := true, laidKinds := [.data, .pinned], laidTests := true, laidLooks := .later }
def DirsGetsUptoCardSaid : Prop := Claim7.holds Tryd.pinned (.plain (OpenSpec.upto dirsGetsSpec)) dirsGetsUptoCard

/-- THE SECOND FORM's CARD OF 'catenarylaw29.DirsTurns'. -/
def dirsTurnsUptoCard : Claim7 := { stood := { row := dirsTurnsUptoRow, standIns := [], harness := (true, "6ffbdb9703d4292512948139cf61bf55acf87eaa4cd7dc261761f6ad1e709936"), looks := false }, kinds := [], alts := [], laidByText := true, laidKinds := [.data, .pinned], laidTests := true, laidLooks := .later }
def DirsTurnsUptoCardSaid : Prop := Claim7.holds Tryd.pinned (.plain (OpenSpec.upto dirsTurnsSpec)) dirsTurnsUptoCard
end Rows
end Go.Proofs.YtdocdppimpapiabDoor
