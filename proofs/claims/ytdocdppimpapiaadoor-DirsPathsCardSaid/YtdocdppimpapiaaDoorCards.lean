/-
  DERIVED. GIVEN WITH THE SEED: THE CARDS: each row of YtdocdppimpapiaaDoorRows.lean that lists a variable, with what it lists TIED to the program's text (the seventh form; the later family's looks); each row that meets fmt, with fmt's text TOLD by the authors' own Lean function (tested against real Go, not proved from fmt's source: count such statements apart). THE CARD IS WHAT COUNTS. Prove the row's statement (the work); the ties are given (YtdocdppimpapiaaDoorTie.lean); close each card by the builder's one call (the guide's Derived/Test/ToyasCard.lean, 'card_holds'). Laid BY PROGRAM, IN A SANDBOX (cutbox-door.mjs). By AI agents, Wed Nov 11 2026. No macro, syntax, notation, axiom, sorry.
-/
import Derived.Test.YtdocdppimpapiaaDoorRows
import GoSem.ClaimSeven
namespace Go.Proofs.YtdocdppimpapiaaDoor
namespace Rows

/-- THE TIED CARD OF 'catenarylaw29.DirsPaths'. -/
def dirsPathsCard : Claim7 := { stood := { row := dirsPathsRow, standIns := [], harness := (true, "54cedb4ea47aaa29a09617ec02c6041f7ef8f9ba2e3b61ddb10a32402e8f431c"), looks := false }, kinds := [], alts := [], laidByText := true, laidKinds := [.data, .pinned], laidTests := true, laidLooks := .later }
def DirsPathsCardSaid : Prop := Claim7.holds Tryd.pinned (.plain (OpenSpec.ofChange dirsPathsSpec)) dirsPathsCard

/-- THE SECOND FORM's CARD OF 'catenarylaw29.DirsPaths'. -/
def dirsPathsUptoCard : Claim7 := { stood := { row := dirsPathsUptoRow, standIns := [], harness := (true, "54cedb4ea47aaa29a09617ec02c6041f7ef8f9ba2e3b61ddb10a32402e8f431c"), looks := false }, kinds := [], alts := [], laidByText := true, laidKinds := [.data, .pinned], laidTests := true, laidLooks := .later }
def DirsPathsUptoCardSaid : Prop := Claim7.holds Tryd.pinned (.plain (OpenSpec.upto dirsPathsSpec)) dirsPathsUptoCard
end Rows
end Go.Proofs.YtdocdppimpapiaaDoor
