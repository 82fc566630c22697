/-
  DERIVED. GIVEN WITH THE SEED: THE CARDS: each row of YthgjomihopijeaaGreatDoorRows.lean that lists a variable, with what it lists TIED to the program's text (the seventh form; the later family's looks); each row that meets fmt, with fmt's text TOLD by the authors' own Lean function (tested against real Go, not proved from fmt's source: count such statements apart). THE CARD IS WHAT COUNTS. Prove the row's statement (the work); the ties are given (YthgjomihopijeaaGreatDoorTie.lean); close each card by the builder's one call (the guide's Derived/Test/ToyasCard.lean, 'card_holds'). Laid BY PROGRAM, IN A SANDBOX (cutbox-door.mjs). By AI agents, Wed Nov 11 2026. No macro, syntax, notation, axiom, sorry.
-/
import Derived.Test.YthgjomihopijeaaGreatDoorRows
import GoSem.ClaimSeven
namespace Go.Proofs.YthgjomihopijeaaGreatDoor
namespace Rows

/-- THE TIED CARD OF 'inkhornlaw23.RunsShow'. -/
def runsShowCard : Claim7 := { stood := { row := runsShowRow, standIns := [], harness := (true, "2cd3f8ee822c9b02031f35381f9799b24507f98905a37d27aceb92d98deeefb6"), looks := true }, kinds := [], alts := [], laidByText := true, laidKinds := [.data, .data, .data, .data, .pinned], laidTests := true, laidLooks := .later }
def RunsShowCardSaid : Prop := Claim7.holds Tryz.pinned (.plain (OpenSpec.ofChange runsShowSpec)) runsShowCard

/-- THE SECOND FORM's CARD OF 'inkhornlaw23.RunsShow'. -/
def runsShowUptoCard : Claim7 := { stood := { row := runsShowUptoRow, standIns := [], harness := (true, "2cd3f8ee822c9b02031f35381f9799b24507f98905a37d27aceb92d98deeefb6"), looks := true }, kinds := [], alts := [], laidByText := true, laidKinds := [.data, .data, .data, .data, .pinned], laidTests := true, laidLooks := .later }
def RunsShowUptoCardSaid : Prop := Claim7.holds Tryz.pinned (.plain (OpenSpec.upto runsShowSpec)) runsShowUptoCard
end Rows
end Go.Proofs.YthgjomihopijeaaGreatDoor
