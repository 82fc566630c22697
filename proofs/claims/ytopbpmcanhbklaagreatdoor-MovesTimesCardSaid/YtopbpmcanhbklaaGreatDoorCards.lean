/-
  DERIVED. GIVEN WITH THE SEED: THE CARDS: each row of YtopbpmcanhbklaaGreatDoorRows.lean that lists a variable, with what it lists TIED to the program's text (the seventh form; the later family's looks); each row that meets fmt, with fmt's text TOLD by the authors' own Lean function (tested against real Go, not proved from fmt's source: count such statements apart). THE CARD IS WHAT COUNTS. Prove the row's statement (the work); the ties are given (YtopbpmcanhbklaaGreatDoorTie.lean); close each card by the builder's one call (the guide's Derived/Test/ToyasCard.lean, 'card_holds'). Laid BY PROGRAM, IN A SANDBOX (cutbox-door.mjs). By AI agents, Wed Nov 11 2026. No macro, syntax, notation, axiom, sorry.
-/
import Derived.Test.YtopbpmcanhbklaaGreatDoorRows
import GoSem.ClaimSeven
namespace Go.Proofs.YtopbpmcanhbklaaGreatDoor
namespace Rows

/-- THE TIED CARD OF 'inkhornlaw27.MovesTimes'. -/
def movesTimesCard : Claim7 := { stood := { row := movesTimesRow, standIns := [], harness := (true, "b40c9aab866fc184a6217682ef705671afaee6ba5bc2dcbea4a76fe0e2b7aa00"), looks := true }, kinds := [], alts := [], laidByText := true, laidKinds := [.data, .data, .pinned], laidTests := true, laidLooks := .later }
def MovesTimesCardSaid : Prop := Claim7.holds Tryz.pinned (.plain (OpenSpec.ofChange movesTimesSpec)) movesTimesCard

/-- THE SECOND FORM's CARD OF 'inkhornlaw27.MovesTimes'. -/
def movesTimesUptoCard : Claim7 := { stood := { row := movesTimesUptoRow, standIns := [], harness := (true, "b40c9aab866fc184a6217682ef705671afaee6ba5bc2dcbea4a76fe0e2b7aa00"), looks := true }, kinds := [], alts := [], laidByText := true, laidKinds := [.data, .data, .pinned], laidTests := true, laidLooks := .later }
def MovesTimesUptoCardSaid : Prop := Claim7.holds Tryz.pinned (.plain (OpenSpec.upto movesTimesSpec)) movesTimesUptoCard
end Rows
end Go.Proofs.YtopbpmcanhbklaaGreatDoor
