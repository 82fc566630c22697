/-
  DERIVED. GIVEN WITH THE SEED: THE CARDS: each row of YtnblgomjmmnkaaaGreatDoorRows.lean that lists a variable, with what it lists TIED to the program's text (the seventh form; the later family's looks); each row that meets fmt, with fmt's text TOLD by the authors' own Lean function (tested against real Go, not proved from fmt's source: count such statements apart). THE CARD IS WHAT COUNTS. Prove the row's statement (the work); the ties are given (YtnblgomjmmnkaaaGreatDoorTie.lean); close each card by the builder's one call (the guide's Derived/Test/ToyasCard.lean, 'card_holds'). Laid BY PROGRAM, IN A SANDBOX (cutbox-door.mjs). By AI agents, Wed Nov 11 2026. No macro, syntax, notation, axiom, sorry.
-/
import Derived.Test.YtnblgomjmmnkaaaGreatDoorRows
import GoSem.ClaimSeven
namespace Go.Proofs.YtnblgomjmmnkaaaGreatDoor
namespace Rows

/-- THE TIED CARD OF 'inkhornlaw28.VisualNone'. -/
def visualNoneCard : Claim7 := { stood := { row := visualNoneRow, standIns := [], harness := (true, "4b92ec48db7133959facf25fef0e7ebf53212bcf82773414ad05c63577c50f7c"), looks := true }, kinds := [], alts := [], laidByText := true, laidKinds := [.data, .data, .pinned], laidTests := true, laidLooks := .later }
def VisualNoneCardSaid : Prop := Claim7.holds Tryz.pinned (.plain (OpenSpec.ofChange visualNoneSpec)) visualNoneCard

/-- THE SECOND FORM's CARD OF 'inkhornlaw28.VisualNone'. -/
def visualNoneUptoCard : Claim7 := { stood := { row := visualNoneUptoRow, standIns := [], harness := (true, "4b92ec48db7133959facf25fef0e7ebf53212bcf82773414ad05c63577c50f7c"), looks := true }, kinds := [], alts := [], laidByText := true, laidKinds := [.data, .data, .pinned], laidTests := true, laidLooks := .later }
def VisualNoneUptoCardSaid : Prop := Claim7.holds Tryz.pinned (.plain (OpenSpec.upto visualNoneSpec)) visualNoneUptoCard
end Rows
end Go.Proofs.YtnblgomjmmnkaaaGreatDoor
