/-
  DERIVED. GIVEN WITH THE SEED: THE CARDS: each row of YtjibimocplkfiaaGreatDoorRows.lean that lists a variable, with what it lists TIED to the program's text (the seventh form; the later family's looks); each row that meets fmt, with fmt's text TOLD by the authors' own Lean function (tested against real Go, not proved from fmt's source: count such statements apart). THE CARD IS WHAT COUNTS. Prove the row's statement (the work); the ties are given (YtjibimocplkfiaaGreatDoorTie.lean); close each card by the builder's one call (the guide's Derived/Test/ToyasCard.lean, 'card_holds'). Laid BY PROGRAM, IN A SANDBOX (cutbox-door.mjs). By AI agents, Wed Nov 11 2026. No macro, syntax, notation, axiom, sorry.
-/
import Derived.Test.YtjibimocplkfiaaGreatDoorRows
import GoSem.ClaimSeven
namespace Go.Proofs.YtjibimocplkfiaaGreatDoor
namespace Rows

/-- THE TIED CARD OF 'inkhornlaw23.RunsMove'. -/
def runsMoveCard : Claim7 := { stood := { row := runsMoveRow, standIns := [], harness := (true, "8be32efec58fcd2daec764c4f8f741cd788686aa95c18ee337a33ff153e83e8f"), looks := true }, kinds := [], alts := [], laidByText := true, laidKinds := [.data, .data, .data, .data, .pinned], laidTests := true, laidLooks := .later }
def RunsMoveCardSaid : Prop := Claim7.holds Tryz.pinned (.plain (OpenSpec.ofChange runsMoveSpec)) runsMoveCard

/-- THE SECOND FORM's CARD OF 'inkhornlaw23.RunsMove'. -/
def runsMoveUptoCard : Claim7 := { stood := { row := runsMoveUptoRow, standIns := [], harness := (true, "8be32efec58fcd2daec764c4f8f741cd788686aa95c18ee337a33ff153e83e8f"), looks := true }, kinds := [], alts := [], laidByText := true, laidKinds := [.data, .data, .data, .data, .pinned], laidTests := true, laidLooks := .later }
def RunsMoveUptoCardSaid : Prop := Claim7.holds Tryz.pinned (.plain (OpenSpec.upto runsMoveSpec)) runsMoveUptoCard
end Rows
end Go.Proofs.YtjibimocplkfiaaGreatDoor
