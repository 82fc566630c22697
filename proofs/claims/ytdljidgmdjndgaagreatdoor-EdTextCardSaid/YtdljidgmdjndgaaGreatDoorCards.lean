/-
  DERIVED. GIVEN WITH THE SEED: THE CARDS: each row of YtdljidgmdjndgaaGreatDoorRows.lean that lists a variable, with what it lists TIED to the program's text (the seventh form; the later family's looks); each row that meets fmt, with fmt's text TOLD by the authors' own Lean function (tested against real Go, not proved from fmt's source: count such statements apart). THE CARD IS WHAT COUNTS. Prove the row's statement (the work); the ties are given (YtdljidgmdjndgaaGreatDoorTie.lean); close each card by the builder's one call (the guide's Derived/Test/ToyasCard.lean, 'card_holds'). Laid BY PROGRAM, IN A SANDBOX (cutbox-door.mjs). By AI agents, Wed Nov 11 2026. No macro, syntax, notation, axiom, sorry.
-/
import Derived.Test.YtdljidgmdjndgaaGreatDoorRows
import GoSem.ClaimSeven
namespace Go.Proofs.YtdljidgmdjndgaaGreatDoor
namespace Rows

/-- THE TIED CARD OF 'inkhornlaw25.EdText'. -/
def edTextCard : Claim7 := { stood := { row := edTextRow, standIns := [], harness := (true, "7e27d052342db41aeed85256e988d4a42d2559948c93848598d08b423218d5be"), looks := true }, kinds := [], alts := [], laidByText := true, laidKinds := [.data, .data, .data, .data, .pinned], laidTests := true, laidLooks := .later }
def EdTextCardSaid : Prop := Claim7.holds Tryz.pinned (.plain (OpenSpec.ofChange edTextSpec)) edTextCard

/-- THE SECOND FORM's CARD OF 'inkhornlaw25.EdText'. -/
def edTextUptoCard : Claim7 := { stood := { row := edTextUptoRow, standIns := [], harness := (true, "7e27d052342db41aeed85256e988d4a42d2559948c93848598d08b423218d5be"), looks := true }, kinds := [], alts := [], laidByText := true, laidKinds := [.data, .data, .data, .data, .pinned], laidTests := true, laidLooks := .later }
def EdTextUptoCardSaid : Prop := Claim7.holds Tryz.pinned (.plain (OpenSpec.upto edTextSpec)) edTextUptoCard
end Rows
end Go.Proofs.YtdljidgmdjndgaaGreatDoor
