/-
  DERIVED. GIVEN WITH THE SEED: THE CARDS: each row of YtofllhipjaphfaaGreatDoorRows.lean that lists a variable, with what it lists TIED to the program's text (the seventh form; the later family's looks); each row that meets fmt, with fmt's text TOLD by the authors' own Lean function (tested against real Go, not proved from fmt's source: count such statements apart). THE CARD IS WHAT COUNTS. Prove the row's statement (the work); the ties are given (YtofllhipjaphfaaGreatDoorTie.lean); close each card by the builder's one call (the guide's Derived/Test/ToyasCard.lean, 'card_holds'). Laid BY PROGRAM, IN A SANDBOX (cutbox-door.mjs). By AI agents, Wed Nov 11 2026. No macro, syntax, notation, axiom, sorry.
-/
import Derived.Test.YtofllhipjaphfaaGreatDoorRows
import GoSem.ClaimSeven
namespace Go.Proofs.YtofllhipjaphfaaGreatDoor
namespace Rows

/-- THE TIED CARD OF 'inkhornlaw18.LogsNone'. -/
def logsNoneCard : Claim7 := { stood := { row := logsNoneRow, standIns := [], harness := (true, "8c280070a1aab8b9d0d8e97c825d3c915cff4ad7fc7d6a865c2baa01bf8610c5"), looks := true }, kinds := [], alts := [], laidByText := true, laidKinds := [.data, .data, .data, .handle, .sentinel, .sentinel], laidTests := true, laidLooks := .later }
def LogsNoneCardSaid : Prop := Claim7.holds Tryz.pinned (.plain (OpenSpec.ofChange logsNoneSpec)) logsNoneCard

/-- THE SECOND FORM's CARD OF 'inkhornlaw18.LogsNone'. -/
def logsNoneUptoCard : Claim7 := { stood := { row := logsNoneUptoRow, standIns := [], harness := (true, "8c280070a1aab8b9d0d8e97c825d3c915cff4ad7fc7d6a865c2baa01bf8610c5"), looks := true }, kinds := [], alts := [], laidByText := true, laidKinds := [.data, .data, .data, .handle, .sentinel, .sentinel], laidTests := true, laidLooks := .later }
def LogsNoneUptoCardSaid : Prop := Claim7.holds Tryz.pinned (.plain (OpenSpec.upto logsNoneSpec)) logsNoneUptoCard
end Rows
end Go.Proofs.YtofllhipjaphfaaGreatDoor
