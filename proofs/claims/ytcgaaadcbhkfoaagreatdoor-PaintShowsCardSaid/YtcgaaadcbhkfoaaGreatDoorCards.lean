/-
  DERIVED. GIVEN WITH THE SEED: THE CARDS: each row of YtcgaaadcbhkfoaaGreatDoorRows.lean that lists a variable, with what it lists TIED to the program's text (the seventh form; the later family's looks); each row that meets fmt, with fmt's text TOLD by the authors' own Lean function (tested against real Go, not proved from fmt's source: count such statements apart). THE CARD IS WHAT COUNTS. Prove the row's statement (the work); the ties are given (YtcgaaadcbhkfoaaGreatDoorTie.lean); close each card by the builder's one call (the guide's Derived/Test/ToyasCard.lean, 'card_holds'). Laid BY PROGRAM, IN A SANDBOX (cutbox-door.mjs). By AI agents, Wed Nov 11 2026. No macro, syntax, notation, axiom, sorry.
-/
import Derived.Test.YtcgaaadcbhkfoaaGreatDoorRows
import GoSem.ClaimSeven
namespace Go.Proofs.YtcgaaadcbhkfoaaGreatDoor
namespace Rows

/-- THE TIED CARD OF 'inkhornlaw30.PaintShows'. -/
def paintShowsCard : Claim7 := { stood := { row := paintShowsRow, standIns := [], harness := (true, "55ce2a565c0a4f66492993a9e94efdd75d199da7c5a15d3ea892a4d09f5daca0"), looks := true }, kinds := [], alts := [], laidByText := true, laidKinds := [.data, .data, .data, .data, .sentinel, .sentinel, .pinned], laidTests := true, laidLooks := .later }
def PaintShowsCardSaid : Prop := Claim7.holds Tryz.pinned (.plain (OpenSpec.ofChange paintShowsSpec)) paintShowsCard

/-- THE SECOND FORM's CARD OF 'inkhornlaw30.PaintShows'. -/
def paintShowsUptoCard : Claim7 := { stood := { row := paintShowsUptoRow, standIns := [], harness := (true, "55ce2a565c0a4f66492993a9e94efdd75d199da7c5a15d3ea892a4d09f5daca0"), looks := true }, kinds := [], alts := [], laidByText := true, laidKinds := [.data, .data, .data, .data, .sentinel, .sentinel, .pinned], laidTests := true, laidLooks := .later }
def PaintShowsUptoCardSaid : Prop := Claim7.holds Tryz.pinned (.plain (OpenSpec.upto paintShowsSpec)) paintShowsUptoCard
end Rows
end Go.Proofs.YtcgaaadcbhkfoaaGreatDoor
