/-
  DERIVED. GIVEN WITH THE SEED: THE CARDS: each row of YtndjgbehbgcpkaaGreatDoorRows.lean that lists a variable, with what it lists TIED to the program's text (the seventh form; the later family's looks); each row that meets fmt, with fmt's text TOLD by the authors' own Lean function (tested against real Go, not proved from fmt's source: count such statements apart). THE CARD IS WHAT COUNTS. Prove the row's statement (the work); the ties are given (YtndjgbehbgcpkaaGreatDoorTie.lean); close each card by the builder's one call (the guide's Derived/Test/ToyasCard.lean, 'card_holds'). Laid BY PROGRAM, IN A SANDBOX (cutbox-door.mjs). By AI agents, Wed Nov 11 2026. No macro, syntax, notation, axiom, sorry.
-/
import Derived.Test.YtndjgbehbgcpkaaGreatDoorRows
import GoSem.ClaimSeven
namespace Go.Proofs.YtndjgbehbgcpkaaGreatDoor
namespace Rows

/-- THE TIED CARD OF 'inkhornlaw23.RunsNone'. -/
def runsNoneCard : Claim7 := { stood := { row := runsNoneRow, standIns := [], harness := (true, "630bc7f3b6f723e74bb4997c533e2a070e4670f742e7ddcbe6aa45a918428deb"), looks := true }, kinds := [], alts := [], laidByText := true, laidKinds := [.data, .data, .data, .data, .pinned], laidTests := true, laidLooks := .later }
def RunsNoneCardSaid : Prop := Claim7.holds Tryz.pinned (.plain (OpenSpec.ofChange runsNoneSpec)) runsNoneCard

/-- THE TIED CARD OF 'inkhornlaw23.RunsBack'. -/
def runsBackCard : Claim7 := { stood := { row := runsBackRow, standIns := [], harness := (true, "630bc7f3b6f723e74bb4997c533e2a070e4670f742e7ddcbe6aa45a918428deb"), looks := true }, kinds := [], alts := [], laidByText := true, laidKinds := [.data, .data, .data, .data, .pinned], laidTests := true, laidLooks := .later }
def RunsBackCardSaid : Prop := Claim7.holds Tryz.pinned (.plain (OpenSpec.ofChange runsBackSpec)) runsBackCard

/-- THE SECOND FORM's CARD OF 'inkhornlaw23.RunsNone'. -/
def runsNoneUptoCard : Claim7 := { stood := { row := runsNoneUptoRow, standIns := [], harness := (true, "630bc7f3b6f723e74bb4997c533e2a070e4670f742e7ddcbe6aa45a918428deb"), looks := true }, kinds := [], alts := [], laidByText := true, laidKinds := [.data, .data, .data, .data, .pinned], laidTests := true, laidLooks := .later }
def RunsNoneUptoCardSaid : Prop := Claim7.holds Tryz.pinned (.plain (OpenSpec.upto runsNoneSpec)) runsNoneUptoCard

/-- THE SECOND FORM's CARD OF 'inkhornlaw23.RunsBack'. -/
def runsBackUptoCard : Claim7 := { stood := { row := runsBackUptoRow, standIns := [], harness := (true, "630bc7f3b6f723e74bb4997c533e2a070e4670f742e7ddcbe6aa45a918428deb"), looks := true }, kinds := [], alts := [], laidByText := true, laidKinds := [.data, .data, .data, .data, .pinned], laidTests := true, laidLooks := .later }
def RunsBackUptoCardSaid : Prop := Claim7.holds Tryz.pinned (.plain (OpenSpec.upto runsBackSpec)) runsBackUptoCard
end Rows
end Go.Proofs.YtndjgbehbgcpkaaGreatDoor
