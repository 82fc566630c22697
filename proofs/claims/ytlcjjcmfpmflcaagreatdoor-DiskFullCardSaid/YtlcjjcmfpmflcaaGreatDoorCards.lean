/-
  DERIVED. GIVEN WITH THE SEED: THE CARDS: each row of YtlcjjcmfpmflcaaGreatDoorRows.lean that lists a variable, with what it lists TIED to the program's text (the seventh form; the later family's looks); each row that meets fmt, with fmt's text TOLD by the authors' own Lean function (tested against real Go, not proved from fmt's source: count such statements apart). THE CARD IS WHAT COUNTS. Prove the row's statement (the work); the ties are given (YtlcjjcmfpmflcaaGreatDoorTie.lean); close each card by the builder's one call (the guide's Derived/Test/ToyasCard.lean, 'card_holds'). Laid BY PROGRAM, IN A SANDBOX (cutbox-door.mjs). By AI agents, Wed Nov 11 2026. No macro, syntax, notation, axiom, sorry.
-/
import Derived.Test.YtlcjjcmfpmflcaaGreatDoorRows
import GoSem.ClaimSeven
namespace Go.Proofs.YtlcjjcmfpmflcaaGreatDoor
namespace Rows

/-- THE TIED CARD OF 'inkhornlaw24.DiskFull'. -/
def diskFullCard : Claim7 := { stood := { row := diskFullRow, standIns := [], harness := (true, "3f7767aa20ba30972e80443d78c9d9ba57ca98cc6e995a74cdbbedb695234636"), looks := true }, kinds := [], alts := [], laidByText := true, laidKinds := [.data, .data, .data, .data, .pinned], laidTests := true, laidLooks := .later }
def DiskFullCardSaid : Prop := Claim7.holds Tryz.pinned (.plain (OpenSpec.ofChange diskFullSpec)) diskFullCard

/-- THE TIED CARD OF 'inkhornlaw24.DiskRound'. -/
def diskRoundCard : Claim7 := { stood := { row := diskRoundRow, standIns := [], harness := (true, "3f7767aa20ba30972e80443d78c9d9ba57ca98cc6e995a74cdbbedb695234636"), looks := true }, kinds := [], alts := [], laidByText := true, laidKinds := [.data, .data, .data, .data, .pinned], laidTests := true, laidLooks := .later }
def DiskRoundCardSaid : Prop := Claim7.holds Tryz.pinned (.plain (OpenSpec.ofChange diskRoundSpec)) diskRoundCard

/-- THE TIED CARD OF 'inkhornlaw24.DiskWhole'. -/
def diskWholeCard : Claim7 := { stood := { row := diskWholeRow, standIns := [], harness := (true, "3f7767aa20ba30972e80443d78c9d9ba57ca98cc6e995a74cdbbedb695234636"), looks := true }, kinds := [], alts := [], laidByText := true, laidKinds := [.data, .data, .data, .data, .pinned], laidTests := true, laidLooks := .later }
def DiskWholeCardSaid : Prop := Claim7.holds Tryz.pinned (.plain (OpenSpec.ofChange diskWholeSpec)) diskWholeCard

/-- THE SECOND FORM's CARD OF 'inkhornlaw24.DiskFull'. -/
def diskFullUptoCard : Claim7 := { stood := { row := diskFullUptoRow, standIns := [], harness := (true, "3f7767aa20ba30972e80443d78c9d9ba57ca98cc6e995a74cdbbedb695234636"), looks := true }, kinds := [], alts := [], laidByText := true, laidKinds := [.data, .data, .data, .data, .pinned], laidTests := true, laidLooks := .later }
def DiskFullUptoCardSaid : Prop := Claim7.holds Tryz.pinned (.plain (OpenSpec.upto diskFullSpec)) diskFullUptoCard

/-- THE SECOND FORM's CARD OF 'inkhornlaw24.DiskRound'. -/
def diskRoundUptoCard : Claim7 := { stood := { row := diskRoundUptoRow, standIns := [], harness := (true, "3f7767aa20ba30972e80443d78c9d9ba57ca98cc6e995a74cdbbedb695234636"), looks := true }, kinds := [], alts := [], laidByText := true, laidKinds := [.data, .data, .data, .data, .pinned], laidTests := true, laidLooks := .later }
def DiskRoundUptoCardSaid : Prop := Claim7.holds Tryz.pinned (.plain (OpenSpec.upto diskRoundSpec)) diskRoundUptoCard

/-- THE SECOND FORM's CARD OF 'inkhornlaw24.DiskWhole'. -/
def diskWholeUptoCard : Claim7 := { stood := { row := diskWholeUptoRow, standIns := [], harness := (true, "3f7767aa20ba30972e80443d78c9d9ba57ca98cc6e995a74cdbbedb695234636"), looks := true }, kinds := [], alts := [], laidByText := true, laidKinds := [.data, .data, .data, .data, .pinned], laidTests := true, laidLooks := .later }
def DiskWholeUptoCardSaid : Prop := Claim7.holds Tryz.pinned (.plain (OpenSpec.upto diskWholeSpec)) diskWholeUptoCard
end Rows
end Go.Proofs.YtlcjjcmfpmflcaaGreatDoor
