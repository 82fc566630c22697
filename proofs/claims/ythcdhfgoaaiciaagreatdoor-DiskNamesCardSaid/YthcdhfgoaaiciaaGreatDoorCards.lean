/-
  DERIVED. GIVEN WITH THE SEED: THE CARDS: each row of YthcdhfgoaaiciaaGreatDoorRows.lean that lists a variable, with what it lists TIED to the program's text (the seventh form; the later family's looks); each row that meets fmt, with fmt's text TOLD by the authors' own Lean function (tested against real Go, not proved from fmt's source: count such statements apart). THE CARD IS WHAT COUNTS. Prove the row's statement (the work); the ties are given (YthcdhfgoaaiciaaGreatDoorTie.lean); close each card by the builder's one call (the guide's Derived/Test/ToyasCard.lean, 'card_holds'). Laid BY PROGRAM, IN A SANDBOX (cutbox-door.mjs). By AI agents, Wed Nov 11 2026. No macro, syntax, notation, axiom, sorry.
-/
import Derived.Test.YthcdhfgoaaiciaaGreatDoorRows
import GoSem.ClaimSeven
namespace Go.Proofs.YthcdhfgoaaiciaaGreatDoor
namespace Rows

/-- THE TIED CARD OF 'inkhornlaw24.DiskNames'. -/
def diskNamesCard : Claim7 := { stood := { row := diskNamesRow, standIns := [], harness := (true, "8c790fbd9462c14406cfd88f229d930ef7bd2be7bf9cdb7a26e29ca9d36e84aa"), looks := true }, kinds := [], alts := [], laidByText := true, laidKinds := [.data, .data, .data, .data, .pinned], laidTests := true, laidLooks := .later }
def DiskNamesCardSaid : Prop := Claim7.holds Tryz.pinned (.plain (OpenSpec.ofChange diskNamesSpec)) diskNamesCard

/-- THE SECOND FORM's CARD OF 'inkhornlaw24.DiskNames'. -/
def diskNamesUptoCard : Claim7 := { stood := { row := diskNamesUptoRow, standIns := [], harness := (true, "8c790fbd9462c14406cfd88f229d930ef7bd2be7bf9cdb7a26e29ca9d36e84aa"), looks := true }, kinds := [], alts := [], laidByText := true, laidKinds := [.data, .data, .data, .data, .pinned], laidTests := true, laidLooks := .later }
def DiskNamesUptoCardSaid : Prop := Claim7.holds Tryz.pinned (.plain (OpenSpec.upto diskNamesSpec)) diskNamesUptoCard
end Rows
end Go.Proofs.YthcdhfgoaaiciaaGreatDoor
