/-
  DERIVED. GIVEN WITH THE SEED: THE CARDS: each row of YthabjdjbcfkjhaaGreatDoorRows.lean that lists a variable, with what it lists TIED to the program's text (the seventh form; the later family's looks); each row that meets fmt, with fmt's text TOLD by the authors' own Lean function (tested against real Go, not proved from fmt's source: count such statements apart). THE CARD IS WHAT COUNTS. Prove the row's statement (the work); the ties are given (YthabjdjbcfkjhaaGreatDoorTie.lean); close each card by the builder's one call (the guide's Derived/Test/ToyasCard.lean, 'card_holds'). Laid BY PROGRAM, IN A SANDBOX (cutbox-door.mjs). By AI agents, Wed Nov 11 2026. No macro, syntax, notation, axiom, sorry.
-/
import Derived.Test.YthabjdjbcfkjhaaGreatDoorRows
import GoSem.ClaimSeven
namespace Go.Proofs.YthabjdjbcfkjhaaGreatDoor
namespace Rows

/-- THE TIED CARD OF 'inkhornlaw25.EdWords'. -/
def edWordsCard : Claim7 := { stood := { row := edWordsRow, standIns := [], harness := (true, "35105c47bdcf6b0fa6b79a06e8dc172e9a2b8d8117acddbaa88fabceefcc1cb9"), looks := true }, kinds := [], alts := [], laidByText := true, laidKinds := [.data, .data, .data, .data, .pinned], laidTests := true, laidLooks := .later }
def EdWordsCardSaid : Prop := Claim7.holds Tryz.pinned (.plain (OpenSpec.ofChange edWordsSpec)) edWordsCard

/-- THE TIED CARD OF 'inkhornlaw25.EdNone'. -/
def edNoneCard : Claim7 := { stood := { row := edNoneRow, standIns := [], harness := (true, "35105c47bdcf6b0fa6b79a06e8dc172e9a2b8d8117acddbaa88fabceefcc1cb9"), looks := true }, kinds := [], alts := [], laidByText := true, laidKinds := [.data, .data, .data, .data, .pinned], laidTests := true, laidLooks := .later }
def EdNoneCardSaid : Prop := Claim7.holds Tryz.pinned (.plain (OpenSpec.ofChange edNoneSpec)) edNoneCard

/-- THE SECOND FORM's CARD OF 'inkhornlaw25.EdWords'. -/
def edWordsUptoCard : Claim7 := { stood := { row := edWordsUptoRow, standIns := [], harness := (true, "35105c47bdcf6b0fa6b79a06e8dc172e9a2b8d8117acddbaa88fabceefcc1cb9"), looks := true }, kinds := [], alts := [], laidByText := true, laidKinds := [.data, .data, .data, .data, .pinned], laidTests := true, laidLooks := .later }
def EdWordsUptoCardSaid : Prop := Claim7.holds Tryz.pinned (.plain (OpenSpec.upto edWordsSpec)) edWordsUptoCard

/-- THE SECOND FORM's CARD OF 'inkhornlaw25.EdNone'. -/
def edNoneUptoCard : Claim7 := { stood := { row := edNoneUptoRow, standIns := [], harness := (true, "35105c47bdcf6b0fa6b79a06e8dc172e9a2b8d8117acddbaa88fabceefcc1cb9"), looks := true }, kinds := [], alts := [], laidByText := true, laidKinds := [.data, .data, .data, .data, .pinned], laidTests := true, laidLooks := .later }
def EdNoneUptoCardSaid : Prop := Claim7.holds Tryz.pinned (.plain (OpenSpec.upto edNoneSpec)) edNoneUptoCard
end Rows
end Go.Proofs.YthabjdjbcfkjhaaGreatDoor
