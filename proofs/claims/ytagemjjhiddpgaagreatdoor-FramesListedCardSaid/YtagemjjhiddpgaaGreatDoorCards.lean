/-
  DERIVED. GIVEN WITH THE SEED: THE CARDS: each row of YtagemjjhiddpgaaGreatDoorRows.lean that lists a variable, with what it lists TIED to the program's text (the seventh form; the later family's looks); each row that meets fmt, with fmt's text TOLD by the authors' own Lean function (tested against real Go, not proved from fmt's source: count such statements apart). THE CARD IS WHAT COUNTS. Prove the row's statement (the work); the ties are given (YtagemjjhiddpgaaGreatDoorTie.lean); close each card by the builder's one call (the guide's Derived/Test/ToyasCard.lean, 'card_holds'). Laid BY PROGRAM, IN A SANDBOX (cutbox-door.mjs). By AI agents, Wed Nov 11 2026. No macro, syntax, notation, axiom, sorry.
-/
import Derived.Test.YtagemjjhiddpgaaGreatDoorRows
import GoSem.ClaimSeven
namespace Go.Proofs.YtagemjjhiddpgaaGreatDoor
namespace Rows

/-- THE TIED CARD OF 'inkhornlaw04.FramesMade'. -/
def framesMadeCard : Claim7 := { stood := { row := framesMadeRow, standIns := [], harness := (true, "ad521c605e5c5c17078dcc4781f781915e11fdcb14cf512cc25176c651d46bfe"), looks := true }, kinds := [], alts := [], laidByText := true, laidKinds := [.data, .data, .data, .handle, .sentinel, .sentinel], laidTests := true, laidLooks := .later }
def FramesMadeCardSaid : Prop := Claim7.holds Tryz.pinned (.plain (OpenSpec.ofChange framesMadeSpec)) framesMadeCard

/-- THE TIED CARD OF 'inkhornlaw04.FramesListed'. -/
def framesListedCard : Claim7 := { stood := { row := framesListedRow, standIns := [], harness := (true, "ad521c605e5c5c17078dcc4781f781915e11fdcb14cf512cc25176c651d46bfe"), looks := true }, kinds := [], alts := [], laidByText := true, laidKinds := [.data, .data, .data, .handle, .sentinel, .sentinel], laidTests := true, laidLooks := .later }
def FramesListedCardSaid : Prop := Claim7.holds Tryz.pinned (.plain (OpenSpec.ofChange framesListedSpec)) framesListedCard

/-- THE SECOND FORM's CARD OF 'inkhornlaw04.FramesMade'. -/
def framesMadeUptoCard : Claim7 := { stood := { row := framesMadeUptoRow, standIns := [], harness := (true, "ad521c605e5c5c17078dcc4781f781915e11fdcb14cf512cc25176c651d46bfe"), looks := true }, kinds := [], alts := [], laidByText := true, laidKinds := [.data, .data, .data, .handle, .sentinel, .sentinel], laidTests := true, laidLooks := .later }
def FramesMadeUptoCardSaid : Prop := Claim7.holds Tryz.pinned (.plain (OpenSpec.upto framesMadeSpec)) framesMadeUptoCard

/-- THE SECOND FORM's CARD OF 'inkhornlaw04.FramesListed'. -/
def framesListedUptoCard : Claim7 := { stood := { row := framesListedUptoRow, standIns := [], harness := (true, "ad521c605e5c5c17078dcc4781f781915e11fdcb14cf512cc25176c651d46bfe"), looks := true }, kinds := [], alts := [], laidByText := true, laidKinds := [.data, .data, .data, .handle, .sentinel, .sentinel], laidTests := true, laidLooks := .later }
def FramesListedUptoCardSaid : Prop := Claim7.holds Tryz.pinned (.plain (OpenSpec.upto framesListedSpec)) framesListedUptoCard
end Rows
end Go.Proofs.YtagemjjhiddpgaaGreatDoor
