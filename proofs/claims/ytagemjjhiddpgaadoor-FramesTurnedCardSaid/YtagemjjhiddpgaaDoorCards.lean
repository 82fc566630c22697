/-
  DERIVED. GIVEN WITH THE SEED: THE CARDS: each row of YtagemjjhiddpgaaDoorRows.lean that lists a variable, with what it lists TIED to the program's text (the seventh form; the later family's looks); each row that meets fmt, with fmt's text TOLD by the authors' own Lean function (tested against real Go, not proved from fmt's source: count such statements apart). THE CARD IS WHAT COUNTS. Prove the row's statement (the work); the ties are given (YtagemjjhiddpgaaDoorTie.lean); close each card by the builder's one call (the guide's Derived/Test/ToyasCard.lean, 'card_holds'). Laid BY PROGRAM, IN A SANDBOX (cutbox-door.mjs). By AI agents, Wed Nov 11 2026. No macro, syntax, notation, axiom, sorry.
-/
import Derived.Test.YtagemjjhiddpgaaDoorRows
import GoSem.ClaimSeven
namespace Go.Proofs.YtagemjjhiddpgaaDoor
namespace Rows

/-- THE TIED CARD OF 'inkhornlaw04.FramesRebuild'. -/
def framesRebuildCard : Claim7 := { stood := { row := framesRebuildRow, standIns := [], harness := (true, "d9a89277659f4498e28383cd66f3b70693fc91782e7f6b66a17a277d3015f022"), looks := true }, kinds := [], alts := [], laidByText := true, laidKinds := [.data, .data, .data, .handle, .sentinel, .sentinel], laidTests := true, laidLooks := .later }
def FramesRebuildCardSaid : Prop := Claim7.holds Tryd.pinned (.plain (OpenSpec.ofChange framesRebuildSpec)) framesRebuildCard

/-- THE TIED CARD OF 'inkhornlaw04.FramesWalk'. -/
def framesWalkCard : Claim7 := { stood := { row := framesWalkRow, standIns := [], harness := (true, "d9a89277659f4498e28383cd66f3b70693fc91782e7f6b66a17a277d3015f022"), looks := true }, kinds := [], alts := [], laidByText := true, laidKinds := [.data, .data, .data, .handle, .sentinel, .sentinel], laidTests := true, laidLooks := .later }
def FramesWalkCardSaid : Prop := Claim7.holds Tryd.pinned (.plain (OpenSpec.ofChange framesWalkSpec)) framesWalkCard

/-- THE TIED CARD OF 'inkhornlaw04.FramesGrow'. -/
def framesGrowCard : Claim7 := { stood := { row := framesGrowRow, standIns := [], harness := (true, "d9a89277659f4498e28383cd66f3b70693fc91782e7f6b66a17a277d3015f022"), looks := true }, kinds := [], alts := [], laidByText := true, laidKinds := [.data, .data, .data, .handle, .sentinel, .sentinel], laidTests := true, laidLooks := .later }
def FramesGrowCardSaid : Prop := Claim7.holds Tryd.pinned (.plain (OpenSpec.ofChange framesGrowSpec)) framesGrowCard

/-- THE TIED CARD OF 'inkhornlaw04.FramesDrop'. -/
def framesDropCard : Claim7 := { stood := { row := framesDropRow, standIns := [], harness := (true, "d9a89277659f4498e28383cd66f3b70693fc91782e7f6b66a17a277d3015f022"), looks := true }, kinds := [], alts := [], laidByText := true, laidKinds := [.data, .data, .data, .handle, .sentinel, .sentinel], laidTests := true, laidLooks := .later }
def FramesDropCardSaid : Prop := Claim7.holds Tryd.pinned (.plain (OpenSpec.ofChange framesDropSpec)) framesDropCard

/-- THE TIED CARD OF 'inkhornlaw04.FramesLine'. -/
def framesLineCard : Claim7 := { stood := { row := framesLineRow, standIns := [], harness := (true, "d9a89277659f4498e28383cd66f3b70693fc91782e7f6b66a17a277d3015f022"), looks := true }, kinds := [], alts := [], laidByText := true, laidKinds := [.data, .data, .data, .handle, .sentinel, .sentinel], laidTests := true, laidLooks := .later }
def FramesLineCardSaid : Prop := Claim7.holds Tryd.pinned (.plain (OpenSpec.ofChange framesLineSpec)) framesLineCard

/-- THE TIED CARD OF 'inkhornlaw04.FramesLength'. -/
def framesLengthCard : Claim7 := { stood := { row := framesLengthRow, standIns := [], harness := (true, "d9a89277659f4498e28383cd66f3b70693fc91782e7f6b66a17a277d3015f022"), looks := true }, kinds := [], alts := [], laidByText := true, laidKinds := [.data, .data, .data, .handle, .sentinel, .sentinel], laidTests := true, laidLooks := .later }
def FramesLengthCardSaid : Prop := Claim7.holds Tryd.pinned (.plain (OpenSpec.ofChange framesLengthSpec)) framesLengthCard

/-- THE TIED CARD OF 'inkhornlaw04.FramesTurned'. -/
def framesTurnedCard : Claim7 := { stood := { row := framesTurnedRow, standIns := [], harness := (true, "d9a89277659f4498e28383cd66f3b70693fc91782e7f6b66a17a277d3015f022"), looks := true }, kinds := [], alts := [], laidByText := true, laidKinds := [.data, .data, .data, .handle, .sentinel, .sentinel], laidTests := true, laidLooks := .later }
def FramesTurnedCardSaid : Prop := Claim7.holds Tryd.pinned (.plain (OpenSpec.ofChange framesTurnedSpec)) framesTurnedCard

/-- THE SECOND FORM's CARD OF 'inkhornlaw04.FramesRebuild'. -/
def framesRebuildUptoCard : Claim7 := { stood := { row := framesRebuildUptoRow, standIns := [], harness := (true, "d9a89277659f4498e28383cd66f3b70693fc91782e7f6b66a17a277d3015f022"), looks := true }, kinds := [], alts := [], laidByText := true, laidKinds := [.data, .data, .data, .handle, .sentinel, .sentinel], laidTests := true, laidLooks := .later }
def FramesRebuildUptoCardSaid : Prop := Claim7.holds Tryd.pinned (.plain (OpenSpec.upto framesRebuildSpec)) framesRebuildUptoCard

/-- THE SECOND FORM's CARD OF 'inkhornlaw04.FramesWalk'. -/
def framesWalkUptoCard : Claim7 := { stood := { row := framesWalkUptoRow, standIns := [], harness := (true, "d9a89277659f4498e28383cd66f3b70693fc91782e7f6b66a17a277d3015f022"), looks := true }, kinds := [], alts := [], laidByText := true, laidKinds := [.data, .data, .data, .handle, .sentinel, .sentinel], laidTests := true, laidLooks := .later }
def FramesWalkUptoCardSaid : Prop := Claim7.holds Tryd.pinned (.plain (OpenSpec.upto framesWalkSpec)) framesWalkUptoCard

/-- THE SECOND FORM's CARD OF 'inkhornlaw04.FramesGrow'. -/
def framesGrowUptoCard : Claim7 := { stood := { row := framesGrowUptoRow, standIns := [], harness := (true, "d9a89277659f4498e28383cd66f3b70693fc91782e7f6b66a17a277d3015f022"), looks := true }, kinds := [], alts := [], laidByText := true, laidKinds := [.data, .data, .data, .handle, .sentinel, .sentinel], laidTests := true, laidLooks := .later }
def FramesGrowUptoCardSaid : Prop := Claim7.holds Tryd.pinned (.plain (OpenSpec.upto framesGrowSpec)) framesGrowUptoCard

/-- THE SECOND FORM's CARD OF 'inkhornlaw04.FramesDrop'. -/
def framesDropUptoCard : Claim7 := { stood := { row := framesDropUptoRow, standIns := [], harness := (true, "d9a89277659f4498e28383cd66f3b70693fc91782e7f6b66a17a277d3015f022"), looks := true }, kinds := [], alts := [], laidByText := true, laidKinds := [.data, .data, .data, .handle, .sentinel, .sentinel], laidTests := true, laidLooks := .later }
def FramesDropUptoCardSaid : Prop := Claim7.holds Tryd.pinned (.plain (OpenSpec.upto framesDropSpec)) framesDropUptoCard

/-- THE SECOND FORM's CARD OF 'inkhornlaw04.FramesLine'. -/
def framesLineUptoCard : Claim7 := { stood := { row := framesLineUptoRow, standIns := [], harness := (true, "d9a89277659f4498e28383cd66f3b70693fc91782e7f6b66a17a277d3015f022"), looks := true }, kinds := [], alts := [], laidByText := true, laidKinds := [.data, .data, .data, .handle, .sentinel, .sentinel], laidTests := true, laidLooks := .later }
def FramesLineUptoCardSaid : Prop := Claim7.holds Tryd.pinned (.plain (OpenSpec.upto framesLineSpec)) framesLineUptoCard

/-- THE SECOND FORM's CARD OF 'inkhornlaw04.FramesLength'. -/
def framesLengthUptoCard : Claim7 := { stood := { row := framesLengthUptoRow, standIns := [], harness := (true, "d9a89277659f4498e28383cd66f3b70693fc91782e7f6b66a17a277d3015f022"), looks := true }, kinds := [], alts := [], laidByText := true, laidKinds := [.data, .data, .data, .handle, .sentinel, .sentinel], laidTests := true, laidLooks := .later }
def FramesLengthUptoCardSaid : Prop := Claim7.holds Tryd.pinned (.plain (OpenSpec.upto framesLengthSpec)) framesLengthUptoCard

/-- THE SECOND FORM's CARD OF 'inkhornlaw04.FramesTurned'. -/
def framesTurnedUptoCard : Claim7 := { stood := { row := framesTurnedUptoRow, standIns := [], harness := (true, "d9a89277659f4498e28383cd66f3b70693fc91782e7f6b66a17a277d3015f022"), looks := true }, kinds := [], alts := [], laidByText := true, laidKinds := [.data, .data, .data, .handle, .sentinel, .sentinel], laidTests := true, laidLooks := .later }
def FramesTurnedUptoCardSaid : Prop := Claim7.holds Tryd.pinned (.plain (OpenSpec.upto framesTurnedSpec)) framesTurnedUptoCard
end Rows
end Go.Proofs.YtagemjjhiddpgaaDoor
