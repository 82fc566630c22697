/-
  DERIVED. GIVEN WITH THE SEED: THE CARDS: each row of YtgfcnafhfgncoaaDoorRows.lean that lists a variable, with what it lists TIED to the program's text (the seventh form; the later family's looks); each row that meets fmt, with fmt's text TOLD by the authors' own Lean function (tested against real Go, not proved from fmt's source: count such statements apart). THE CARD IS WHAT COUNTS. Prove the row's statement (the work); the ties are given (YtgfcnafhfgncoaaDoorTie.lean); close each card by the builder's one call (the guide's Derived/Test/ToyasCard.lean, 'card_holds'). Laid BY PROGRAM, IN A SANDBOX (cutbox-door.mjs). By AI agents, Wed Nov 11 2026. No macro, syntax, notation, axiom, sorry.
-/
import Derived.Test.YtgfcnafhfgncoaaDoorRows
import GoSem.ClaimSeven
namespace Go.Proofs.YtgfcnafhfgncoaaDoor
namespace Rows

/-- THE TIED CARD OF 'inkhornlaw13.VtFeed'. -/
def vtFeedCard : Claim7 := { stood := { row := vtFeedRow, standIns := [], harness := (true, "c052bbef51e83329c8b944dcd9308ed4196c7b3526c74970c54cb1ecbf6c5b33"), looks := true }, kinds := [], alts := [], laidByText := true, laidKinds := [.data, .data, .data, .data, .sentinel, .sentinel, .pinned], laidTests := true, laidLooks := .later }
def VtFeedCardSaid : Prop := Claim7.holds Tryd.pinned (.plain (OpenSpec.ofChange vtFeedSpec)) vtFeedCard

/-- THE TIED CARD OF 'inkhornlaw13.VtNone'. -/
def vtNoneCard : Claim7 := { stood := { row := vtNoneRow, standIns := [], harness := (true, "c052bbef51e83329c8b944dcd9308ed4196c7b3526c74970c54cb1ecbf6c5b33"), looks := true }, kinds := [], alts := [], laidByText := true, laidKinds := [.data, .data, .data, .data, .sentinel, .sentinel, .pinned], laidTests := true, laidLooks := .later }
def VtNoneCardSaid : Prop := Claim7.holds Tryd.pinned (.plain (OpenSpec.ofChange vtNoneSpec)) vtNoneCard

/-- THE TIED CARD OF 'inkhornlaw13.VtCut'. -/
def vtCutCard : Claim7 := { stood := { row := vtCutRow, standIns := [], harness := (true, "c052bbef51e83329c8b944dcd9308ed4196c7b3526c74970c54cb1ecbf6c5b33"), looks := true }, kinds := [], alts := [], laidByText := true, laidKinds := [.data, .data, .data, .data, .sentinel, .sentinel, .pinned], laidTests := true, laidLooks := .later }
def VtCutCardSaid : Prop := Claim7.holds Tryd.pinned (.plain (OpenSpec.ofChange vtCutSpec)) vtCutCard

/-- THE TIED CARD OF 'inkhornlaw13.VtErase'. -/
def vtEraseCard : Claim7 := { stood := { row := vtEraseRow, standIns := [], harness := (true, "c052bbef51e83329c8b944dcd9308ed4196c7b3526c74970c54cb1ecbf6c5b33"), looks := true }, kinds := [], alts := [], laidByText := true, laidKinds := [.data, .data, .data, .data, .sentinel, .sentinel, .pinned], laidTests := true, laidLooks := .later }
def VtEraseCardSaid : Prop := Claim7.holds Tryd.pinned (.plain (OpenSpec.ofChange vtEraseSpec)) vtEraseCard

/-- THE TIED CARD OF 'inkhornlaw13.VtScroll'. -/
def vtScrollCard : Claim7 := { stood := { row := vtScrollRow, standIns := [], harness := (true, "c052bbef51e83329c8b944dcd9308ed4196c7b3526c74970c54cb1ecbf6c5b33"), looks := true }, kinds := [], alts := [], laidByText := true, laidKinds := [.data, .data, .data, .data, .sentinel, .sentinel, .pinned], laidTests := true, laidLooks := .later }
def VtScrollCardSaid : Prop := Claim7.holds Tryd.pinned (.plain (OpenSpec.ofChange vtScrollSpec)) vtScrollCard

/-- THE TIED CARD OF 'inkhornlaw13.VtOdd'. -/
def vtOddCard : Claim7 := { stood := { row := vtOddRow, standIns := [], harness := (true, "c052bbef51e83329c8b944dcd9308ed4196c7b3526c74970c54cb1ecbf6c5b33"), looks := true }, kinds := [], alts := [], laidByText := true, laidKinds := [.data, .data, .data, .data, .sentinel, .sentinel, .pinned], laidTests := true, laidLooks := .later }
def VtOddCardSaid : Prop := Claim7.holds Tryd.pinned (.plain (OpenSpec.ofChange vtOddSpec)) vtOddCard

/-- THE TIED CARD OF 'inkhornlaw13.VtPlace'. -/
def vtPlaceCard : Claim7 := { stood := { row := vtPlaceRow, standIns := [], harness := (true, "c052bbef51e83329c8b944dcd9308ed4196c7b3526c74970c54cb1ecbf6c5b33"), looks := true }, kinds := [], alts := [], laidByText := true, laidKinds := [.data, .data, .data, .data, .sentinel, .sentinel, .pinned], laidTests := true, laidLooks := .later }
def VtPlaceCardSaid : Prop := Claim7.holds Tryd.pinned (.plain (OpenSpec.ofChange vtPlaceSpec)) vtPlaceCard

/-- THE SECOND FORM's CARD OF 'inkhornlaw13.VtFeed'. -/
def vtFeedUptoCard : Claim7 := { stood := { row := vtFeedUptoRow, standIns := [], harness := (true, "c052bbef51e83329c8b944dcd9308ed4196c7b3526c74970c54cb1ecbf6c5b33"), looks := true }, kinds := [], alts := [], laidByText := true, laidKinds := [.data, .data, .data, .data, .sentinel, .sentinel, .pinned], laidTests := true, laidLooks := .later }
def VtFeedUptoCardSaid : Prop := Claim7.holds Tryd.pinned (.plain (OpenSpec.upto vtFeedSpec)) vtFeedUptoCard

/-- THE SECOND FORM's CARD OF 'inkhornlaw13.VtNone'. -/
def vtNoneUptoCard : Claim7 := { stood := { row := vtNoneUptoRow, standIns := [], harness := (true, "c052bbef51e83329c8b944dcd9308ed4196c7b3526c74970c54cb1ecbf6c5b33"), looks := true }, kinds := [], alts := [], laidByText := true, laidKinds := [.data, .data, .data, .data, .sentinel, .sentinel, .pinned], laidTests := true, laidLooks := .later }
def VtNoneUptoCardSaid : Prop := Claim7.holds Tryd.pinned (.plain (OpenSpec.upto vtNoneSpec)) vtNoneUptoCard

/-- THE SECOND FORM's CARD OF 'inkhornlaw13.VtCut'. -/
def vtCutUptoCard : Claim7 := { stood := { row := vtCutUptoRow, standIns := [], harness := (true, "c052bbef51e83329c8b944dcd9308ed4196c7b3526c74970c54cb1ecbf6c5b33"), looks := true }, kinds := [], alts := [], laidByText := true, laidKinds := [.data, .data, .data, .data, .sentinel, .sentinel, .pinned], laidTests := true, laidLooks := .later }
def VtCutUptoCardSaid : Prop := Claim7.holds Tryd.pinned (.plain (OpenSpec.upto vtCutSpec)) vtCutUptoCard

/-- THE SECOND FORM's CARD OF 'inkhornlaw13.VtErase'. -/
def vtEraseUptoCard : Claim7 := { stood := { row := vtEraseUptoRow, standIns := [], harness := (true, "c052bbef51e83329c8b944dcd9308ed4196c7b3526c74970c54cb1ecbf6c5b33"), looks := true }, kinds := [], alts := [], laidByText := true, laidKinds := [.data, .data, .data, .data, .sentinel, .sentinel, .pinned], laidTests := true, laidLooks := .later }
def VtEraseUptoCardSaid : Prop := Claim7.holds Tryd.pinned (.plain (OpenSpec.upto vtEraseSpec)) vtEraseUptoCard

/-- THE SECOND FORM's CARD OF 'inkhornlaw13.VtScroll'. -/
def vtScrollUptoCard : Claim7 := { stood := { row := vtScrollUptoRow, standIns := [], harness := (true, "c052bbef51e83329c8b944dcd9308ed4196c7b3526c74970c54cb1ecbf6c5b33"), looks := true }, kinds := [], alts := [], laidByText := true, laidKinds := [.data, .data, .data, .data, .sentinel, .sentinel, .pinned], laidTests := true, laidLooks := .later }
def VtScrollUptoCardSaid : Prop := Claim7.holds Tryd.pinned (.plain (OpenSpec.upto vtScrollSpec)) vtScrollUptoCard

/-- THE SECOND FORM's CARD OF 'inkhornlaw13.VtOdd'. -/
def vtOddUptoCard : Claim7 := { stood := { row := vtOddUptoRow, standIns := [], harness := (true, "c052bbef51e83329c8b944dcd9308ed4196c7b3526c74970c54cb1ecbf6c5b33"), looks := true }, kinds := [], alts := [], laidByText := true, laidKinds := [.data, .data, .data, .data, .sentinel, .sentinel, .pinned], laidTests := true, laidLooks := .later }
def VtOddUptoCardSaid : Prop := Claim7.holds Tryd.pinned (.plain (OpenSpec.upto vtOddSpec)) vtOddUptoCard

/-- THE SECOND FORM's CARD OF 'inkhornlaw13.VtPlace'. -/
def vtPlaceUptoCard : Claim7 := { stood := { row := vtPlaceUptoRow, standIns := [], harness := (true, "c052bbef51e83329c8b944dcd9308ed4196c7b3526c74970c54cb1ecbf6c5b33"), looks := true }, kinds := [], alts := [], laidByText := true, laidKinds := [.data, .data, .data, .data, .sentinel, .sentinel, .pinned], laidTests := true, laidLooks := .later }
def VtPlaceUptoCardSaid : Prop := Claim7.holds Tryd.pinned (.plain (OpenSpec.upto vtPlaceSpec)) vtPlaceUptoCard
end Rows
end Go.Proofs.YtgfcnafhfgncoaaDoor
