/-
  DERIVED. GIVEN WITH THE SEED: THE CARDS: each row of YtcgaaadcbhkfoaaDoorRows.lean that lists a variable, with what it lists TIED to the program's text (the seventh form; the later family's looks); each row that meets fmt, with fmt's text TOLD by the authors' own Lean function (tested against real Go, not proved from fmt's source: count such statements apart). THE CARD IS WHAT COUNTS. Prove the row's statement (the work); the ties are given (YtcgaaadcbhkfoaaDoorTie.lean); close each card by the builder's one call (the guide's Derived/Test/ToyasCard.lean, 'card_holds'). Laid BY PROGRAM, IN A SANDBOX (cutbox-door.mjs). By AI agents, Wed Nov 11 2026. No macro, syntax, notation, axiom, sorry.
-/
import Derived.Test.YtcgaaadcbhkfoaaDoorRows
import GoSem.ClaimSeven
namespace Go.Proofs.YtcgaaadcbhkfoaaDoor
namespace Rows

/-- THE TIED CARD OF 'inkhornlaw30.PaintShort'. -/
def paintShortCard : Claim7 := { stood := { row := paintShortRow, standIns := [], harness := (true, "3ba5585113fc693ec8e6fdd0d32d6207a840ac71f407b9a02eb7ca67ba3ed1a8"), looks := false }, kinds := [], alts := [], laidByText := true, laidKinds := [.data, .data, .data], laidTests := true, laidLooks := .later }
def PaintShortCardSaid : Prop := Claim7.holds Tryd.pinned (.plain (OpenSpec.ofChange paintShortSpec)) paintShortCard

/-- THE TIED CARD OF 'inkhornlaw30.PaintTells'. -/
def paintTellsCard : Claim7 := { stood := { row := paintTellsRow, standIns := [], harness := (true, "3ba5585113fc693ec8e6fdd0d32d6207a840ac71f407b9a02eb7ca67ba3ed1a8"), looks := false }, kinds := [], alts := [], laidByText := true, laidKinds := [.data, .data, .data], laidTests := true, laidLooks := .later }
def PaintTellsCardSaid : Prop := Claim7.holds Tryd.pinned (.plain (OpenSpec.ofChange paintTellsSpec)) paintTellsCard

/-- THE SECOND FORM's CARD OF 'inkhornlaw30.PaintShort'. -/
def paintShortUptoCard : Claim7 := { stood := { row := paintShortUptoRow, standIns := [], harness := (true, "3ba5585113fc693ec8e6fdd0d32d6207a840ac71f407b9a02eb7ca67ba3ed1a8"), looks := false }, kinds := [], alts := [], laidByText := true, laidKinds := [.data, .data, .data], laidTests := true, laidLooks := .later }
def PaintShortUptoCardSaid : Prop := Claim7.holds Tryd.pinned (.plain (OpenSpec.upto paintShortSpec)) paintShortUptoCard

/-- THE SECOND FORM's CARD OF 'inkhornlaw30.PaintTells'. -/
def paintTellsUptoCard : Claim7 := { stood := { row := paintTellsUptoRow, standIns := [], harness := (true, "3ba5585113fc693ec8e6fdd0d32d6207a840ac71f407b9a02eb7ca67ba3ed1a8"), looks := false }, kinds := [], alts := [], laidByText := true, laidKinds := [.data, .data, .data], laidTests := true, laidLooks := .later }
def PaintTellsUptoCardSaid : Prop := Claim7.holds Tryd.pinned (.plain (OpenSpec.upto paintTellsSpec)) paintTellsUptoCard
end Rows
end Go.Proofs.YtcgaaadcbhkfoaaDoor
