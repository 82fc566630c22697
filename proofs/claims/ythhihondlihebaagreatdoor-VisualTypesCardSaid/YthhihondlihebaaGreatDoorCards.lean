/-
  DERIVED. GIVEN WITH THE SEED: THE CARDS: each row of YthhihondlihebaaGreatDoorRows.lean that lists a variable, with what it lists TIED to the program's text (the seventh form; the later family's looks); each row that meets fmt, with fmt's text TOLD by the authors' own Lean function (tested against real Go, not proved from fmt's source: count such statements apart). THE CARD IS WHAT COUNTS. Prove the row's statement (the work); the ties are given (YthhihondlihebaaGreatDoorTie.lean); close each card by the builder's one call (the guide's Derived/Test/ToyasCard.lean, 'card_holds'). Laid BY PROGRAM, IN A SANDBOX (cutbox-door.mjs). By AI agents, Wed Nov 11 2026. No macro, syntax, notation, axiom, sorry.
-/
import Derived.Test.YthhihondlihebaaGreatDoorRows
import GoSem.ClaimSeven
namespace Go.Proofs.YthhihondlihebaaGreatDoor
namespace Rows

/-- THE TIED CARD OF 'inkhornlaw28.VisualUndo'. -/
def visualUndoCard : Claim7 := { stood := { row := visualUndoRow, standIns := [], harness := (true, "1000670200b4777cc573986654f690bec04cd30631f7bfa544294e0e6f599431"), looks := true }, kinds := [], alts := [], laidByText := true, laidKinds := [.data, .data, .pinned], laidTests := true, laidLooks := .later }
def VisualUndoCardSaid : Prop := Claim7.holds Tryz.pinned (.plain (OpenSpec.ofChange visualUndoSpec)) visualUndoCard

/-- THE TIED CARD OF 'inkhornlaw28.VisualTypes'. -/
def visualTypesCard : Claim7 := { stood := { row := visualTypesRow, standIns := [], harness := (true, "1000670200b4777cc573986654f690bec04cd30631f7bfa544294e0e6f599431"), looks := true }, kinds := [], alts := [], laidByText := true, laidKinds := [.data, .data, .pinned], laidTests := true, laidLooks := .later }
def VisualTypesCardSaid : Prop := Claim7.holds Tryz.pinned (.plain (OpenSpec.ofChange visualTypesSpec)) visualTypesCard

/-- THE TIED CARD OF 'inkhornlaw28.VisualThere'. -/
def visualThereCard : Claim7 := { stood := { row := visualThereRow, standIns := [], harness := (true, "1000670200b4777cc573986654f690bec04cd30631f7bfa544294e0e6f599431"), looks := true }, kinds := [], alts := [], laidByText := true, laidKinds := [.data, .data, .pinned], laidTests := true, laidLooks := .later }
def VisualThereCardSaid : Prop := Claim7.holds Tryz.pinned (.plain (OpenSpec.ofChange visualThereSpec)) visualThereCard

/-- THE SECOND FORM's CARD OF 'inkhornlaw28.VisualUndo'. -/
def visualUndoUptoCard : Claim7 := { stood := { row := visualUndoUptoRow, standIns := [], harness := (true, "1000670200b4777cc573986654f690bec04cd30631f7bfa544294e0e6f599431"), looks := true }, kinds := [], alts := [], laidByText := true, laidKinds := [.data, .data, .pinned], laidTests := true, laidLooks := .later }
def VisualUndoUptoCardSaid : Prop := Claim7.holds Tryz.pinned (.plain (OpenSpec.upto visualUndoSpec)) visualUndoUptoCard

/-- THE SECOND FORM's CARD OF 'inkhornlaw28.VisualTypes'. -/
def visualTypesUptoCard : Claim7 := { stood := { row := visualTypesUptoRow, standIns := [], harness := (true, "1000670200b4777cc573986654f690bec04cd30631f7bfa544294e0e6f599431"), looks := true }, kinds := [], alts := [], laidByText := true, laidKinds := [.data, .data, .pinned], laidTests := true, laidLooks := .later }
def VisualTypesUptoCardSaid : Prop := Claim7.holds Tryz.pinned (.plain (OpenSpec.upto visualTypesSpec)) visualTypesUptoCard

/-- THE SECOND FORM's CARD OF 'inkhornlaw28.VisualThere'. -/
def visualThereUptoCard : Claim7 := { stood := { row := visualThereUptoRow, standIns := [], harness := (true, "1000670200b4777cc573986654f690bec04cd30631f7bfa544294e0e6f599431"), looks := true }, kinds := [], alts := [], laidByText := true, laidKinds := [.data, .data, .pinned], laidTests := true, laidLooks := .later }
def VisualThereUptoCardSaid : Prop := Claim7.holds Tryz.pinned (.plain (OpenSpec.upto visualThereSpec)) visualThereUptoCard
end Rows
end Go.Proofs.YthhihondlihebaaGreatDoor
