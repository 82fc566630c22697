/-
  DERIVED. GIVEN WITH THE SEED: THE CARDS: each row of YtnjbnncmpdpkfaaDoorRows.lean that lists a variable, with what it lists TIED to the program's text (the seventh form; the later family's looks); each row that meets fmt, with fmt's text TOLD by the authors' own Lean function (tested against real Go, not proved from fmt's source: count such statements apart). THE CARD IS WHAT COUNTS. Prove the row's statement (the work); the ties are given (YtnjbnncmpdpkfaaDoorTie.lean); close each card by the builder's one call (the guide's Derived/Test/ToyasCard.lean, 'card_holds'). Laid BY PROGRAM, IN A SANDBOX (cutbox-door.mjs). By AI agents, Wed Nov 11 2026. No macro, syntax, notation, axiom, sorry.
-/
import Derived.Test.YtnjbnncmpdpkfaaDoorRows
import GoSem.ClaimSeven
namespace Go.Proofs.YtnjbnncmpdpkfaaDoor
namespace Rows

/-- THE TIED CARD OF 'inkhornlaw02.NumsPut'. -/
def numsPutCard : Claim7 := { stood := { row := numsPutRow, standIns := [], harness := (true, "0c46c859957ac3036bdfa64a2ae4b4021300688d51823c05a81b0fe67e4cac6b"), looks := true }, kinds := [], alts := [], laidByText := true, laidKinds := [.data, .data, .data, .sentinel, .sentinel], laidTests := true, laidLooks := .later }
def NumsPutCardSaid : Prop := Claim7.holds Tryd.pinned (.plain (OpenSpec.ofChange numsPutSpec)) numsPutCard

/-- THE TIED CARD OF 'inkhornlaw02.NumsGet'. -/
def numsGetCard : Claim7 := { stood := { row := numsGetRow, standIns := [], harness := (true, "0c46c859957ac3036bdfa64a2ae4b4021300688d51823c05a81b0fe67e4cac6b"), looks := true }, kinds := [], alts := [], laidByText := true, laidKinds := [.data, .data, .data, .sentinel, .sentinel], laidTests := true, laidLooks := .later }
def NumsGetCardSaid : Prop := Claim7.holds Tryd.pinned (.plain (OpenSpec.ofChange numsGetSpec)) numsGetCard

/-- THE TIED CARD OF 'inkhornlaw02.NumsList'. -/
def numsListCard : Claim7 := { stood := { row := numsListRow, standIns := [], harness := (true, "0c46c859957ac3036bdfa64a2ae4b4021300688d51823c05a81b0fe67e4cac6b"), looks := true }, kinds := [], alts := [], laidByText := true, laidKinds := [.data, .data, .data, .sentinel, .sentinel], laidTests := true, laidLooks := .later }
def NumsListCardSaid : Prop := Claim7.holds Tryd.pinned (.plain (OpenSpec.ofChange numsListSpec)) numsListCard

/-- THE TIED CARD OF 'inkhornlaw02.NumsBack'. -/
def numsBackCard : Claim7 := { stood := { row := numsBackRow, standIns := [], harness := (true, "0c46c859957ac3036bdfa64a2ae4b4021300688d51823c05a81b0fe67e4cac6b"), looks := true }, kinds := [], alts := [], laidByText := true, laidKinds := [.data, .data, .data, .sentinel, .sentinel], laidTests := true, laidLooks := .later }
def NumsBackCardSaid : Prop := Claim7.holds Tryd.pinned (.plain (OpenSpec.ofChange numsBackSpec)) numsBackCard

/-- THE TIED CARD OF 'inkhornlaw02.NumsWay'. -/
def numsWayCard : Claim7 := { stood := { row := numsWayRow, standIns := [], harness := (true, "0c46c859957ac3036bdfa64a2ae4b4021300688d51823c05a81b0fe67e4cac6b"), looks := true }, kinds := [], alts := [], laidByText := true, laidKinds := [.data, .data, .data, .sentinel, .sentinel], laidTests := true, laidLooks := .later }
def NumsWayCardSaid : Prop := Claim7.holds Tryd.pinned (.plain (OpenSpec.ofChange numsWaySpec)) numsWayCard

/-- THE TIED CARD OF 'inkhornlaw02.NumsCut'. -/
def numsCutCard : Claim7 := { stood := { row := numsCutRow, standIns := [], harness := (true, "0c46c859957ac3036bdfa64a2ae4b4021300688d51823c05a81b0fe67e4cac6b"), looks := true }, kinds := [], alts := [], laidByText := true, laidKinds := [.data, .data, .data, .sentinel, .sentinel], laidTests := true, laidLooks := .later }
def NumsCutCardSaid : Prop := Claim7.holds Tryd.pinned (.plain (OpenSpec.ofChange numsCutSpec)) numsCutCard

/-- THE TIED CARD OF 'inkhornlaw02.NumsApart'. -/
def numsApartCard : Claim7 := { stood := { row := numsApartRow, standIns := [], harness := (true, "0c46c859957ac3036bdfa64a2ae4b4021300688d51823c05a81b0fe67e4cac6b"), looks := true }, kinds := [], alts := [], laidByText := true, laidKinds := [.data, .data, .data, .sentinel, .sentinel], laidTests := true, laidLooks := .later }
def NumsApartCardSaid : Prop := Claim7.holds Tryd.pinned (.plain (OpenSpec.ofChange numsApartSpec)) numsApartCard

/-- THE SECOND FORM's CARD OF 'inkhornlaw02.NumsPut'. -/
def numsPutUptoCard : Claim7 := { stood := { row := numsPutUptoRow, standIns := [], harness := (true, "0c46c859957ac3036bdfa64a2ae4b4021300688d51823c05a81b0fe67e4cac6b"), looks := true }, kinds := [], alts := [], laidByText := true, laidKinds := [.data, .data, .data, .sentinel, .sentinel], laidTests := true, laidLooks := .later }
def NumsPutUptoCardSaid : Prop := Claim7.holds Tryd.pinned (.plain (OpenSpec.upto numsPutSpec)) numsPutUptoCard

/-- THE SECOND FORM's CARD OF 'inkhornlaw02.NumsGet'. -/
def numsGetUptoCard : Claim7 := { stood := { row := numsGetUptoRow, standIns := [], harness := (true, "0c46c859957ac3036bdfa64a2ae4b4021300688d51823c05a81b0fe67e4cac6b"), looks := true }, kinds := [], alts := [], laidByText := true, laidKinds := [.data, .data, .data, .sentinel, .sentinel], laidTests := true, laidLooks := .later }
def NumsGetUptoCardSaid : Prop := Claim7.holds Tryd.pinned (.plain (OpenSpec.upto numsGetSpec)) numsGetUptoCard

/-- THE SECOND FORM's CARD OF 'inkhornlaw02.NumsList'. -/
def numsListUptoCard : Claim7 := { stood := { row := numsListUptoRow, standIns := [], harness := (true, "0c46c859957ac3036bdfa64a2ae4b4021300688d51823c05a81b0fe67e4cac6b"), looks := true }, kinds := [], alts := [], laidByText := true, laidKinds := [.data, .data, .data, .sentinel, .sentinel], laidTests := true, laidLooks := .later }
def NumsListUptoCardSaid : Prop := Claim7.holds Tryd.pinned (.plain (OpenSpec.upto numsListSpec)) numsListUptoCard

/-- THE SECOND FORM's CARD OF 'inkhornlaw02.NumsBack'. -/
def numsBackUptoCard : Claim7 := { stood := { row := numsBackUptoRow, standIns := [], harness := (true, "0c46c859957ac3036bdfa64a2ae4b4021300688d51823c05a81b0fe67e4cac6b"), looks := true }, kinds := [], alts := [], laidByText := true, laidKinds := [.data, .data, .data, .sentinel, .sentinel], laidTests := true, laidLooks := .later }
def NumsBackUptoCardSaid : Prop := Claim7.holds Tryd.pinned (.plain (OpenSpec.upto numsBackSpec)) numsBackUptoCard

/-- THE SECOND FORM's CARD OF 'inkhornlaw02.NumsWay'. -/
def numsWayUptoCard : Claim7 := { stood := { row := numsWayUptoRow, standIns := [], harness := (true, "0c46c859957ac3036bdfa64a2ae4b4021300688d51823c05a81b0fe67e4cac6b"), looks := true }, kinds := [], alts := [], laidByText := true, laidKinds := [.data, .data, .data, .sentinel, .sentinel], laidTests := true, laidLooks := .later }
def NumsWayUptoCardSaid : Prop := Claim7.holds Tryd.pinned (.plain (OpenSpec.upto numsWaySpec)) numsWayUptoCard

/-- THE SECOND FORM's CARD OF 'inkhornlaw02.NumsCut'. -/
def numsCutUptoCard : Claim7 := { stood := { row := numsCutUptoRow, standIns := [], harness := (true, "0c46c859957ac3036bdfa64a2ae4b4021300688d51823c05a81b0fe67e4cac6b"), looks := true }, kinds := [], alts := [], laidByText := true, laidKinds := [.data, .data, .data, .sentinel, .sentinel], laidTests := true, laidLooks := .later }
def NumsCutUptoCardSaid : Prop := Claim7.holds Tryd.pinned (.plain (OpenSpec.upto numsCutSpec)) numsCutUptoCard

/-- THE SECOND FORM's CARD OF 'inkhornlaw02.NumsApart'. -/
def numsApartUptoCard : Claim7 := { stood := { row := numsApartUptoRow, standIns := [], harness := (true, "0c46c859957ac3036bdfa64a2ae4b4021300688d51823c05a81b0fe67e4cac6b"), looks := true }, kinds := [], alts := [], laidByText := true, laidKinds := [.data, .data, .data, .sentinel, .sentinel], laidTests := true, laidLooks := .later }
def NumsApartUptoCardSaid : Prop := Claim7.holds Tryd.pinned (.plain (OpenSpec.upto numsApartSpec)) numsApartUptoCard
end Rows
end Go.Proofs.YtnjbnncmpdpkfaaDoor
