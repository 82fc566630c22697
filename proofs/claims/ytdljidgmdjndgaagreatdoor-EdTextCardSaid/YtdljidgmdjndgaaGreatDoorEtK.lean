/- The closed facts of the row EdText, joined. -/
import Derived.Test.YtdljidgmdjndgaaGreatDoorEtJ
namespace Go.Proofs.YtdljidgmdjndgaaGreatDoor
open Go Go.Proofs Go.RowKit
set_option maxRecDepth 100000 in
theorem edText_closed : joinedFacts Tryz.pinned.checked.prog 3 Tryz.f3 (OpenSpec.ofChange Rows.edTextSpec).bare Rows.edTextRow = true := by
  simp only [joinedFacts, Bool.and_eq_true]
  repeat' apply And.intro
  all_goals first | with_reducible exact jn_inPlace | with_reducible exact jn_unf | with_reducible exact jn_rec | with_reducible exact jn_named | kernel_rfl
end Go.Proofs.YtdljidgmdjndgaaGreatDoor
