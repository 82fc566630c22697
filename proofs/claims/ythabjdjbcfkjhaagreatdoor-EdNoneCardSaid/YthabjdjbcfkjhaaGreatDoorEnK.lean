/- The closed facts of the row EdNone, joined. -/
import Derived.Test.YthabjdjbcfkjhaaGreatDoorEnJ
set_option linter.unusedVariables false
set_option linter.unusedSimpArgs false
namespace Go.Proofs.YthabjdjbcfkjhaaGreatDoor
open Go Go.Proofs Go.RowKit
set_option maxRecDepth 100000 in
theorem edNone_closed : joinedFacts Tryz.pinned.checked.prog 4 Tryz.f4 (OpenSpec.ofChange Rows.edNoneSpec).bare Rows.edNoneRow = true := by
  simp only [joinedFacts, Bool.and_eq_true]
  repeat' apply And.intro
  all_goals first | with_reducible exact jn_inPlace | with_reducible exact jn_unf | with_reducible exact jn_rec | with_reducible exact jn_named | kernel_rfl
end Go.Proofs.YthabjdjbcfkjhaaGreatDoor
