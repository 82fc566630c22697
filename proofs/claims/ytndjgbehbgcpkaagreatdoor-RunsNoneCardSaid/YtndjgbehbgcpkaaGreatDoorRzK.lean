/- The closed facts of the row RunsNone, joined. -/
import Derived.Test.YtndjgbehbgcpkaaGreatDoorRzJ
set_option linter.unusedVariables false
set_option linter.unusedSimpArgs false
set_option maxRecDepth 100000
namespace Go.Proofs.YtndjgbehbgcpkaaGreatDoor
open Go Go.Proofs Go.RowKit
theorem runsNone_closed:joinedFacts Tryz.pinned.checked.prog 3 Tryz.f3 (OpenSpec.ofChange Rows.runsNoneSpec).bare Rows.runsNoneRow=true:=by
 simp only [joinedFacts,Bool.and_eq_true]
 repeat' apply And.intro
 all_goals first | with_reducible exact jn_inPlace | with_reducible exact jn_unf | with_reducible exact jn_rec | with_reducible exact jn_named | kernel_rfl
end Go.Proofs.YtndjgbehbgcpkaaGreatDoor
