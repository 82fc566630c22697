/- The closed facts of the row EdWords, joined. -/
import Derived.Test.YthabjdjbcfkjhaaGreatDoorEwJ
set_option linter.unusedVariables false
set_option linter.unusedSimpArgs false
namespace Go.Proofs.YthabjdjbcfkjhaaGreatDoor
open Go Go.Proofs Go.RowKit
set_option maxRecDepth 100000 in
theorem edWords_closed : joinedFacts Tryz.pinned.checked.prog 3 Tryz.f3 (OpenSpec.ofChange Rows.edWordsSpec).bare Rows.edWordsRow = true := by
  simp only [joinedFacts, Bool.and_eq_true]
  repeat' apply And.intro
  all_goals first | with_reducible exact jf_inPlace | with_reducible exact jf_unf | with_reducible exact jf_rec | with_reducible exact jf_named | kernel_rfl
end Go.Proofs.YthabjdjbcfkjhaaGreatDoor
