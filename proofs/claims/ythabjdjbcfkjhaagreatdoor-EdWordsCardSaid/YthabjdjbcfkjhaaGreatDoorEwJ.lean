/- The facts of the row EdWords that speak of all that the law reaches, each by itself (together they want more memory than a build has). -/
import Derived.Test.YthabjdjbcfkjhaaGreatDoorCards
import Derived.JoinedCond
import Derived.ProofKit
set_option linter.unusedVariables false
set_option linter.unusedSimpArgs false
namespace Go.Proofs.YthabjdjbcfkjhaaGreatDoor
open Go Go.Proofs Go.RowKit
set_option maxRecDepth 100000
theorem jf_inPlace : (Rows.edWordsRow.inPlace == Tryz.pinned.checked.prog.inPlace 3) = true := by kernel_rfl
theorem jf_unf : (Rows.edWordsRow.unfollowed == Tryz.pinned.checked.prog.unfollowed 3) = true := by kernel_rfl
theorem jf_rec : (Rows.edWordsRow.recurses == Tryz.pinned.checked.prog.recurses 3) = true := by kernel_rfl
theorem jf_named : (Rows.edWordsRow.named == Tryz.pinned.checked.prog.varsNamed 3) = true := by kernel_rfl
end Go.Proofs.YthabjdjbcfkjhaaGreatDoor
