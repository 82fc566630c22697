/- The facts of the row EdNone that speak of all that the law reaches, each by itself (together they want more memory than a build has). -/
import Derived.Test.YthabjdjbcfkjhaaGreatDoorCards
import Derived.JoinedCond
import Derived.ProofKit
set_option linter.unusedVariables false
set_option linter.unusedSimpArgs false
namespace Go.Proofs.YthabjdjbcfkjhaaGreatDoor
open Go Go.Proofs Go.RowKit
set_option maxRecDepth 100000
theorem jn_inPlace : (Rows.edNoneRow.inPlace == Tryz.pinned.checked.prog.inPlace 4) = true := by kernel_rfl
theorem jn_unf : (Rows.edNoneRow.unfollowed == Tryz.pinned.checked.prog.unfollowed 4) = true := by kernel_rfl
theorem jn_rec : (Rows.edNoneRow.recurses == Tryz.pinned.checked.prog.recurses 4) = true := by kernel_rfl
theorem jn_named : (Rows.edNoneRow.named == Tryz.pinned.checked.prog.varsNamed 4) = true := by kernel_rfl
end Go.Proofs.YthabjdjbcfkjhaaGreatDoor
