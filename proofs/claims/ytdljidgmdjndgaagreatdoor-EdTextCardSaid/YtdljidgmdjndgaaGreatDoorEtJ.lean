/- The facts of the row EdText that speak of all that the law reaches, each by itself (together they want more memory than a build has). -/
import Derived.Test.YtdljidgmdjndgaaGreatDoorCards
import Derived.JoinedCond
import Derived.ProofKit
namespace Go.Proofs.YtdljidgmdjndgaaGreatDoor
open Go Go.Proofs Go.RowKit
set_option maxRecDepth 100000
theorem jn_inPlace : (Rows.edTextRow.inPlace == Tryz.pinned.checked.prog.inPlace 3) = true := by kernel_rfl
theorem jn_unf : (Rows.edTextRow.unfollowed == Tryz.pinned.checked.prog.unfollowed 3) = true := by kernel_rfl
theorem jn_rec : (Rows.edTextRow.recurses == Tryz.pinned.checked.prog.recurses 3) = true := by kernel_rfl
theorem jn_named : (Rows.edTextRow.named == Tryz.pinned.checked.prog.varsNamed 3) = true := by kernel_rfl
end Go.Proofs.YtdljidgmdjndgaaGreatDoor
