/- The facts of the row RunsNone that speak of all that the law reaches, each by itself (together they want more memory than a build has). -/
import Derived.Test.YtndjgbehbgcpkaaGreatDoorCards
import Derived.JoinedCond
import Derived.ProofKit
set_option linter.unusedVariables false
set_option linter.unusedSimpArgs false
namespace Go.Proofs.YtndjgbehbgcpkaaGreatDoor
open Go Go.Proofs Go.RowKit
set_option maxRecDepth 100000
theorem jn_inPlace:(Rows.runsNoneRow.inPlace==Tryz.pinned.checked.prog.inPlace 3)=true:=by kernel_rfl
theorem jn_unf:(Rows.runsNoneRow.unfollowed==Tryz.pinned.checked.prog.unfollowed 3)=true:=by kernel_rfl
theorem jn_rec:(Rows.runsNoneRow.recurses==Tryz.pinned.checked.prog.recurses 3)=true:=by kernel_rfl
theorem jn_named:(Rows.runsNoneRow.named==Tryz.pinned.checked.prog.varsNamed 3)=true:=by kernel_rfl
end Go.Proofs.YtndjgbehbgcpkaaGreatDoor
