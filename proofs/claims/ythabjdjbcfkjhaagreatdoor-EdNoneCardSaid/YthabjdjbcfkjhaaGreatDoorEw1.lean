/- The walks of ed.Message and the reference's Message at an error that is none of those that have words (chapter 25). -/
import Derived.Test.YthabjdjbcfkjhaaGreatDoorBase
import Derived.Test.YthabjdjbcfkjhaaGreatDoorProg
import Derived.WalkSmall
set_option linter.unusedVariables false
set_option linter.unusedSimpArgs false
namespace Go.Proofs.YthabjdjbcfkjhaaGreatDoor
open Go Go.Proofs Go.RowKit Go.Ink

def errsL : List Int := [3, 4, 50, 51, 90, 100, 110, 203, 200, 201, 202, 212, 210, 211, 230, 220, 190, 170, 240, 241]
def errorB : Array UInt8 := #[101, 114, 114, 111, 114]
theorem msg_else (e : Int) (he : e ∉ errsL) (w : World) :
    Calls Tryz.prog 5 #[.int .i64 e] w fun r w' => r = .returned (.string ⟨errorB⟩) ∧ w' = w := by
  simp only [errsL, List.mem_cons, List.not_mem_nil, or_false, not_or] at he
  obtain ⟨h3, h4, h50, h51, h90, h100, h110, h203, h200, h201, h202, h212, h210, h211, h230, h220, h190, h170, h240, h241⟩ := he
  go_enter Tryz.func5, Tryz.ntmps5
  go_wp2_with fail
  go_returns
  exact ⟨rfl, rfl⟩
end Go.Proofs.YthabjdjbcfkjhaaGreatDoor
