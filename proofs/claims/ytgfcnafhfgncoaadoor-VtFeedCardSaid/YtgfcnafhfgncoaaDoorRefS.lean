/- The walk of the reference's Sized. -/
import Derived.Test.YtgfcnafhfgncoaaDoorGrid2
namespace Go.Proofs.YtgfcnafhfgncoaaDoor
open Go Go.Proofs Go.RowKit Go.Ink

set_option maxHeartbeats 400000 in
theorem refSized_any (m n : Int) (w : World) :
    Calls Tryd.prog 42 #[.int .i64 m, .int .i64 n] w fun e w' => e = .returned (.bool (sizedB m n)) ∧ w = w' := by
  have hw : sizedB m n = (decide (2 ≤ m) && decide (m ≤ 60) && decide (8 ≤ n) && decide (n ≤ 132)) := rfl
  generalize sizedB m n = r at *
  have HW := Lib.hid hw; clear hw
  go_each [2 ≤ m, m ≤ 60, 8 ≤ n, n ≤ 132] => (go_enter Tryd.func42, Tryd.ntmps42; go_wp2; go_ret; rw [HW.out]; simp [*])

end Go.Proofs.YtgfcnafhfgncoaaDoor
