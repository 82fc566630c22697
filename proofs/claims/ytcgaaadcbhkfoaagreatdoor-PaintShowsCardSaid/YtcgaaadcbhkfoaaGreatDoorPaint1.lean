/- The walks of paint.Go and paint.full. -/
import Derived.Test.YtcgaaadcbhkfoaaGreatDoorBuildW
import Derived.Test.YtcgaaadcbhkfoaaGreatDoorItoa
import Derived.WalkSmall
namespace Go.Proofs.YtcgaaadcbhkfoaaGreatDoor
open Go Go.Proofs Go.RowKit Go.Ink

def clampS (x : Int) : Int := min (max x 0) 9998
theorem clampS_le (x : Int) : (Lib.itoa (clampS x + 1)).length ≤ 4 := itoa_le _ (by unfold clampS; omega) 3 (by unfold clampS; omega)
def goS (row col : Int) : List UInt8 := [27, 91] ++ Lib.itoa (clampS row + 1) ++ [59] ++ Lib.itoa (clampS col + 1) ++ [72]
theorem goS_le (row col : Int) : (goS row col).length ≤ 12 := by
  have h1 := clampS_le row
  have h2 := clampS_le col
  simp [goS]; omega
theorem goS_pos (row col : Int) : 0 < (goS row col).length := by simp [goS]

set_option maxRecDepth 100000 in
set_option maxHeartbeats 1000000 in
theorem go_any (row col : Int) (w : World) (ht : Tab10 w) :
    Calls Tryz.prog 14 #[.int .i64 row, .int .i64 col] w fun e w' => e = .returned (.string ⟨(goS row col).toArray⟩) ∧ Below w.heap.size w w' := by
  have HT := Lib.hid ht; clear ht
  have hr : goS row col = [27, 91] ++ Lib.itoa (min (max row 0) 9998 + 1) ++ [59] ++ Lib.itoa (min (max col 0) 9998 + 1) ++ [72] := rfl
  have h1 := clampS_le row
  have h2 := clampS_le col
  unfold clampS at h1 h2
  generalize hA : Lib.itoa (min (max row 0) 9998 + 1) = A at *
  generalize hC : Lib.itoa (min (max col 0) 9998 + 1) = C at *
  have HR := Lib.hid hr; clear hr
  have HA := Lib.hid hA; clear hA
  have HC := Lib.hid hC; clear hC
  generalize goS row col = r at *
  go_enter Tryz.func14, Tryz.ntmps14
  go_wp2_with fail
  refine (itoa_any _ _ (by omega) (by omega) HT.out).mono ?_
  rintro e w1 ⟨rfl, hb1⟩
  rw [HA.out]
  have HB1 := Lib.hid hb1; clear hb1
  go_wp2_with fail
  refine (itoa_any _ _ (by omega) (by omega) (HT.out.later HB1.out)).mono ?_
  rintro e w2 ⟨rfl, hb2⟩
  rw [HC.out]
  have HB2 := Lib.hid hb2; clear hb2
  go_wp2_with fail
  go_ret
  rw [HR.out]
  exact ⟨congrArg (fun l : List UInt8 => Ending.returned (.string ⟨l.toArray⟩)) (by simp), HB1.out.trans (HB2.out.mono HB1.out.size)⟩

end Go.Proofs.YtcgaaadcbhkfoaaGreatDoor
