/- The walks of nums.Put and nums.PutText. -/
import Derived.Test.YtofllhipjaphfaaGreatDoorItoa
import Derived.Test.YtofllhipjaphfaaGreatDoorNums1
namespace Go.Proofs.YtofllhipjaphfaaGreatDoor
open Go Go.Proofs Go.RowKit Go.Ink

theorem put_any (n : Int) (w : World) (h1 : -9223372036854775808 ≤ n) (h2 : n ≤ 9223372036854775807) (ht : Tab10 w) :
    Calls Tryz.prog 35 #[.int .i64 n] w fun e w' => e = .returned (.string ⟨(putN n).toArray⟩) ∧ Below w.heap.size w w' := by
  have HT := Lib.hid ht
  clear ht
  by_cases h : n < 0
  · have hr : putN n = [] := by unfold putN; rw [if_pos h]
    rw [hr]
    go_enter Tryz.func35, Tryz.ntmps35
    go_wp2_with fail
    go_returns
    exact ⟨rfl, Below.refl _ _⟩
  · have hl := itoa_len19 n (by omega) h2
    have hr : putN n = Lib.itoa n ++ [58] := by unfold putN; rw [if_neg h]
    rw [hr]
    generalize hA : Lib.itoa n = A at *
    go_enter Tryz.func35, Tryz.ntmps35
    go_wp2_with fail
    refine (itoa_any n _ h1 h2 HT.out).mono ?_
    rintro e w1 ⟨rfl, hb1⟩
    rw [hA]
    have hc : ¬ 9223372036854775807 < A.length + 1 := by omega
    go_wp2_with fail
    go_returns
    exact ⟨by simp; apply ByteArray.ext; simp, hb1⟩

theorem putText_any (t : List UInt8) (w : World) (h1 : t.length ≤ 4611686018427387904) (ht : Tab10 w) :
    Calls Tryz.prog 36 #[.string ⟨t.toArray⟩] w fun e w' => e = .returned (.string ⟨(putT t).toArray⟩) ∧ Below w.heap.size w w' := by
  have HT := Lib.hid ht
  clear ht
  have hl := putN_le (t.length : Int) (by omega)
  have hr : putT t = putN t.length ++ t := rfl
  rw [hr]
  go_enter Tryz.func36, Tryz.ntmps36
  go_wp2_with fail
  refine (put_any (t.length : Int) _ (by omega) (by omega) HT.out).mono ?_
  rintro e w1 ⟨rfl, hb1⟩
  generalize hA : putN (t.length : Int) = A at *
  have hc : ¬ 9223372036854775807 < A.length + t.length := by omega
  go_wp2_with fail
  go_returns
  exact ⟨by simp [hA]; apply ByteArray.ext; simp, hb1⟩

end Go.Proofs.YtofllhipjaphfaaGreatDoor
