/- The walks of the reference's PutText and GetText. -/
import Derived.Test.YtagemjjhiddpgaaGreatDoorNums6
namespace Go.Proofs.YtagemjjhiddpgaaGreatDoor
open Go Go.Proofs Go.RowKit Go.Ink

theorem refPutText_any (t : List UInt8) (w : World) (h1 : t.length ≤ 4611686018427387904) :
    Calls Tryz.prog 16 #[.string ⟨t.toArray⟩] w fun e w' => e = .returned (.string ⟨(putT t).toArray⟩) ∧ Below w.heap.size w w' := by
  have hl := putN_le (t.length : Int) (by omega)
  have hr : putT t = putN t.length ++ t := rfl
  rw [hr]
  go_enter Tryz.func16, Tryz.ntmps16
  go_wp2_with fail
  refine (refPut_any (t.length : Int) _ (by omega) (by omega)).mono ?_
  rintro e w1 ⟨rfl, hb1⟩
  generalize hA : putN (t.length : Int) = A at *
  have hc : ¬ 9223372036854775807 < A.length + t.length := by omega
  go_wp2_with fail
  go_returns
  exact ⟨by simp [hA]; apply ByteArray.ext; simp, hb1⟩

theorem refGetText_any (s : List UInt8) (i : Int) (w : World) (hs : s.length ≤ 140737488355328) :
    Calls Tryz.prog 20 #[.string ⟨s.toArray⟩, .int .i64 i] w fun e w' => e = .returned (getTV (getTAt s i)) ∧ Below w.heap.size w w' := by
  have hg := refGet_any s i w hs
  unfold getTAt
  cases hga : getAt s i with
  | none =>
    simp only [hga, getV] at hg
    have HG := Lib.hid hg; clear hg hga
    go_enter Tryz.func20, Tryz.ntmps20
    go_wp2_with fail
    refine HG.out.mono ?_
    rintro e w1 ⟨rfl, hb⟩
    have HB := Lib.hid hb; clear hb
    go_wp2_with fail
    go_returns
    exact ⟨rfl, HB.out⟩
  | some x =>
    obtain ⟨n, j⟩ := x
    have hin := getAt_some hga
    simp only [hga, getV] at hg
    obtain ⟨N, rfl⟩ := Int.eq_ofNat_of_zero_le hin.2.1
    obtain ⟨J, rfl⟩ := Int.eq_ofNat_of_zero_le (show 0 ≤ j by omega)
    have hJ : J ≤ s.length := by omega
    have hN : N ≤ 9223372036854775807 := by omega
    clear hin hga
    have HG := Lib.hid hg; clear hg
    simp only [Int.toNat_natCast]
    by_cases hlt : (s.length : Int) - (J : Int) < (N : Int)
    · rw [if_pos hlt]
      go_enter Tryz.func20, Tryz.ntmps20
      go_wp2_with fail
      refine HG.out.mono ?_
      rintro e w1 ⟨rfl, hb⟩
      have HB := Lib.hid hb; clear hb
      go_wp2_with fail
      go_returns
      exact ⟨rfl, HB.out⟩
    · rw [if_neg hlt]
      have h1 : J + N ≤ s.length := by omega
      have HX := Lib.hid (show (⟨s.toArray⟩ : ByteArray).extract J (J + N) = ⟨((s.drop J).take N).toArray⟩ by rw [extract_mk]; congr 3; omega)
      go_enter Tryz.func20, Tryz.ntmps20
      go_wp2_with fail
      refine HG.out.mono ?_
      rintro e w1 ⟨rfl, hb⟩
      have HB := Lib.hid hb; clear hb
      go_wp2_with fail
      go_returns
      refine ⟨?_, HB.out⟩
      rw [getTV, ← HX.out]
      rfl
end Go.Proofs.YtagemjjhiddpgaaGreatDoor
