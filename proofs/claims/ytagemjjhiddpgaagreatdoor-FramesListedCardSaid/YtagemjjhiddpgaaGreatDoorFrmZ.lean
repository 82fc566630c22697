/- The walks of the laws FramesMade and FramesListed: they answer true. -/
import Derived.Test.YtagemjjhiddpgaaGreatDoorFrmR
import Derived.Test.YtagemjjhiddpgaaGreatDoorStands04
namespace Go.Proofs.YtagemjjhiddpgaaGreatDoor
open Go Go.Proofs Go.RowKit Go.Ink Go.Sort

set_option maxRecDepth 100000 in
set_option maxHeartbeats 1000000 in
theorem framesMade_any (p t : List UInt8) (i : Int) (w : World) (hp : p.length ≤ 140737488355328) (ht : t.length ≤ 140737488355328) (he : EnvF w) :
    Calls Tryz.prog 3 #[.string ⟨p.toArray⟩, .string ⟨t.toArray⟩, .int .i64 i] w fun e w' => e = .returned (.bool true) ∧ Below w.heap.size w w' := by
  have HE := Lib.hid he; clear he
  by_cases h1 : 15000 < p.length
  · go_enter Tryz.func3, Tryz.ntmps3
    go_wp2_with fail
    refine (stands_any _ HE.out).mono ?_
    rintro e w1 ⟨rfl, hb⟩
    go_wp2_with fail
    go_returns
    exact ⟨rfl, hb⟩
  by_cases h2 : 15000 < t.length
  · go_enter Tryz.func3, Tryz.ntmps3
    go_wp2_with fail
    refine (stands_any _ HE.out).mono ?_
    rintro e w1 ⟨rfl, hb⟩
    go_wp2_with fail
    go_returns
    exact ⟨rfl, hb⟩
  have HF := Lib.hid (fun w he => frame_any p w (by omega) he)
  have HG := Lib.hid (fun w => refFrame_any p w (by omega))
  have HN := Lib.hid (fun w he => by have := next_any t i w (by omega) he; rw [getTV_eq] at this; exact this)
  have HM := Lib.hid (fun w => by have := refNext_any t i w (by omega); rw [getTV_eq] at this; exact this)
  have hs1 : (frameB p != frameB p) = false := by simp
  have hs2 : (nP (nextS t i) == nP (nextS t i)) = true := by simp
  generalize frameB p = F at *
  generalize (nextS t i).isSome = ok at *
  generalize nJ (nextS t i) = J at *
  generalize nP (nextS t i) = P at *
  have hs3 : (ok == ok) = true := by simp
  go_enter Tryz.func3, Tryz.ntmps3
  go_wp2_with fail
  refine (HF.out _ HE.out).mono ?_
  rintro e w1 ⟨rfl, hb⟩
  have HB1 := Lib.hid hb; clear hb
  go_wp2_with fail
  refine (HG.out _).mono ?_
  rintro e w2 ⟨rfl, hb⟩
  have HB2 := Lib.hid (step2 HB1.out hb); clear hb
  go_wp2_with fail
  refine (HN.out _ (HE.out.later HB2.out)).mono ?_
  rintro e w3 ⟨rfl, hb⟩
  have HB3 := Lib.hid (step2 HB2.out hb); clear hb
  go_wp2_with fail
  refine (HM.out _).mono ?_
  rintro e w4 ⟨rfl, hb⟩
  have HB4 := Lib.hid (step2 HB3.out hb); clear hb
  go_wp2_with fail
  refine (stands_any _ (HE.out.later HB4.out)).mono ?_
  rintro e w5 ⟨rfl, hb⟩
  have HB5 := Lib.hid (step2 HB4.out hb); clear hb
  go_wp2_with fail
  go_returns
  exact ⟨rfl, HB5.out⟩

set_option maxRecDepth 100000 in
set_option maxHeartbeats 1000000 in
theorem framesListed_any (t : List UInt8) (w : World) (ht : t.length ≤ 140737488355328) (he : EnvF w) :
    Calls Tryz.prog 4 #[.string ⟨t.toArray⟩] w fun e w' => e = .returned (.bool true) ∧ Below w.heap.size w w' := by
  have HE := Lib.hid he; clear he
  by_cases h2 : 15000 < t.length
  · go_enter Tryz.func4, Tryz.ntmps4
    go_wp2_with fail
    refine (stands_any _ HE.out).mono ?_
    rintro e w1 ⟨rfl, hb⟩
    go_wp2_with fail
    go_returns
    exact ⟨rfl, hb⟩
  have HW := Lib.hid (fun w he => whole_any t w (by omega) he)
  have HR := Lib.hid (fun w => refWhole_any t w (by omega))
  unfold WholePost at HW HR
  generalize (wholeS t).1 = l at *
  generalize (wholeS t).2 = en at *
  go_enter Tryz.func4, Tryz.ntmps4
  go_wp2_with fail
  refine (HW.out _ HE.out).mono ?_
  rintro e w1 ⟨v, rfl, ho, hb⟩
  obtain ⟨ao, cap, rfl, hsl⟩ := ho.slOf
  have HS := Lib.hid hsl
  have HB1 := Lib.hid hb; clear hb ho hsl
  go_wp2_with fail
  refine (HR.out _).mono ?_
  rintro e w2 ⟨v, rfl, ho, hb⟩
  obtain ⟨ao2, cap2, rfl, hsl⟩ := ho.slOf
  have HSM := Lib.hid (same_any l l ao ao2 cap cap2 w2 (HS.out.later lasts_str hb) hsl)
  have HB2 := Lib.hid (step2 HB1.out hb); clear hb ho hsl
  go_wp2_with fail
  refine HSM.out.mono ?_
  rintro e w3 ⟨rfl, n3, rfl⟩
  rw [sameS_self]
  have HB3 := Lib.hid (below_drewN HB2.out n3)
  go_wp2_with fail
  refine (stands_any _ (HE.out.later HB3.out)).mono ?_
  rintro e w5 ⟨rfl, hb⟩
  have HB5 := Lib.hid (step2 HB3.out hb); clear hb
  go_wp2_with fail
  go_returns
  exact ⟨rfl, HB5.out⟩
end Go.Proofs.YtagemjjhiddpgaaGreatDoor
