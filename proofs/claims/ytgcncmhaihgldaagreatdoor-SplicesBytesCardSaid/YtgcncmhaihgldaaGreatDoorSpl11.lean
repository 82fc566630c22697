/- The walk of splices.Encode. -/
import Derived.Test.YtgcncmhaihgldaaGreatDoorSpl10
import Derived.Test.YtgcncmhaihgldaaGreatDoorSpl3
import Derived.Test.YtgcncmhaihgldaaGreatDoorNums4
import Derived.Test.YtgcncmhaihgldaaGreatDoorConv
import Derived.Lib.QuietBelow
namespace Go.Proofs.YtgcncmhaihgldaaGreatDoor
open Go Go.Proofs Go.RowKit Go.Ink Go.Sort

set_option maxRecDepth 100000 in
set_option maxHeartbeats 1000000 in
theorem encode_any (s : Spl) (ao : Option Addr) (cap : Nat) (w : World) (hs : SlOf IsStr w ao cap s.ins) (hf : s.fits) (hsz : (encB s).length ≤ 140737488355328) (ht : Tab10 w) :
    Calls Tryz.prog 5 #[splV s ao cap] w fun e w' => e = .returned (.tuple #[.string ⟨(encS s).1.toArray⟩, .int .i64 (encS s).2]) ∧ Below w.heap.size w w' := by
  have HAL := Lib.hid (fun o => below_alloc w o)
  have HS := Lib.hid hs; clear hs
  have HT := Lib.hid ht; clear ht
  have HF := Lib.hid hf; clear hf
  by_cases h : checkS s = 0
  · have HV := Lib.hid (show encS s = (encB s, 0) by unfold encS; rw [if_neg (by rw [h]; simp)])
    have HC := Lib.hid (fun w hs => splCheck_any s ao cap w hs)
    have H0 := Lib.hid h; clear h
    obtain ⟨p, d, ins⟩ := s
    have HP := Lib.hid (show 0 ≤ p ∧ 0 ≤ d from ⟨(checkS_ok H0.out).1, (checkS_ok H0.out).2.1⟩)
    have HN1 := Lib.hid (fun w ht => put_any p w (by have := HP.out.1; omega) HF.out.1 ht)
    have HN2 := Lib.hid (fun w ht => put_any d w (by have := HP.out.2; omega) HF.out.2 ht)
    have HSZ := Lib.hid (show (putN p).length + (putN d).length + (putL ins).length ≤ 140737488355328 from by simpa [encB, Nat.add_assoc] using hsz)
    have HN3 := Lib.hid (fun w hl ht => putList_any ins ao cap w hl (by have := HSZ.out; omega) ht)
    have HB := Lib.hid (show encB ⟨p, d, ins⟩ = putN p ++ putN d ++ putL ins from rfl)
    clear hsz
    simp only [splV] at *
    generalize putN p = A at *
    generalize putN d = B at *
    generalize putL ins = C at *
    have hq1 : ¬ 9223372036854775807 < A.length + B.length := by have := HSZ.out; omega
    have hq2 : ¬ 9223372036854775807 < A.length + B.length + C.length := by have := HSZ.out; omega
    go_enter Tryz.func5, Tryz.ntmps5
    go_wp2_with fail
    refine (HC.out _ (HS.out.later lasts_str (HAL.out _))).mono ?_
    rintro e w1 ⟨rfl, hb⟩
    rw [H0.out]
    have HB1 := Lib.hid ((HAL.out _).trans (hb.mono (HAL.out _).size))
    have HBX := Lib.hid ((hb.block w.heap.size (by simp)).trans (heap_alloc_at w _))
    clear hb
    have c0 : w1.cell? ⟨w.heap.size, 0, none⟩ = some (.int .i64 p) := by rw [Lib.cell_of_heap HBX.out]; rfl
    have c1 : w1.cell? ⟨w.heap.size, 1, none⟩ = some (.int .i64 d) := by rw [Lib.cell_of_heap HBX.out]; rfl
    have c2 : w1.cell? ⟨w.heap.size, 2, none⟩ = some (.slice ao ins.length cap) := by rw [Lib.cell_of_heap HBX.out]; rfl
    have q0 := fun d os => cell_regrown c0 d os
    have q1 := fun d os => cell_regrown c1 d os
    have q2 := fun d os => cell_regrown c2 d os
    have HS1 := Lib.hid (HS.out.later lasts_str HB1.out)
    have HT1 := Lib.hid (HT.out.later HB1.out)
    have HC1 := Lib.hid (fun d os => HN1.out (grow (redrawn w1 d) os) (HT1.out.later (below_regrown w1 d os)))
    have HC2 := Lib.hid (fun d os => HN2.out (grow (redrawn w1 d) os) (HT1.out.later (below_regrown w1 d os)))
    have HC3 := Lib.hid (fun d os => HN3.out (grow (redrawn w1 d) os) (HS1.out.later lasts_str (below_regrown w1 d os)) (HT1.out.later (below_regrown w1 d os)))
    go_wp2_with fail
    refine wp_region_quiet_below (by kernel_rfl) (by kernel_rfl) ?_
    repeat (quiet_step (first | (with_reducible exact Calls.regrown_of (HC1.out _ _)) | (with_reducible exact Calls.regrown_of (HC2.out _ _)) | (with_reducible exact Calls.regrown_of (HC3.out _ _))))
    refine wpQuiet_nil ?_
    intro _ hw'
    obtain ⟨⟨dq, osq⟩, hw''⟩ := hw'
    subst hw''
    have HR := Lib.hid (HB1.out.trans ((below_regrown w1 dq osq).mono HB1.out.size))
    go_wp2_with fail
    go_returns
    rw [HV.out]
    exact ⟨by simp [HB.out, mk_append], HR.out⟩
  · have HV := Lib.hid (show encS s = ([], checkS s) by unfold encS; rw [if_pos h])
    have hq : (checkS s == 0) = false := by simpa using h
    have HC := Lib.hid (fun w hs => splCheck_any s ao cap w hs)
    clear h
    simp only [splV] at *
    go_enter Tryz.func5, Tryz.ntmps5
    go_wp2_with fail
    refine (HC.out _ (HS.out.later lasts_str (HAL.out _))).mono ?_
    rintro e w1 ⟨rfl, hb⟩
    have HB1 := Lib.hid ((HAL.out _).trans (hb.mono (HAL.out _).size))
    clear hb
    generalize checkS s = E at *
    go_wp2_with fail
    go_returns
    rw [HV.out]
    exact ⟨rfl, HB1.out⟩
end Go.Proofs.YtgcncmhaihgldaaGreatDoor
