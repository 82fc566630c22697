/- The walks of the reference's Encode and Decode of splices. -/
import Derived.Test.YtgcncmhaihgldaaGreatDoorSpl18
import Derived.Test.YtgcncmhaihgldaaGreatDoorSplRef0
import Derived.Test.YtgcncmhaihgldaaGreatDoorNums7
import Derived.Deep.Cut
namespace Go.Proofs.YtgcncmhaihgldaaGreatDoor
open Go Go.Proofs Go.RowKit Go.Ink Go.Sort

set_option maxRecDepth 100000 in
set_option maxHeartbeats 1000000 in
theorem refEncode_any (s : Spl) (ao : Option Addr) (cap : Nat) (w : World) (hs : SlOf IsStr w ao cap s.ins) (hf : s.fits) (hsz : (encB s).length ≤ 140737488355328) (hsh : ∀ t ∈ s.ins, t.length ≤ 9223372036854775807) :
    Calls Tryz.prog 6 #[splV s ao cap] w fun e w' => e = .returned (.tuple #[.string ⟨(encS s).1.toArray⟩, .int .i64 (encS s).2]) ∧ Below w.heap.size w w' := by
  have HAL := Lib.hid (fun o => below_alloc w o)
  have HS := Lib.hid hs; clear hs
  have HSH := Lib.hid hsh; clear hsh
  have HF := Lib.hid hf; clear hf
  by_cases h : checkS s = 0
  · have HV := Lib.hid (show encS s = (encB s, 0) by unfold encS; rw [if_neg (by rw [h]; simp)])
    have HC := Lib.hid (fun w hs => refSplCheck_any s ao cap w hs HSH.out)
    have H0 := Lib.hid h; clear h
    obtain ⟨p, d, ins⟩ := s
    have HP := Lib.hid (show 0 ≤ p ∧ 0 ≤ d from ⟨(checkS_ok H0.out).1, (checkS_ok H0.out).2.1⟩)
    have HN1 := Lib.hid (fun w => refPut_any p w (by have := HP.out.1; omega) HF.out.1)
    have HN2 := Lib.hid (fun w => refPut_any d w (by have := HP.out.2; omega) HF.out.2)
    have HSZ := Lib.hid (show (putN p).length + (putN d).length + (putL ins).length ≤ 140737488355328 from by simpa [encB, Nat.add_assoc] using hsz)
    have HN3 := Lib.hid (fun w hl => refPutList_any ins ao cap w hl (by have := HSZ.out; omega))
    have HB := Lib.hid (show encB ⟨p, d, ins⟩ = putN p ++ putN d ++ putL ins from rfl)
    clear hsz
    simp only [splV] at *
    generalize putN p = A at *
    generalize putN d = B at *
    generalize putL ins = C at *
    have hq1 : ¬ 9223372036854775807 < A.length + B.length := by have := HSZ.out; omega
    have hq2 : ¬ 9223372036854775807 < A.length + B.length + C.length := by have := HSZ.out; omega
    go_enter Tryz.func6, Tryz.ntmps6
    go_wp2_with fail
    refine (HC.out _ (HS.out.later lasts_str (HAL.out _))).mono ?_
    rintro e w1 ⟨rfl, hb⟩
    rw [H0.out]
    have HB1 := Lib.hid ((HAL.out _).trans (hb.mono (HAL.out _).size))
    have HBX := Lib.hid ((hb.block w.heap.size (by simp)).trans (heap_alloc_at w _))
    clear hb
    have c0 : w1.cell? ⟨w.heap.size, 0, none⟩ = some (.int .i64 p) := by rw [Lib.cell_of_heap HBX.out]; rfl
    have c1 : w1.cell? ⟨w.heap.size, 1, none⟩ = some (.int .i64 d) := by rw [Lib.cell_of_heap HBX.out]; rfl
    have c2 : w1.cell? ⟨w.heap.size, 2, none⟩ = some (.slice ao ins.length cap) := by rw [Lib.cell_of_heap HBX.out]; rfl
    have q0 := fun d os => cell_regrown c0 d os
    have q1 := fun d os => cell_regrown c1 d os
    have q2 := fun d os => cell_regrown c2 d os
    have HS1 := Lib.hid (HS.out.later lasts_str HB1.out)
    have HC1 := Lib.hid (fun d os => HN1.out (grow (redrawn w1 d) os))
    have HC2 := Lib.hid (fun d os => HN2.out (grow (redrawn w1 d) os))
    have HC3 := Lib.hid (fun d os => HN3.out (grow (redrawn w1 d) os) (HS1.out.later lasts_str (below_regrown w1 d os)))
    go_wp2_with fail
    refine wp_region_quiet_below (by kernel_rfl) (by kernel_rfl) ?_
    repeat (quiet_step (first | (with_reducible exact Calls.regrown_of (HC1.out _ _)) | (with_reducible exact Calls.regrown_of (HC2.out _ _)) | (with_reducible exact Calls.regrown_of (HC3.out _ _))))
    refine wpQuiet_nil ?_
    intro _ hw'
    obtain ⟨⟨dq, osq⟩, hw''⟩ := hw'
    subst hw''
    have HR := Lib.hid (HB1.out.trans ((below_regrown w1 dq osq).mono HB1.out.size))
    go_wp2_with fail
    go_returns
    rw [HV.out]
    exact ⟨by simp [HB.out, mk_append], HR.out⟩
  · have HV := Lib.hid (show encS s = ([], checkS s) by unfold encS; rw [if_pos h])
    have hq : (checkS s == 0) = false := by simpa using h
    have HC := Lib.hid (fun w hs => refSplCheck_any s ao cap w hs HSH.out)
    clear h
    simp only [splV] at *
    go_enter Tryz.func6, Tryz.ntmps6
    go_wp2_with fail
    refine (HC.out _ (HS.out.later lasts_str (HAL.out _))).mono ?_
    rintro e w1 ⟨rfl, hb⟩
    have HB1 := Lib.hid ((HAL.out _).trans (hb.mono (HAL.out _).size))
    clear hb
    generalize checkS s = E at *
    go_wp2_with fail
    go_returns
    rw [HV.out]
    exact ⟨rfl, HB1.out⟩

theorem putTs_mem : ∀ {l : List (List UInt8)} {t : List UInt8}, t ∈ l → t.length ≤ (putTs l).length
  | a :: l, t, h => by
    rcases List.mem_cons.1 h with rfl | h
    · simp only [putTs, putT, List.length_append]; omega
    · have := putTs_mem h; simp only [putTs, List.length_append]; omega
theorem putL_mem {l : List (List UInt8)} {t : List UInt8} (h : t ∈ l) : t.length ≤ (putL l).length := by
  have := putTs_mem h
  unfold putL
  rw [List.length_append]; omega

set_option maxRecDepth 100000 in
set_option maxHeartbeats 2000000 in
theorem refDecode_any (b : List UInt8) (w : World) (hb : b.length ≤ 20000) :
    Calls Tryz.prog 8 #[.string ⟨b.toArray⟩] w (SplPost w (decS b)) := by
  have HB0 := Lib.hid (below_alloc w (.cells #[.int .i64 0, .int .i64 0, .slice none 0 0] 24 (0, 0)))
  have HP0 := Lib.hid (heap_alloc_at w (.cells #[.int .i64 0, .int .i64 0, .slice none 0 0] 24 (0, 0)))
  have HG := Lib.hid (fun i w => refGet_any b i w (by omega))
  have HGL := Lib.hid (fun i w => refGetList_any b i w (by omega))
  cases hg1 : getAt b 0 with
  | none =>
    have HV := Lib.hid (show decS b = (noSpl, 40) by unfold decS decO; rw [hg1])
    go_enter Tryz.func8, Tryz.ntmps8
    go_wp2_with fail
    refine (HG.out 0 _).mono ?_
    rintro e w1 ⟨rfl, hb1⟩
    rw [hg1]
    have HB1 := Lib.hid (HB0.out.trans (hb1.mono HB0.out.size))
    have HP1 := Lib.hid ((hb1.block _ (lt_of_heap HP0.out)).trans HP0.out)
    clear hb1
    simp only [getV]
    have y0 : w1.cell? ⟨w.heap.size, 0, none⟩ = some (.int .i64 0) := by rw [Lib.cell_of_heap HP1.out]; rfl
    have y1 : w1.cell? ⟨w.heap.size, 1, none⟩ = some (.int .i64 0) := by rw [Lib.cell_of_heap HP1.out]; rfl
    have y2 : w1.cell? ⟨w.heap.size, 2, none⟩ = some (.slice none 0 0) := by rw [Lib.cell_of_heap HP1.out]; rfl
    have f0 := Lib.frozen_of_heap HP1.out 0
    have f1 := Lib.frozen_of_heap HP1.out 1
    have f2 := Lib.frozen_of_heap HP1.out 2
    obtain ⟨s0, s1, s2⟩ := three_cells HP1.out (.int .i64 0) (.int .i64 0) (.slice none 0 0)
    have HFB : Hid (Below w.heap.size w (((w1.setCell ⟨w.heap.size, 0, none⟩ (.int .i64 0)).setCell ⟨w.heap.size, 1, none⟩ (.int .i64 0)).setCell ⟨w.heap.size, 2, none⟩ (.slice none 0 0))) := Lib.hid (((HB1.out.setCell (by simp) _).setCell (by simp) _).setCell (by simp) _)
    go_wp2_with fail
    refine bodyPost_ret (v := .tuple #[.agg #[(.int .i64 0), (.int .i64 0), (.slice none 0 0)], .int .i64 40]) (by simp [results, Tryz.results8, go_sem, s0, s1, s2]) rfl ?_
    rw [HV.out]
    exact ⟨_, rfl, OwnStrs.nil _ _, HFB.out⟩
  | some x =>
    obtain ⟨a, j⟩ := x
    cases hg2 : getAt b j with
    | none =>
      have HV := Lib.hid (show decS b = (noSpl, 40) by unfold decS decO; simp only [hg1, hg2])
      go_enter Tryz.func8, Tryz.ntmps8
      go_wp2_with fail
      refine (HG.out 0 _).mono ?_
      rintro e w1 ⟨rfl, hb1⟩
      rw [hg1]
      have HB1 := Lib.hid (HB0.out.trans (hb1.mono HB0.out.size))
      have HP1 := Lib.hid ((hb1.block _ (lt_of_heap HP0.out)).trans HP0.out)
      clear hb1
      simp only [getV]
      go_wp2_with fail
      refine (HG.out j _).mono ?_
      rintro e w2 ⟨rfl, hb2⟩
      rw [hg2]
      have HB2 := Lib.hid (HB1.out.trans (hb2.mono HB1.out.size))
      have HP2 := Lib.hid ((hb2.block _ (lt_of_heap HP1.out)).trans HP1.out)
      clear hb2
      simp only [getV]
      have y0 : w2.cell? ⟨w.heap.size, 0, none⟩ = some (.int .i64 0) := by rw [Lib.cell_of_heap HP2.out]; rfl
      have y1 : w2.cell? ⟨w.heap.size, 1, none⟩ = some (.int .i64 0) := by rw [Lib.cell_of_heap HP2.out]; rfl
      have y2 : w2.cell? ⟨w.heap.size, 2, none⟩ = some (.slice none 0 0) := by rw [Lib.cell_of_heap HP2.out]; rfl
      have f0 := Lib.frozen_of_heap HP2.out 0
      have f1 := Lib.frozen_of_heap HP2.out 1
      have f2 := Lib.frozen_of_heap HP2.out 2
      obtain ⟨s0, s1, s2⟩ := three_cells HP2.out (.int .i64 0) (.int .i64 0) (.slice none 0 0)
      have HFB : Hid (Below w.heap.size w (((w2.setCell ⟨w.heap.size, 0, none⟩ (.int .i64 0)).setCell ⟨w.heap.size, 1, none⟩ (.int .i64 0)).setCell ⟨w.heap.size, 2, none⟩ (.slice none 0 0))) := Lib.hid (((HB2.out.setCell (by simp) _).setCell (by simp) _).setCell (by simp) _)
      go_wp2_with fail
      refine bodyPost_ret (v := .tuple #[.agg #[(.int .i64 0), (.int .i64 0), (.slice none 0 0)], .int .i64 40]) (by simp [results, Tryz.results8, go_sem, s0, s1, s2]) rfl ?_
      rw [HV.out]
      exact ⟨_, rfl, OwnStrs.nil _ _, HFB.out⟩
    | some x =>
      obtain ⟨d, k⟩ := x
      cases hg3 : getLAt b k with
      | none =>
        have HV := Lib.hid (show decS b = (noSpl, 40) by unfold decS decO; simp only [hg1, hg2, hg3])
        go_enter Tryz.func8, Tryz.ntmps8
        go_wp2_with fail
        refine (HG.out 0 _).mono ?_
        rintro e w1 ⟨rfl, hb1⟩
        rw [hg1]
        have HB1 := Lib.hid (HB0.out.trans (hb1.mono HB0.out.size))
        have HP1 := Lib.hid ((hb1.block _ (lt_of_heap HP0.out)).trans HP0.out)
        clear hb1
        simp only [getV]
        go_wp2_with fail
        refine (HG.out j _).mono ?_
        rintro e w2 ⟨rfl, hb2⟩
        rw [hg2]
        have HB2 := Lib.hid (HB1.out.trans (hb2.mono HB1.out.size))
        have HP2 := Lib.hid ((hb2.block _ (lt_of_heap HP1.out)).trans HP1.out)
        clear hb2
        simp only [getV]
        go_wp2_with fail
        refine (HGL.out _ _).mono ?_
        rintro e w3 ⟨v3, rfl, ho3, hb3⟩
        rw [hg3] at ho3 ⊢
        simp only [Option.map_none, Option.getD_none, Option.isSome_none] at ho3 ⊢
        obtain ⟨a3, k3, hv3⟩ := ownsRow_shape ho3
        subst hv3
        simp only [List.length_nil] at ho3 ⊢
        have HA3 := Lib.hid (below_alloc w3 (.cells #[.int .i64 a, .int .i64 d, .slice a3 0 k3] 24 (0, 0)))
        have HB3 := Lib.hid (HB2.out.trans ((hb3.trans (HA3.out.mono hb3.size)).mono HB2.out.size))
        have HP3 := Lib.hid ((HA3.out.block _ (lt_of_heap ((hb3.block _ (lt_of_heap HP2.out)).trans HP2.out))).trans ((hb3.block _ (lt_of_heap HP2.out)).trans HP2.out))
        have hz := lt_of_heap ((hb3.block _ (lt_of_heap HP2.out)).trans HP2.out)
        clear ho3 hb3 HA3
        go_upto_region 9 with (fail)
        clear hz
        generalize w3.alloc (.cells #[.int .i64 a, .int .i64 d, .slice a3 0 k3] 24 (0, 0)) = w4 at *
        have y0 : w4.cell? ⟨w.heap.size, 0, none⟩ = some (.int .i64 0) := by rw [Lib.cell_of_heap HP3.out]; rfl
        have y1 : w4.cell? ⟨w.heap.size, 1, none⟩ = some (.int .i64 0) := by rw [Lib.cell_of_heap HP3.out]; rfl
        have y2 : w4.cell? ⟨w.heap.size, 2, none⟩ = some (.slice none 0 0) := by rw [Lib.cell_of_heap HP3.out]; rfl
        have f0 := Lib.frozen_of_heap HP3.out 0
        have f1 := Lib.frozen_of_heap HP3.out 1
        have f2 := Lib.frozen_of_heap HP3.out 2
        obtain ⟨s0, s1, s2⟩ := three_cells HP3.out (.int .i64 0) (.int .i64 0) (.slice none 0 0)
        have HFB : Hid (Below w.heap.size w (((w4.setCell ⟨w.heap.size, 0, none⟩ (.int .i64 0)).setCell ⟨w.heap.size, 1, none⟩ (.int .i64 0)).setCell ⟨w.heap.size, 2, none⟩ (.slice none 0 0))) := Lib.hid (((HB3.out.setCell (by simp) _).setCell (by simp) _).setCell (by simp) _)
        go_wp2_with fail
        refine bodyPost_ret (v := .tuple #[.agg #[(.int .i64 0), (.int .i64 0), (.slice none 0 0)], .int .i64 40]) (by simp [results, Tryz.results8, go_sem, s0, s1, s2]) rfl ?_
        rw [HV.out]
        exact ⟨_, rfl, OwnStrs.nil _ _, HFB.out⟩
      | some x =>
        obtain ⟨l, q⟩ := x
        have hv : decS b = (if q < b.length ∨ checkS ⟨a, d, l⟩ ≠ 0 then (noSpl, 40) else (⟨a, d, l⟩, 0)) := by
          unfold decS decO
          simp only [hg1, hg2, hg3]
          by_cases hx : q < b.length ∨ checkS ⟨a, d, l⟩ ≠ 0
          · rw [if_pos hx, if_pos hx]
          · rw [if_neg hx, if_neg hx]
        have HVX := Lib.hid hv
        clear hv
        obtain ⟨_, _, _, _, hqb, _, hqd⟩ := getLAt_way (by omega) hg3
        go_enter Tryz.func8, Tryz.ntmps8
        go_wp2_with fail
        refine (HG.out 0 _).mono ?_
        rintro e w1 ⟨rfl, hb1⟩
        rw [hg1]
        have HB1 := Lib.hid (HB0.out.trans (hb1.mono HB0.out.size))
        have HP1 := Lib.hid ((hb1.block _ (lt_of_heap HP0.out)).trans HP0.out)
        clear hb1
        simp only [getV]
        go_wp2_with fail
        refine (HG.out j _).mono ?_
        rintro e w2 ⟨rfl, hb2⟩
        rw [hg2]
        have HB2 := Lib.hid (HB1.out.trans (hb2.mono HB1.out.size))
        have HP2 := Lib.hid ((hb2.block _ (lt_of_heap HP1.out)).trans HP1.out)
        clear hb2
        simp only [getV]
        go_wp2_with fail
        refine (HGL.out _ _).mono ?_
        rintro e w3 ⟨v3, rfl, ho3, hb3⟩
        rw [hg3] at ho3 ⊢
        simp only [Option.map_some, Option.getD_some, Option.isSome_some] at ho3 ⊢
        obtain ⟨a3, k3, hv3⟩ := ownsRow_shape ho3
        subst hv3
        have HA3 := Lib.hid (below_alloc w3 (.cells #[.int .i64 a, .int .i64 d, .slice a3 l.length k3] 24 (0, 0)))
        have HB3 := Lib.hid (HB2.out.trans ((hb3.trans (HA3.out.mono hb3.size)).mono HB2.out.size))
        have HP3 := Lib.hid ((HA3.out.block _ (lt_of_heap ((hb3.block _ (lt_of_heap HP2.out)).trans HP2.out))).trans ((hb3.block _ (lt_of_heap HP2.out)).trans HP2.out))
        have hz := lt_of_heap ((hb3.block _ (lt_of_heap HP2.out)).trans HP2.out)
        have HX3 := Lib.hid (heap_alloc_at w3 (.cells #[.int .i64 a, .int .i64 d, .slice a3 l.length k3] 24 (0, 0)))
        have HO3 : Hid (OwnStrs _ w2.heap.size (.slice a3 l.length k3) l) := Lib.hid (ownsRow_below ho3 HA3.out)
        have HWZ := Lib.hid (lt_of_heap HP2.out)
        clear ho3 hb3 HA3
        have hlen : ∀ t ∈ l, t.length ≤ 9223372036854775807 := fun t ht => by
          have h1 := putL_mem ht
          rw [← hqd] at h1
          have h2 : ((b.drop k.toNat).take (q - k).toNat).length ≤ b.length := by rw [List.length_take, List.length_drop]; omega
          omega
        clear hqd
        go_upto_region 9 with (fail)
        clear hz
        generalize w3.alloc (.cells #[.int .i64 a, .int .i64 d, .slice a3 l.length k3] 24 (0, 0)) = w4 at *
        generalize w3.heap.size = b9 at *
        by_cases hql : q = (b.length : Int)
        · have hqe : ¬ q < (b.length : Int) := by omega
          have HCK := Lib.hid (refSplCheck_any ⟨a, d, l⟩ a3 k3 w4 (own_slOfV rfl HO3.out) hlen)
          simp only [splV] at HCK
          obtain ⟨x0, x1, x2⟩ := box_spl (s := ⟨a, d, l⟩) HX3.out
          simp only at x0 x1 x2
          clear hlen
          by_cases hce : checkS ⟨a, d, l⟩ = 0
          · have HV := Lib.hid (HVX.out.trans (if_neg (by rw [hce]; simp only [ne_eq, not_true_eq_false, or_false]; exact hqe)))
            rw [hce] at HCK
            clear HVX hce hqe
            go_wp2_with fail
            refine HCK.out.mono ?_
            rintro e w5 ⟨rfl, hb5⟩
            have HP5 := Lib.hid ((hb5.block _ (lt_of_heap HP3.out)).trans HP3.out)
            have HX5 := Lib.hid ((hb5.block _ (lt_of_heap HX3.out)).trans HX3.out)
            have HB5 := Lib.hid (HB3.out.trans (hb5.mono HB3.out.size))
            have HO5 := Lib.hid (ownsRow_below HO3.out hb5)
            clear hb5 HCK HP3 HX3 HB3 HO3 x0 x1 x2
            obtain ⟨x0, x1, x2⟩ := box_spl (s := ⟨a, d, l⟩) HX5.out
            simp only at x0 x1 x2
            have y0 : w5.cell? ⟨w.heap.size, 0, none⟩ = some (.int .i64 0) := by rw [Lib.cell_of_heap HP5.out]; rfl
            have y1 : w5.cell? ⟨w.heap.size, 1, none⟩ = some (.int .i64 0) := by rw [Lib.cell_of_heap HP5.out]; rfl
            have y2 : w5.cell? ⟨w.heap.size, 2, none⟩ = some (.slice none 0 0) := by rw [Lib.cell_of_heap HP5.out]; rfl
            have f0 := Lib.frozen_of_heap HP5.out 0
            have f1 := Lib.frozen_of_heap HP5.out 1
            have f2 := Lib.frozen_of_heap HP5.out 2
            obtain ⟨s0, s1, s2⟩ := three_cells HP5.out (.int .i64 a) (.int .i64 d) (.slice a3 l.length k3)
            have HFB : Hid (Below w.heap.size w (((w5.setCell ⟨w.heap.size, 0, none⟩ (.int .i64 a)).setCell ⟨w.heap.size, 1, none⟩ (.int .i64 d)).setCell ⟨w.heap.size, 2, none⟩ (.slice a3 l.length k3))) := Lib.hid (((HB5.out.setCell (by simp) _).setCell (by simp) _).setCell (by simp) _)
            go_wp2_with fail
            refine bodyPost_ret (v := .tuple #[.agg #[(.int .i64 a), (.int .i64 d), (.slice a3 l.length k3)], .int .i64 0]) (by simp [results, Tryz.results8, go_sem, s0, s1, s2]) rfl ?_
            rw [HV.out]
            exact ⟨_, rfl, ownsRow_base (ownsRow_setCell_below (ownsRow_setCell_below (ownsRow_setCell_below HO5.out (a := ⟨w.heap.size, 0, none⟩) HWZ.out _) (a := ⟨w.heap.size, 1, none⟩) HWZ.out _) (a := ⟨w.heap.size, 2, none⟩) HWZ.out _) (Nat.le_of_lt HWZ.out), HFB.out⟩
          · have HV := Lib.hid (HVX.out.trans (if_pos (.inr hce)))
            have hq2 : (checkS ⟨a, d, l⟩ == 0) = false := by simpa using hce
            clear HVX hce hqe
            go_wp2_with fail
            refine HCK.out.mono ?_
            rintro e w5 ⟨rfl, hb5⟩
            have HP5 := Lib.hid ((hb5.block _ (lt_of_heap HP3.out)).trans HP3.out)
            have HX5 := Lib.hid ((hb5.block _ (lt_of_heap HX3.out)).trans HX3.out)
            have HB5 := Lib.hid (HB3.out.trans (hb5.mono HB3.out.size))
            have HO5 := Lib.hid (ownsRow_below HO3.out hb5)
            clear hb5 HCK HP3 HX3 HB3 HO3 x0 x1 x2
            have y0 : w5.cell? ⟨w.heap.size, 0, none⟩ = some (.int .i64 0) := by rw [Lib.cell_of_heap HP5.out]; rfl
            have y1 : w5.cell? ⟨w.heap.size, 1, none⟩ = some (.int .i64 0) := by rw [Lib.cell_of_heap HP5.out]; rfl
            have y2 : w5.cell? ⟨w.heap.size, 2, none⟩ = some (.slice none 0 0) := by rw [Lib.cell_of_heap HP5.out]; rfl
            have f0 := Lib.frozen_of_heap HP5.out 0
            have f1 := Lib.frozen_of_heap HP5.out 1
            have f2 := Lib.frozen_of_heap HP5.out 2
            obtain ⟨s0, s1, s2⟩ := three_cells HP5.out (.int .i64 0) (.int .i64 0) (.slice none 0 0)
            have HFB : Hid (Below w.heap.size w (((w5.setCell ⟨w.heap.size, 0, none⟩ (.int .i64 0)).setCell ⟨w.heap.size, 1, none⟩ (.int .i64 0)).setCell ⟨w.heap.size, 2, none⟩ (.slice none 0 0))) := Lib.hid (((HB5.out.setCell (by simp) _).setCell (by simp) _).setCell (by simp) _)
            go_wp2_with fail
            refine bodyPost_ret (v := .tuple #[.agg #[(.int .i64 0), (.int .i64 0), (.slice none 0 0)], .int .i64 40]) (by simp [results, Tryz.results8, go_sem, s0, s1, s2]) rfl ?_
            rw [HV.out]
            exact ⟨_, rfl, OwnStrs.nil _ _, HFB.out⟩
        · have hqe : q < (b.length : Int) := by omega
          have HV := Lib.hid (HVX.out.trans (if_pos (.inl hqe)))
          have hqn : (q == (b.length : Int)) = false := by simpa using hql
          clear HVX hlen
          have y0 : w4.cell? ⟨w.heap.size, 0, none⟩ = some (.int .i64 0) := by rw [Lib.cell_of_heap HP3.out]; rfl
          have y1 : w4.cell? ⟨w.heap.size, 1, none⟩ = some (.int .i64 0) := by rw [Lib.cell_of_heap HP3.out]; rfl
          have y2 : w4.cell? ⟨w.heap.size, 2, none⟩ = some (.slice none 0 0) := by rw [Lib.cell_of_heap HP3.out]; rfl
          have f0 := Lib.frozen_of_heap HP3.out 0
          have f1 := Lib.frozen_of_heap HP3.out 1
          have f2 := Lib.frozen_of_heap HP3.out 2
          obtain ⟨s0, s1, s2⟩ := three_cells HP3.out (.int .i64 0) (.int .i64 0) (.slice none 0 0)
          have HFB : Hid (Below w.heap.size w (((w4.setCell ⟨w.heap.size, 0, none⟩ (.int .i64 0)).setCell ⟨w.heap.size, 1, none⟩ (.int .i64 0)).setCell ⟨w.heap.size, 2, none⟩ (.slice none 0 0))) := Lib.hid (((HB3.out.setCell (by simp) _).setCell (by simp) _).setCell (by simp) _)
          go_wp2_with fail
          refine bodyPost_ret (v := .tuple #[.agg #[(.int .i64 0), (.int .i64 0), (.slice none 0 0)], .int .i64 40]) (by simp [results, Tryz.results8, go_sem, s0, s1, s2]) rfl ?_
          rw [HV.out]
          exact ⟨_, rfl, OwnStrs.nil _ _, HFB.out⟩
end Go.Proofs.YtgcncmhaihgldaaGreatDoor
