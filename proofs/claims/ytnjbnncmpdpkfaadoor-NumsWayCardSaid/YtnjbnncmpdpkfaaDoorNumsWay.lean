/- The walk of the law NumsWay: it answers true. -/
import Derived.Test.YtnjbnncmpdpkfaaDoorNumsBack
import Derived.Lib.QuietBelow
namespace Go.Proofs.YtnjbnncmpdpkfaaDoor
open Go Go.Proofs Go.RowKit Go.Ink Go.Sort

theorem wayX {s P : List UInt8} {I J : Nat} (h : (s.drop I).take (J - I) = P) : (⟨s.toArray⟩ : ByteArray).extract I J = ⟨P.toArray⟩ := by rw [extract_mk, h]

set_option maxRecDepth 100000 in
set_option maxHeartbeats 2000000 in
theorem way_none (s : List UInt8) (i : Int) (w : World) (hs : ¬ 5000 < s.length) (he : Env w) (hg : getAt s i = none) :
    Calls Tryd.prog 7 #[.string ⟨s.toArray⟩, .int .i64 i] w fun e w' => e = .returned (.bool true) ∧ Below w.heap.size w w' := by
  have HE := Lib.hid he; clear he
  have hA := fun w he => get_any s i w (by unfold maxLen; omega) he
  have hC := fun w he => getText_any s i w (by unfold maxLen; omega) he
  have hG := fun w he => getList_any s i w (by omega) he
  have ht : getTAt s i = none := by unfold getTAt; rw [hg]
  have hl : getLAt s i = none := by unfold getLAt; rw [hg]
  simp only [hg, ht, hl, getV, getTV] at hA hC hG
  have HA := Lib.hid hA; have HC := Lib.hid hC; have HG := Lib.hid hG; clear hA hC hG hg ht hl
  go_enter Tryd.func7, Tryd.ntmps7
  go_wp2_with fail
  refine (HA.out _ HE.out).mono ?_
  rintro e w1 ⟨rfl, hb⟩
  have HB1 := Lib.hid hb; clear hb
  go_wp2_with fail
  go_quiet (fail)
  have HBq1 := Lib.hid (below_drewN HB1.out nq)
  generalize w1.drewN nq = wq1 at *
  go_wp2_with fail
  refine (HC.out _ (HE.out.later HBq1.out)).mono ?_
  rintro e w2 ⟨rfl, hb⟩
  have HB2 := Lib.hid (step2 HBq1.out hb); clear hb
  go_wp2_with fail
  go_quiet (fail)
  have HBq2 := Lib.hid (below_drewN HB2.out nq)
  generalize w2.drewN nq = wq2 at *
  go_wp2_with fail
  refine (HG.out _ (HE.out.later HBq2.out)).mono ?_
  rintro e w3 ⟨v, rfl, ho, hb⟩
  simp only [Option.map_some, Option.map_none, Option.getD_some, Option.getD_none, Option.isSome_some, Option.isSome_none] at ho ⊢
  obtain ⟨ao, cap, rfl, hs⟩ := ho.slOf
  have HS := Lib.hid hs
  have HB3 := Lib.hid (step2 HBq2.out hb); clear hb ho hs
  go_wp2_with fail
  go_quiet (fail)
  have HBq3 := Lib.hid (below_drewN HB3.out nq)
  generalize w3.drewN nq = wq3 at *
  go_wp2_with fail
  refine (does_post _ (HE.out.later HBq3.out) w HBq3.out).mono ?_
  rintro e w4 ⟨rfl, hb⟩
  have HB4 := Lib.hid hb; clear hb
  go_wp2_with fail
  go_returns
  exact ⟨rfl, HB4.out⟩

set_option maxRecDepth 100000 in
set_option maxHeartbeats 2000000 in
theorem way_nn (s : List UInt8) (i : Int) (w : World) (hs : ¬ 5000 < s.length) (he : Env w) (n j : Int) (hg : getAt s i = some (n, j)) (ht : getTAt s i = none) (hl : getLAt s i = none) :
    Calls Tryd.prog 7 #[.string ⟨s.toArray⟩, .int .i64 i] w fun e w' => e = .returned (.bool true) ∧ Below w.heap.size w w' := by
  have HE := Lib.hid he; clear he
  have hA := fun w he => get_any s i w (by unfold maxLen; omega) he
  have hC := fun w he => getText_any s i w (by unfold maxLen; omega) he
  have hG := fun w he => getList_any s i w (by omega) he
  have h0 := getAt_some hg
  obtain ⟨I, rfl⟩ := Int.eq_ofNat_of_zero_le h0.1
  obtain ⟨N, rfl⟩ := Int.eq_ofNat_of_zero_le h0.2.1
  obtain ⟨J, rfl⟩ := Int.eq_ofNat_of_zero_le (show 0 ≤ j by omega)
  obtain ⟨_, _, hN, hIJ, hJ, hJP, hdr⟩ := h0
  simp only [Int.toNat_natCast] at hdr
  have hX1 : (⟨s.toArray⟩ : ByteArray).extract I J = ⟨(putN N).toArray⟩ := wayX (by rw [hdr, show J - I = (putN N).length by omega, List.take_left])
  have HP := Lib.hid (fun w ht => put_any (N : Int) w (by omega) (by omega) ht)
  generalize putN (N : Int) = S at *
  clear hdr hJP
  have c1 : decide (J ≤ I) = false := by simp; omega
  have e1 : I ≤ J := by omega
  have e2 : J ≤ s.length := by omega
  have c2 : decide (s.length < J) = false := by simp; omega
  simp only [hg, ht, hl, getV, getTV] at hA hC hG
  have HA := Lib.hid hA; have HC := Lib.hid hC; have HG := Lib.hid hG; clear hA hC hG hg ht hl
  go_enter Tryd.func7, Tryd.ntmps7
  go_wp2_with fail
  refine (HA.out _ HE.out).mono ?_
  rintro e w1 ⟨rfl, hb⟩
  have HB1 := Lib.hid hb; clear hb
  have HQ1 := Lib.hid (fun d os => HP.out (grow (redrawn w1 d) os) ((HE.out.later HB1.out).h10.later (below_regrown w1 d os)))
  go_wp2_with fail
  refine wp_region_quiet_below (by kernel_rfl) (by kernel_rfl) ?_
  repeat (quiet_step (exact Calls.regrown_of (HQ1.out _ _)))
  refine wpQuiet_nil ?_
  intro _ hw'
  obtain ⟨⟨dq1, osq1⟩, hw''⟩ := hw'
  subst hw''
  have HBq1 := Lib.hid (step2 HB1.out (below_regrown w1 dq1 osq1))
  generalize grow (redrawn w1 dq1) osq1 = wq1 at *
  go_wp2_with fail
  refine (HC.out _ (HE.out.later HBq1.out)).mono ?_
  rintro e w2 ⟨rfl, hb⟩
  have HB2 := Lib.hid (step2 HBq1.out hb); clear hb
  go_wp2_with fail
  go_quiet (fail)
  have HBq2 := Lib.hid (below_drewN HB2.out nq)
  generalize w2.drewN nq = wq2 at *
  go_wp2_with fail
  refine (HG.out _ (HE.out.later HBq2.out)).mono ?_
  rintro e w3 ⟨v, rfl, ho, hb⟩
  simp only [Option.map_some, Option.map_none, Option.getD_some, Option.getD_none, Option.isSome_some, Option.isSome_none] at ho ⊢
  obtain ⟨ao, cap, rfl, hs⟩ := ho.slOf
  have HS := Lib.hid hs
  have HB3 := Lib.hid (step2 HBq2.out hb); clear hb ho hs
  go_wp2_with fail
  go_quiet (fail)
  have HBq3 := Lib.hid (below_drewN HB3.out nq)
  generalize w3.drewN nq = wq3 at *
  go_wp2_with fail
  refine (does_post _ (HE.out.later HBq3.out) w HBq3.out).mono ?_
  rintro e w4 ⟨rfl, hb⟩
  have HB4 := Lib.hid hb; clear hb
  go_wp2_with fail
  go_returns
  exact ⟨rfl, HB4.out⟩

set_option maxRecDepth 100000 in
set_option maxHeartbeats 2000000 in
theorem way_nl (s : List UInt8) (i : Int) (w : World) (hs : ¬ 5000 < s.length) (he : Env w) (n j : Int) (hg : getAt s i = some (n, j)) (ht : getTAt s i = none) (ls : List (List UInt8)) (q : Int) (hl : getLAt s i = some (ls, q)) :
    Calls Tryd.prog 7 #[.string ⟨s.toArray⟩, .int .i64 i] w fun e w' => e = .returned (.bool true) ∧ Below w.heap.size w w' := by
  have HE := Lib.hid he; clear he
  have hA := fun w he => get_any s i w (by unfold maxLen; omega) he
  have hC := fun w he => getText_any s i w (by unfold maxLen; omega) he
  have hG := fun w he => getList_any s i w (by omega) he
  have h0 := getAt_some hg
  obtain ⟨I, rfl⟩ := Int.eq_ofNat_of_zero_le h0.1
  obtain ⟨N, rfl⟩ := Int.eq_ofNat_of_zero_le h0.2.1
  obtain ⟨J, rfl⟩ := Int.eq_ofNat_of_zero_le (show 0 ≤ j by omega)
  obtain ⟨_, _, hN, hIJ, hJ, hJP, hdr⟩ := h0
  simp only [Int.toNat_natCast] at hdr
  have hX1 : (⟨s.toArray⟩ : ByteArray).extract I J = ⟨(putN N).toArray⟩ := wayX (by rw [hdr, show J - I = (putN N).length by omega, List.take_left])
  have HP := Lib.hid (fun w ht => put_any (N : Int) w (by omega) (by omega) ht)
  generalize putN (N : Int) = S at *
  clear hdr hJP
  have c1 : decide (J ≤ I) = false := by simp; omega
  have e1 : I ≤ J := by omega
  have e2 : J ≤ s.length := by omega
  have c2 : decide (s.length < J) = false := by simp; omega
  obtain ⟨_, k2, hk2, hkq, hqs, hqp, hql⟩ := getLAt_way (by omega) hl
  rw [hg] at hk2
  simp only [Option.some.injEq, Prod.mk.injEq] at hk2
  obtain ⟨rfl, rfl⟩ := hk2
  obtain ⟨q, rfl⟩ := Int.eq_ofNat_of_zero_le (show 0 ≤ q by omega)
  rw [Int.toNat_natCast, show (((q : Nat) : Int) - (I : Int)).toNat = q - I by omega] at hql
  have hX3 : (⟨s.toArray⟩ : ByteArray).extract I q = ⟨(putL ls).toArray⟩ := wayX hql
  have hll : (putL ls).length ≤ 5000 := by
    have := congrArg List.length hql
    rw [List.length_take, List.length_drop] at this
    omega
  have HPL := Lib.hid (fun ao cap w hl ht => putList_any ls ao cap w hl (by omega) ht)
  generalize putL ls = U at *
  clear hql hqp
  have c5 : decide (q < J) = false := by simp; omega
  have e5 : I ≤ q := by omega
  have e6 : q ≤ s.length := by omega
  have c6 : decide (s.length < q) = false := by simp; omega
  simp only [hg, ht, hl, getV, getTV] at hA hC hG
  have HA := Lib.hid hA; have HC := Lib.hid hC; have HG := Lib.hid hG; clear hA hC hG hg ht hl
  go_enter Tryd.func7, Tryd.ntmps7
  go_wp2_with fail
  refine (HA.out _ HE.out).mono ?_
  rintro e w1 ⟨rfl, hb⟩
  have HB1 := Lib.hid hb; clear hb
  have HQ1 := Lib.hid (fun d os => HP.out (grow (redrawn w1 d) os) ((HE.out.later HB1.out).h10.later (below_regrown w1 d os)))
  go_wp2_with fail
  refine wp_region_quiet_below (by kernel_rfl) (by kernel_rfl) ?_
  repeat (quiet_step (exact Calls.regrown_of (HQ1.out _ _)))
  refine wpQuiet_nil ?_
  intro _ hw'
  obtain ⟨⟨dq1, osq1⟩, hw''⟩ := hw'
  subst hw''
  have HBq1 := Lib.hid (step2 HB1.out (below_regrown w1 dq1 osq1))
  generalize grow (redrawn w1 dq1) osq1 = wq1 at *
  go_wp2_with fail
  refine (HC.out _ (HE.out.later HBq1.out)).mono ?_
  rintro e w2 ⟨rfl, hb⟩
  have HB2 := Lib.hid (step2 HBq1.out hb); clear hb
  go_wp2_with fail
  go_quiet (fail)
  have HBq2 := Lib.hid (below_drewN HB2.out nq)
  generalize w2.drewN nq = wq2 at *
  go_wp2_with fail
  refine (HG.out _ (HE.out.later HBq2.out)).mono ?_
  rintro e w3 ⟨v, rfl, ho, hb⟩
  simp only [Option.map_some, Option.map_none, Option.getD_some, Option.getD_none, Option.isSome_some, Option.isSome_none] at ho ⊢
  obtain ⟨ao, cap, rfl, hs⟩ := ho.slOf
  have HS := Lib.hid hs
  have HB3 := Lib.hid (step2 HBq2.out hb); clear hb ho hs
  have HQ3 := Lib.hid (fun d os => HPL.out _ _ (grow (redrawn w3 d) os) (HS.out.later lasts_str (below_regrown w3 d os)) ((HE.out.later HB3.out).h10.later (below_regrown w3 d os)))
  go_wp2_with fail
  refine wp_region_quiet_below (by kernel_rfl) (by kernel_rfl) ?_
  repeat (quiet_step (exact Calls.regrown_of (HQ3.out _ _)))
  refine wpQuiet_nil ?_
  intro _ hw'
  obtain ⟨⟨dq3, osq3⟩, hw''⟩ := hw'
  subst hw''
  have HBq3 := Lib.hid (step2 HB3.out (below_regrown w3 dq3 osq3))
  generalize grow (redrawn w3 dq3) osq3 = wq3 at *
  go_wp2_with fail
  refine (does_post _ (HE.out.later HBq3.out) w HBq3.out).mono ?_
  rintro e w4 ⟨rfl, hb⟩
  have HB4 := Lib.hid hb; clear hb
  go_wp2_with fail
  go_returns
  exact ⟨rfl, HB4.out⟩

set_option maxRecDepth 100000 in
set_option maxHeartbeats 2000000 in
theorem way_tn (s : List UInt8) (i : Int) (w : World) (hs : ¬ 5000 < s.length) (he : Env w) (n j : Int) (hg : getAt s i = some (n, j)) (x : List UInt8) (p : Int) (ht : getTAt s i = some (x, p)) (hl : getLAt s i = none) :
    Calls Tryd.prog 7 #[.string ⟨s.toArray⟩, .int .i64 i] w fun e w' => e = .returned (.bool true) ∧ Below w.heap.size w w' := by
  have HE := Lib.hid he; clear he
  have hA := fun w he => get_any s i w (by unfold maxLen; omega) he
  have hC := fun w he => getText_any s i w (by unfold maxLen; omega) he
  have hG := fun w he => getList_any s i w (by omega) he
  have h0 := getAt_some hg
  obtain ⟨I, rfl⟩ := Int.eq_ofNat_of_zero_le h0.1
  obtain ⟨N, rfl⟩ := Int.eq_ofNat_of_zero_le h0.2.1
  obtain ⟨J, rfl⟩ := Int.eq_ofNat_of_zero_le (show 0 ≤ j by omega)
  obtain ⟨_, _, hN, hIJ, hJ, hJP, hdr⟩ := h0
  simp only [Int.toNat_natCast] at hdr
  have hX1 : (⟨s.toArray⟩ : ByteArray).extract I J = ⟨(putN N).toArray⟩ := wayX (by rw [hdr, show J - I = (putN N).length by omega, List.take_left])
  have HP := Lib.hid (fun w ht => put_any (N : Int) w (by omega) (by omega) ht)
  generalize putN (N : Int) = S at *
  clear hdr hJP
  have c1 : decide (J ≤ I) = false := by simp; omega
  have e1 : I ≤ J := by omega
  have e2 : J ≤ s.length := by omega
  have c2 : decide (s.length < J) = false := by simp; omega
  obtain ⟨_, k1, hk1, hkp, hps, hpp, hpt⟩ := getTAt_way (by omega) ht
  rw [hg] at hk1
  simp only [Option.some.injEq, Prod.mk.injEq] at hk1
  obtain ⟨rfl, rfl⟩ := hk1
  obtain ⟨p, rfl⟩ := Int.eq_ofNat_of_zero_le (show 0 ≤ p by omega)
  rw [Int.toNat_natCast, show (((p : Nat) : Int) - (I : Int)).toNat = p - I by omega] at hpt
  have hX2 : (⟨s.toArray⟩ : ByteArray).extract I p = ⟨(putT x).toArray⟩ := wayX hpt
  have hxl : x.length ≤ 5000 := by
    have := congrArg List.length hpt
    rw [List.length_take, List.length_drop] at this
    unfold putT at this
    rw [List.length_append] at this; omega
  have HPT := Lib.hid (fun w ht => putText_any x w (by omega) ht)
  generalize putT x = T at *
  clear hpt hpp
  have c3 : decide (p < J) = false := by simp; omega
  have e3 : I ≤ p := by omega
  have e4 : p ≤ s.length := by omega
  have c4 : decide (s.length < p) = false := by simp; omega
  simp only [hg, ht, hl, getV, getTV] at hA hC hG
  have HA := Lib.hid hA; have HC := Lib.hid hC; have HG := Lib.hid hG; clear hA hC hG hg ht hl
  go_enter Tryd.func7, Tryd.ntmps7
  go_wp2_with fail
  refine (HA.out _ HE.out).mono ?_
  rintro e w1 ⟨rfl, hb⟩
  have HB1 := Lib.hid hb; clear hb
  have HQ1 := Lib.hid (fun d os => HP.out (grow (redrawn w1 d) os) ((HE.out.later HB1.out).h10.later (below_regrown w1 d os)))
  go_wp2_with fail
  refine wp_region_quiet_below (by kernel_rfl) (by kernel_rfl) ?_
  repeat (quiet_step (exact Calls.regrown_of (HQ1.out _ _)))
  refine wpQuiet_nil ?_
  intro _ hw'
  obtain ⟨⟨dq1, osq1⟩, hw''⟩ := hw'
  subst hw''
  have HBq1 := Lib.hid (step2 HB1.out (below_regrown w1 dq1 osq1))
  generalize grow (redrawn w1 dq1) osq1 = wq1 at *
  go_wp2_with fail
  refine (HC.out _ (HE.out.later HBq1.out)).mono ?_
  rintro e w2 ⟨rfl, hb⟩
  have HB2 := Lib.hid (step2 HBq1.out hb); clear hb
  have HQ2 := Lib.hid (fun d os => HPT.out (grow (redrawn w2 d) os) ((HE.out.later HB2.out).h10.later (below_regrown w2 d os)))
  go_wp2_with fail
  refine wp_region_quiet_below (by kernel_rfl) (by kernel_rfl) ?_
  repeat (quiet_step (exact Calls.regrown_of (HQ2.out _ _)))
  refine wpQuiet_nil ?_
  intro _ hw'
  obtain ⟨⟨dq2, osq2⟩, hw''⟩ := hw'
  subst hw''
  have HBq2 := Lib.hid (step2 HB2.out (below_regrown w2 dq2 osq2))
  generalize grow (redrawn w2 dq2) osq2 = wq2 at *
  go_wp2_with fail
  refine (HG.out _ (HE.out.later HBq2.out)).mono ?_
  rintro e w3 ⟨v, rfl, ho, hb⟩
  simp only [Option.map_some, Option.map_none, Option.getD_some, Option.getD_none, Option.isSome_some, Option.isSome_none] at ho ⊢
  obtain ⟨ao, cap, rfl, hs⟩ := ho.slOf
  have HS := Lib.hid hs
  have HB3 := Lib.hid (step2 HBq2.out hb); clear hb ho hs
  go_wp2_with fail
  go_quiet (fail)
  have HBq3 := Lib.hid (below_drewN HB3.out nq)
  generalize w3.drewN nq = wq3 at *
  go_wp2_with fail
  refine (does_post _ (HE.out.later HBq3.out) w HBq3.out).mono ?_
  rintro e w4 ⟨rfl, hb⟩
  have HB4 := Lib.hid hb; clear hb
  go_wp2_with fail
  go_returns
  exact ⟨rfl, HB4.out⟩

set_option maxRecDepth 100000 in
set_option maxHeartbeats 2000000 in
theorem way_tl (s : List UInt8) (i : Int) (w : World) (hs : ¬ 5000 < s.length) (he : Env w) (n j : Int) (hg : getAt s i = some (n, j)) (x : List UInt8) (p : Int) (ht : getTAt s i = some (x, p)) (ls : List (List UInt8)) (q : Int) (hl : getLAt s i = some (ls, q)) :
    Calls Tryd.prog 7 #[.string ⟨s.toArray⟩, .int .i64 i] w fun e w' => e = .returned (.bool true) ∧ Below w.heap.size w w' := by
  have HE := Lib.hid he; clear he
  have hA := fun w he => get_any s i w (by unfold maxLen; omega) he
  have hC := fun w he => getText_any s i w (by unfold maxLen; omega) he
  have hG := fun w he => getList_any s i w (by omega) he
  have h0 := getAt_some hg
  obtain ⟨I, rfl⟩ := Int.eq_ofNat_of_zero_le h0.1
  obtain ⟨N, rfl⟩ := Int.eq_ofNat_of_zero_le h0.2.1
  obtain ⟨J, rfl⟩ := Int.eq_ofNat_of_zero_le (show 0 ≤ j by omega)
  obtain ⟨_, _, hN, hIJ, hJ, hJP, hdr⟩ := h0
  simp only [Int.toNat_natCast] at hdr
  have hX1 : (⟨s.toArray⟩ : ByteArray).extract I J = ⟨(putN N).toArray⟩ := wayX (by rw [hdr, show J - I = (putN N).length by omega, List.take_left])
  have HP := Lib.hid (fun w ht => put_any (N : Int) w (by omega) (by omega) ht)
  generalize putN (N : Int) = S at *
  clear hdr hJP
  have c1 : decide (J ≤ I) = false := by simp; omega
  have e1 : I ≤ J := by omega
  have e2 : J ≤ s.length := by omega
  have c2 : decide (s.length < J) = false := by simp; omega
  obtain ⟨_, k1, hk1, hkp, hps, hpp, hpt⟩ := getTAt_way (by omega) ht
  rw [hg] at hk1
  simp only [Option.some.injEq, Prod.mk.injEq] at hk1
  obtain ⟨rfl, rfl⟩ := hk1
  obtain ⟨p, rfl⟩ := Int.eq_ofNat_of_zero_le (show 0 ≤ p by omega)
  rw [Int.toNat_natCast, show (((p : Nat) : Int) - (I : Int)).toNat = p - I by omega] at hpt
  have hX2 : (⟨s.toArray⟩ : ByteArray).extract I p = ⟨(putT x).toArray⟩ := wayX hpt
  have hxl : x.length ≤ 5000 := by
    have := congrArg List.length hpt
    rw [List.length_take, List.length_drop] at this
    unfold putT at this
    rw [List.length_append] at this; omega
  have HPT := Lib.hid (fun w ht => putText_any x w (by omega) ht)
  generalize putT x = T at *
  clear hpt hpp
  have c3 : decide (p < J) = false := by simp; omega
  have e3 : I ≤ p := by omega
  have e4 : p ≤ s.length := by omega
  have c4 : decide (s.length < p) = false := by simp; omega
  obtain ⟨_, k2, hk2, hkq, hqs, hqp, hql⟩ := getLAt_way (by omega) hl
  rw [hg] at hk2
  simp only [Option.some.injEq, Prod.mk.injEq] at hk2
  obtain ⟨rfl, rfl⟩ := hk2
  obtain ⟨q, rfl⟩ := Int.eq_ofNat_of_zero_le (show 0 ≤ q by omega)
  rw [Int.toNat_natCast, show (((q : Nat) : Int) - (I : Int)).toNat = q - I by omega] at hql
  have hX3 : (⟨s.toArray⟩ : ByteArray).extract I q = ⟨(putL ls).toArray⟩ := wayX hql
  have hll : (putL ls).length ≤ 5000 := by
    have := congrArg List.length hql
    rw [List.length_take, List.length_drop] at this
    omega
  have HPL := Lib.hid (fun ao cap w hl ht => putList_any ls ao cap w hl (by omega) ht)
  generalize putL ls = U at *
  clear hql hqp
  have c5 : decide (q < J) = false := by simp; omega
  have e5 : I ≤ q := by omega
  have e6 : q ≤ s.length := by omega
  have c6 : decide (s.length < q) = false := by simp; omega
  simp only [hg, ht, hl, getV, getTV] at hA hC hG
  have HA := Lib.hid hA; have HC := Lib.hid hC; have HG := Lib.hid hG; clear hA hC hG hg ht hl
  go_enter Tryd.func7, Tryd.ntmps7
  go_wp2_with fail
  refine (HA.out _ HE.out).mono ?_
  rintro e w1 ⟨rfl, hb⟩
  have HB1 := Lib.hid hb; clear hb
  have HQ1 := Lib.hid (fun d os => HP.out (grow (redrawn w1 d) os) ((HE.out.later HB1.out).h10.later (below_regrown w1 d os)))
  go_wp2_with fail
  refine wp_region_quiet_below (by kernel_rfl) (by kernel_rfl) ?_
  repeat (quiet_step (exact Calls.regrown_of (HQ1.out _ _)))
  refine wpQuiet_nil ?_
  intro _ hw'
  obtain ⟨⟨dq1, osq1⟩, hw''⟩ := hw'
  subst hw''
  have HBq1 := Lib.hid (step2 HB1.out (below_regrown w1 dq1 osq1))
  generalize grow (redrawn w1 dq1) osq1 = wq1 at *
  go_wp2_with fail
  refine (HC.out _ (HE.out.later HBq1.out)).mono ?_
  rintro e w2 ⟨rfl, hb⟩
  have HB2 := Lib.hid (step2 HBq1.out hb); clear hb
  have HQ2 := Lib.hid (fun d os => HPT.out (grow (redrawn w2 d) os) ((HE.out.later HB2.out).h10.later (below_regrown w2 d os)))
  go_wp2_with fail
  refine wp_region_quiet_below (by kernel_rfl) (by kernel_rfl) ?_
  repeat (quiet_step (exact Calls.regrown_of (HQ2.out _ _)))
  refine wpQuiet_nil ?_
  intro _ hw'
  obtain ⟨⟨dq2, osq2⟩, hw''⟩ := hw'
  subst hw''
  have HBq2 := Lib.hid (step2 HB2.out (below_regrown w2 dq2 osq2))
  generalize grow (redrawn w2 dq2) osq2 = wq2 at *
  go_wp2_with fail
  refine (HG.out _ (HE.out.later HBq2.out)).mono ?_
  rintro e w3 ⟨v, rfl, ho, hb⟩
  simp only [Option.map_some, Option.map_none, Option.getD_some, Option.getD_none, Option.isSome_some, Option.isSome_none] at ho ⊢
  obtain ⟨ao, cap, rfl, hs⟩ := ho.slOf
  have HS := Lib.hid hs
  have HB3 := Lib.hid (step2 HBq2.out hb); clear hb ho hs
  have HQ3 := Lib.hid (fun d os => HPL.out _ _ (grow (redrawn w3 d) os) (HS.out.later lasts_str (below_regrown w3 d os)) ((HE.out.later HB3.out).h10.later (below_regrown w3 d os)))
  go_wp2_with fail
  refine wp_region_quiet_below (by kernel_rfl) (by kernel_rfl) ?_
  repeat (quiet_step (exact Calls.regrown_of (HQ3.out _ _)))
  refine wpQuiet_nil ?_
  intro _ hw'
  obtain ⟨⟨dq3, osq3⟩, hw''⟩ := hw'
  subst hw''
  have HBq3 := Lib.hid (step2 HB3.out (below_regrown w3 dq3 osq3))
  generalize grow (redrawn w3 dq3) osq3 = wq3 at *
  go_wp2_with fail
  refine (does_post _ (HE.out.later HBq3.out) w HBq3.out).mono ?_
  rintro e w4 ⟨rfl, hb⟩
  have HB4 := Lib.hid hb; clear hb
  go_wp2_with fail
  go_returns
  exact ⟨rfl, HB4.out⟩


theorem numsWay_any (s : List UInt8) (i : Int) (w : World) (he : Env w) :
    Calls Tryd.prog 7 #[.string ⟨s.toArray⟩, .int .i64 i] w fun e w' => e = .returned (.bool true) ∧ Below w.heap.size w w' := by
  by_cases hs : 5000 < s.length
  · go_enter Tryd.func7, Tryd.ntmps7
    go_wp2_with fail
    go_returns
    exact ⟨rfl, Below.refl _ _⟩
  · cases hg : getAt s i with
    | none => exact way_none s i w hs he hg
    | some x =>
      cases ht : getTAt s i with
      | none => cases hl : getLAt s i with
        | none => exact way_nn s i w hs he _ _ hg ht hl
        | some y => exact way_nl s i w hs he _ _ hg ht _ _ hl
      | some z => cases hl : getLAt s i with
        | none => exact way_tn s i w hs he _ _ hg _ _ ht hl
        | some y => exact way_tl s i w hs he _ _ hg _ _ ht _ _ hl
end Go.Proofs.YtnjbnncmpdpkfaaDoor
