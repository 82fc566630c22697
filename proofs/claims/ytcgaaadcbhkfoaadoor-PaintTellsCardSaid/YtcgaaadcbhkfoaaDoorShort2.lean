/- The walk of the law PaintShort: it answers true. -/
import Derived.Test.YtcgaaadcbhkfoaaDoorShort1
namespace Go.Proofs.YtcgaaadcbhkfoaaDoor
open Go Go.Proofs Go.RowKit Go.Ink

theorem not_beyond {g : Grd} (h : g.ok = true) : beyondB g = false := by
  have a := Grd.ok_rows h
  unfold beyondB
  rw [decide_eq_false (by omega), Bool.false_or, List.any_eq_false]
  intro x hx
  obtain ⟨i, hi, rfl⟩ := List.mem_iff_getElem.1 hx
  have := (Grd.ok_row h (List.getElem?_eq_getElem hi)).1
  simp; omega

set_option maxHeartbeats 1000000 in
theorem short_no (f t : Grd) (ao1 ao2 : Option Addr) (cap1 cap2 : Nat) (w : World) (hf : SlOf IsBytes w ao1 cap1 f.cells) (ht : SlOf IsBytes w ao2 cap2 t.cells) (h10 : Tab10 w) (hno : diffOk f t = false) :
    Calls Tryd.prog 3 #[gridV f ao1 cap1, gridV t ao2 cap2] w fun e w' => e = .returned (.bool true) ∧ Below w.heap.size w w' := by
  have HF := Lib.hid hf; clear hf
  have HT := Lib.hid ht; clear ht
  have H10 := Lib.hid h10; clear h10
  have HNO := Lib.hid hno; clear hno
  simp only [gridV]
  cases hbf : beyondB f
  case true =>
    have HBF := Lib.hid hbf; clear hbf
    go_enter Tryd.func3, Tryd.ntmps3
    go_wp2_with fail
    refine (diff_no f t ao1 ao2 cap1 cap2 _ (HF.out.later lasts_bytes (below_two _ _)) (HT.out.later lasts_bytes (below_two _ _)) HNO.out).mono ?_
    rintro e w2 ⟨rfl, hb2⟩
    have HX2 := Lib.hid (box_one hb2)
    have HB2 := Lib.hid ((below_two _ _).trans (hb2.mono (by simp; omega))); clear hb2
    obtain ⟨c0, c1, c2, c3, c4⟩ := HX2.out.cells
    go_wp2_with fail
    refine (beyond_any f _ _ _ (HF.out.later lasts_bytes HB2.out)).mono ?_
    rintro e w3 ⟨rfl, hb3⟩
    rw [HBF.out]
    have HB3 := Lib.hid (HB2.out.trans (hb3.mono HB2.out.size)); clear hb3
    go_wp2_with fail
    refine (lives_any _ (H10.out.later HB3.out)).mono ?_
    rintro e w4 ⟨rfl, hb4⟩
    have HB4 := Lib.hid (HB3.out.trans (hb4.mono HB3.out.size)); clear hb4
    go_wp2_with fail
    go_ret
    exact ⟨rfl, HB4.out⟩
  have HBF := Lib.hid hbf; clear hbf
  cases hbt : beyondB t
  all_goals
    have HBT := Lib.hid hbt; clear hbt
    go_enter Tryd.func3, Tryd.ntmps3
    go_wp2_with fail
    refine (diff_no f t ao1 ao2 cap1 cap2 _ (HF.out.later lasts_bytes (below_two _ _)) (HT.out.later lasts_bytes (below_two _ _)) HNO.out).mono ?_
    rintro e w2 ⟨rfl, hb2⟩
    have HX2 := Lib.hid (box_one hb2)
    have HY2 := Lib.hid (box_two hb2)
    have HB2 := Lib.hid ((below_two _ _).trans (hb2.mono (by simp; omega))); clear hb2
    obtain ⟨c0, c1, c2, c3, c4⟩ := HX2.out.cells
    go_wp2_with fail
    refine (beyond_any f _ _ _ (HF.out.later lasts_bytes HB2.out)).mono ?_
    rintro e w3 ⟨rfl, hb3⟩
    rw [HBF.out]
    obtain ⟨d0, d1, d2, d3, d4⟩ := (HY2.out.later hb3).cells
    have HB3 := Lib.hid (HB2.out.trans (hb3.mono HB2.out.size)); clear hb3
    go_wp2_with fail
    refine (beyond_any t _ _ _ (HT.out.later lasts_bytes HB3.out)).mono ?_
    rintro e w4 ⟨rfl, hb4⟩
    rw [HBT.out]
    have HB4 := Lib.hid (HB3.out.trans (hb4.mono HB3.out.size)); clear hb4
    go_wp2_with fail
    refine (lives_any _ (H10.out.later HB4.out)).mono ?_
    rintro e w5 ⟨rfl, hb5⟩
    have HB5 := Lib.hid (HB4.out.trans (hb5.mono HB4.out.size)); clear hb5
    go_wp2_with fail
    go_ret
    exact ⟨rfl, HB5.out⟩

set_option maxHeartbeats 2000000 in
theorem short_yes (f t : Grd) (ao1 ao2 : Option Addr) (cap1 cap2 : Nat) (w : World) (hf : SlOf IsBytes w ao1 cap1 f.cells) (ht : SlOf IsBytes w ao2 cap2 t.cells) (h10 : Tab10 w) (hok : diffOk f t = true) :
    Calls Tryd.prog 3 #[gridV f ao1 cap1, gridV t ao2 cap2] w fun e w' => e = .returned (.bool true) ∧ Below w.heap.size w w' := by
  have HF := Lib.hid hf; clear hf
  have HT := Lib.hid ht; clear ht
  have H10 := Lib.hid h10; clear h10
  have h' := hok
  unfold diffOk at h'
  simp only [Bool.and_eq_true, Bool.not_eq_true', bne_eq_false_iff_eq] at h'
  obtain ⟨⟨⟨hto, hfo⟩, hr⟩, hc⟩ := h'
  have HTO := Lib.hid hto
  have HFO := Lib.hid hfo
  have HR := Lib.hid hr
  have HBF := Lib.hid (not_beyond hfo)
  have HBT := Lib.hid (not_beyond hto); clear hto hfo hr hc
  have hsh := diff_short hok
  have hS := Lib.hid hsh; clear hsh
  have HDY := Lib.hid (show ∀ w : World, SlOf IsBytes w ao1 cap1 f.cells → SlOf IsBytes w ao2 cap2 t.cells → Tab10 w → Calls Tryd.prog 5 #[gridV f ao1 cap1, gridV t ao2 cap2] w
      fun e w' => e = .returned (.tuple #[.string ⟨(diffS f t).toArray⟩, .int .i64 0]) ∧ Below w.heap.size w w' from fun w a b c => by
    have := diff_any f t ao1 ao2 cap1 cap2 w a b c
    rwa [hok, okI_true] at this)
  clear hok
  generalize diffS f t = ds at *
  have ha := Grd.ok_rows HTO.out
  have hb := Grd.ok_rows HFO.out
  have h60 : t.cells.length ≤ 60 := by omega
  have hfl : f.cells.length = t.cells.length := by have := HR.out; omega
  have hN := Lib.hid ha.1
  have hcols1 : 8 ≤ t.cols := ha.2.2.2.1
  have hcols2 : t.cols ≤ 132 := ha.2.2.2.2.1
  clear ha hb
  have HFL := Lib.hid hfl; clear hfl
  simp only [gridV]
  go_enter Tryd.func3, Tryd.ntmps3
  go_wp2_with fail
  refine (HDY.out _ (HF.out.later lasts_bytes (below_two _ _)) (HT.out.later lasts_bytes (below_two _ _)) (H10.out.later (below_two _ _))).mono ?_
  rintro e w2 ⟨rfl, hb2⟩
  have HX2 := Lib.hid (box_one hb2)
  have HY2 := Lib.hid (box_two hb2)
  have HB2 := Lib.hid ((below_two _ _).trans (hb2.mono (by simp; omega))); clear hb2
  obtain ⟨c0, c1, c2, c3, c4⟩ := HX2.out.cells
  go_wp2_with fail
  refine (beyond_any f _ _ _ (HF.out.later lasts_bytes HB2.out)).mono ?_
  rintro e w3 ⟨rfl, hb3⟩
  rw [HBF.out]
  have HX3 := Lib.hid (HX2.out.later hb3)
  have HY3 := Lib.hid (HY2.out.later hb3)
  obtain ⟨d0, d1, d2, d3, d4⟩ := HY3.out.cells
  have HB3 := Lib.hid (HB2.out.trans (hb3.mono HB2.out.size)); clear hb3
  go_wp2_with fail
  refine (beyond_any t _ _ _ (HT.out.later lasts_bytes HB3.out)).mono ?_
  rintro e w4 ⟨rfl, hb4⟩
  rw [HBT.out]
  have HX4 := Lib.hid (HX3.out.later hb4)
  have HY4 := Lib.hid (HY3.out.later hb4)
  have HB4 := Lib.hid (HB3.out.trans (hb4.mono HB3.out.size)); clear hb4
  clear c0 c1 c2 c3 c4 d0 d1 d2 d3 d4 HX2 HX3 HY2 HY3 HB2 HB3
  obtain ⟨c0, c1, c2, c3, c4⟩ := HX4.out.cells
  obtain ⟨d0, d1, d2, d3, d4⟩ := HY4.out.cells
  go_wp2_with fail
  go_loopw [7, 8] (fun r i wr => ∃ k : Nat, i = .int .i64 k ∧ r = .int .i64 (countTo f.cells t.cells k) ∧ k ≤ t.cells.length ∧ ∃ n, wr = w4.drewN n) (fun _ i _ => t.cells.length - (intOf i).toNat)
  case atStart => exact ⟨0, rfl, rfl, by omega, 0, rfl⟩
  case round =>
    obtain ⟨k, rfl, rfl, hk, n, rfl⟩ := hrel
    have hcl := countTo_le f.cells t.cells k
    by_cases hlt : k < t.cells.length
    · have hlti : (k : Int) < t.rows := by have := hN.out; omega
      have hk1 : (k : Int) < (t.cells.length : Int) := by omega
      have hk2 : (k : Int) < (f.cells.length : Int) := by have := HFL.out; omega
      obtain ⟨lt, hkt⟩ : ∃ c, t.cells[k]? = some c := ⟨_, List.getElem?_eq_getElem hlt⟩
      obtain ⟨lf, hkf⟩ : ∃ c, f.cells[k]? = some c := ⟨_, List.getElem?_eq_getElem (by omega)⟩
      obtain ⟨g2, off2, u2, hao2, hcell2, ao2', cap2', hu2, hrow2⟩ := (HT.out.later lasts_bytes HB4.out).2.2.2 k lt hkt
      obtain ⟨g1, off1, u1, hao1, hcell1, ao1', cap1', hu1, hrow1⟩ := (HF.out.later lasts_bytes HB4.out).2.2.2 k lf hkf
      subst hao1 hao2 hu1 hu2
      have hcv1 := fun m : Nat => hrow1.convert (P := Tryd.prog) Tryd.underlying30 Tryd.underlying5 Tryd.underlying9 (below_drewN (Below.refl _ _) m)
      have hcv2 := fun m : Nat => hrow2.convert (P := Tryd.prog) Tryd.underlying30 Tryd.underlying5 Tryd.underlying9 (below_drewN (Below.refl _ _) m)
      clear hrow1 hrow2
      have hcnt : Hid (countTo f.cells t.cells (k + 1) = countTo f.cells t.cells k + if lf ≠ lt then 1 else 0) := by
        rw [countTo, List.getD_eq_getElem?_getD, List.getD_eq_getElem?_getD, hkf, hkt]; exact Lib.hid rfl
      clear hkt hkf
      go_wp2_with fail
      go_quiet (fail)
      go_wp2_with fail
      all_goals go_roundw
      case rel =>
        have hne : (!lf == lt) = true := by assumption
        exact ⟨k + 1, by go_num, by rw [hcnt.out, if_pos (by simpa using hne)]; go_num, by omega, _, rfl⟩
      case measure => simp [intOf] <;> omega
      case rel =>
        have hne : (!lf == lt) = false := by assumption
        exact ⟨k + 1, by go_num, by rw [hcnt.out, if_neg (by simpa using hne)]; go_num, by omega, _, rfl⟩
      case measure => simp [intOf] <;> omega
    · obtain rfl : k = t.cells.length := by omega
      have hnl : ¬ ((t.cells.length : Nat) : Int) < t.rows := by have := hN.out; omega
      have hS1 := hS.out.1
      have hS2 := Lib.hid hS.out.2
      clear hS
      generalize countTo f.cells t.cells t.cells.length = c at *
      obtain ⟨Pd, hPd, hPd1, hPd2⟩ : ∃ Pd : Int, (c : Int) * (t.cols + 12) = Pd ∧ 0 ≤ Pd ∧ Pd ≤ 8640 :=
        ⟨_, rfl, Int.mul_nonneg (by omega) (by omega), Int.le_trans (Int.mul_le_mul (show (c : Int) ≤ 60 by omega) (show t.cols + 12 ≤ 144 by omega) (by omega) (by omega)) (by omega)⟩
      rw [hPd] at hS1
      have HB5 := Lib.hid (below_drewN HB4.out n)
      by_cases hc0 : 0 < c
      · go_wp2_with fail
        refine (lives_any _ (H10.out.later HB5.out)).mono ?_
        rintro e w5 ⟨rfl, hb5⟩
        have HB6 := Lib.hid (HB5.out.trans (hb5.mono HB5.out.size)); clear hb5
        go_wp2_with fail
        go_ret
        exact ⟨rfl, HB6.out⟩
      · obtain rfl : c = 0 := by omega
        have hS3 := hS2.out rfl
        go_wp2_with fail
        refine (lives_any _ (H10.out.later HB5.out)).mono ?_
        rintro e w5 ⟨rfl, hb5⟩
        have HB6 := Lib.hid (HB5.out.trans (hb5.mono HB5.out.size)); clear hb5
        go_wp2_with fail
        go_ret
        exact ⟨rfl, HB6.out⟩

theorem short_any (f t : Grd) (ao1 ao2 : Option Addr) (cap1 cap2 : Nat) (w : World) (hf : SlOf IsBytes w ao1 cap1 f.cells) (ht : SlOf IsBytes w ao2 cap2 t.cells) (h10 : Tab10 w) :
    Calls Tryd.prog 3 #[gridV f ao1 cap1, gridV t ao2 cap2] w fun e w' => e = .returned (.bool true) ∧ Below w.heap.size w w' := by
  cases h : diffOk f t with
  | true => exact short_yes f t ao1 ao2 cap1 cap2 w hf ht h10 h
  | false => exact short_no f t ao1 ao2 cap1 cap2 w hf ht h10 h
end Go.Proofs.YtcgaaadcbhkfoaaDoor
