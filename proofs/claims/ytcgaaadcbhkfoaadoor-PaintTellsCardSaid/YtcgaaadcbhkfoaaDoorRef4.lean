/- The walk of the reference's Diff. -/
import Derived.Test.YtcgaaadcbhkfoaaDoorRef2
import Derived.Test.YtcgaaadcbhkfoaaDoorRef3
import Derived.Test.YtcgaaadcbhkfoaaDoorPaint6
import Derived.Lib.QuietBelow
namespace Go.Proofs.YtcgaaadcbhkfoaaDoor
open Go Go.Proofs Go.RowKit Go.Ink

set_option maxHeartbeats 1000000 in
theorem refDiff_no (f t : Grd) (ao1 ao2 : Option Addr) (cap1 cap2 : Nat) (w : World) (hf : SlOf IsBytes w ao1 cap1 f.cells) (ht : SlOf IsBytes w ao2 cap2 t.cells) (hno : diffOk f t = false) :
    Calls Tryd.prog 8 #[gridV f ao1 cap1, gridV t ao2 cap2] w
      fun e w' => e = .returned (.tuple #[.string ⟨#[]⟩, .int .i64 2]) ∧ Below w.heap.size w w' := by
  have HF := Lib.hid hf; clear hf
  have HT := Lib.hid ht; clear ht
  have HNO := Lib.hid hno; clear hno
  simp only [gridV]
  cases hto : t.ok
  case false =>
    have HTO := Lib.hid hto; clear hto
    go_enter Tryd.func8, Tryd.ntmps8
    go_wp2_with fail
    refine (refCheck_any t _ _ _ (HT.out.later lasts_bytes (below_two _ _))).mono ?_
    rintro e w2 ⟨rfl, hb2⟩
    rw [HTO.out, okI_false]
    have HB2 := Lib.hid ((below_two _ _).trans (hb2.mono (by simp; omega))); clear hb2
    go_wp2_with fail
    go_returns
    exact ⟨rfl, HB2.out⟩
  have HTO := Lib.hid hto; clear hto
  cases hfo : f.ok
  case false =>
    have HFO := Lib.hid hfo; clear hfo
    go_enter Tryd.func8, Tryd.ntmps8
    go_wp2_with fail
    refine (refCheck_any t _ _ _ (HT.out.later lasts_bytes (below_two _ _))).mono ?_
    rintro e w2 ⟨rfl, hb2⟩
    rw [HTO.out, okI_true]
    obtain ⟨c0, c1, c2, c3, c4⟩ := (box_one hb2).cells
    have HB2 := Lib.hid ((below_two _ _).trans (hb2.mono (by simp; omega))); clear hb2
    go_wp2_with fail
    refine (refCheck_any f _ _ _ (HF.out.later lasts_bytes HB2.out)).mono ?_
    rintro e w3 ⟨rfl, hb3⟩
    rw [HFO.out, okI_false]
    have HB3 := Lib.hid (HB2.out.trans (hb3.mono HB2.out.size)); clear hb3
    go_wp2_with fail
    go_returns
    exact ⟨rfl, HB3.out⟩
  have HFO := Lib.hid hfo; clear hfo
  cases hr : (f.rows != t.rows)
  all_goals cases hc : (f.cols != t.cols)
  case false.false => exact absurd HNO.out (by unfold diffOk; rw [HTO.out, HFO.out, hr, hc]; decide)
  all_goals
    go_enter Tryd.func8, Tryd.ntmps8
    go_wp2_with fail
    refine (refCheck_any t _ _ _ (HT.out.later lasts_bytes (below_two _ _))).mono ?_
    rintro e w2 ⟨rfl, hb2⟩
    rw [HTO.out, okI_true]
    have HX2 := Lib.hid (box_one hb2)
    have HY2 := Lib.hid (box_two hb2)
    obtain ⟨c0, c1, c2, c3, c4⟩ := HX2.out.cells
    have HB2 := Lib.hid ((below_two _ _).trans (hb2.mono (by simp; omega))); clear hb2
    go_wp2_with fail
    refine (refCheck_any f _ _ _ (HF.out.later lasts_bytes HB2.out)).mono ?_
    rintro e w3 ⟨rfl, hb3⟩
    rw [HFO.out, okI_true]
    obtain ⟨d0, d1, d2, d3, d4⟩ := (HX2.out.later hb3).cells
    obtain ⟨e0, e1, e2, e3, e4⟩ := (HY2.out.later hb3).cells
    have HB3 := Lib.hid (HB2.out.trans (hb3.mono HB2.out.size)); clear hb3
    go_wp2_with fail
    go_returns
    exact ⟨rfl, HB3.out⟩

set_option maxHeartbeats 2000000 in
theorem refDiff_yes (f t : Grd) (ao1 ao2 : Option Addr) (cap1 cap2 : Nat) (w : World) (hf : SlOf IsBytes w ao1 cap1 f.cells) (ht : SlOf IsBytes w ao2 cap2 t.cells) (h10 : Tab10 w) (hok : diffOk f t = true) :
    Calls Tryd.prog 8 #[gridV f ao1 cap1, gridV t ao2 cap2] w
      fun e w' => e = .returned (.tuple #[.string ⟨(diffBody f t).toArray⟩, .int .i64 0]) ∧ Below w.heap.size w w' := by
  have HF := Lib.hid hf; clear hf
  have HT := Lib.hid ht; clear ht
  have H10 := Lib.hid h10; clear h10
  unfold diffOk at hok
  simp only [Bool.and_eq_true, Bool.not_eq_true'] at hok
  obtain ⟨⟨⟨hto, hfo⟩, hr⟩, hc⟩ := hok
  have HTO := Lib.hid hto; clear hto
  have HFO := Lib.hid hfo; clear hfo
  simp only [gridV]
  go_enter Tryd.func8, Tryd.ntmps8
  go_wp2_with fail
  refine (refCheck_any t _ _ _ (HT.out.later lasts_bytes (below_two _ _))).mono ?_
  rintro e w2 ⟨rfl, hb2⟩
  rw [HTO.out, okI_true]
  have HX2 := Lib.hid (box_one hb2)
  have HY2 := Lib.hid (box_two hb2)
  obtain ⟨c0, c1, c2, c3, c4⟩ := HX2.out.cells
  have HB2 := Lib.hid ((below_two _ _).trans (hb2.mono (by simp; omega))); clear hb2
  go_wp2_with fail
  refine (refCheck_any f _ _ _ (HF.out.later lasts_bytes HB2.out)).mono ?_
  rintro e w3 ⟨rfl, hb3⟩
  rw [HFO.out, okI_true]
  have HD := Lib.hid (show DiffAt f t ao1 ao2 cap1 cap2 w.heap.size (w.heap.size + 1) w3 from
    ⟨HF.out.later lasts_bytes (HB2.out.trans (hb3.mono HB2.out.size)), HT.out.later lasts_bytes (HB2.out.trans (hb3.mono HB2.out.size)), HX2.out.later hb3, HY2.out.later hb3, H10.out.later (HB2.out.trans (hb3.mono HB2.out.size))⟩)
  have HB3 := Lib.hid (HB2.out.trans (hb3.mono HB2.out.size)); clear hb3
  clear HX2 HY2 c0 c1 c2 c3 c4 HB2 HF HT H10
  obtain ⟨d0, d1, d2, d3, d4⟩ := HD.out.hx.cells
  obtain ⟨e0, e1, e2, e3, e4⟩ := HD.out.hy.cells
  have hs1 := HD.out.hx.lt
  have hs2 := HD.out.hy.lt
  have hlen := Grd.ok_rows HTO.out
  have hlen' := Grd.ok_rows HFO.out
  have hre : f.rows = t.rows := by simpa using hr
  have hce : f.cols = t.cols := by simpa using hc
  have HRE := Lib.hid hre; clear hre
  have HCE := Lib.hid hce; clear hce
  have hn : (t.cells.length : Int) = t.rows := hlen.1
  have h60 : t.cells.length ≤ 60 := by omega
  have HN := Lib.hid hn; clear hn
  have HL := Lib.hid hlen; clear hlen
  have HL' := Lib.hid hlen'; clear hlen'
  go_wp2_with fail
  go_loopw [7, 8] (fun o i wr => ∃ k : Nat, i = .int .i64 k ∧ o = .string ⟨(rowsTo f.cells t.cells k).toArray⟩ ∧ k ≤ t.cells.length ∧ Hid (Below w3.heap.size w3 wr)) (fun _ i _ => t.cells.length - (intOf i).toNat)
  case atStart => exact ⟨0, rfl, rfl, by omega, Below.refl _ _⟩
  case round =>
    obtain ⟨k, rfl, rfl, hk, HB⟩ := hrel
    have hN := HN.out
    clear d0 d1 d2 d3 d4 e0 e1 e2 e3 e4
    obtain ⟨d0, d1, d2, d3, d4⟩ := (HD.out.later HB.out).hx.cells
    obtain ⟨e0, e1, e2, e3, e4⟩ := (HD.out.later HB.out).hy.cells
    by_cases hlt : k < t.cells.length
    · have hlti : (k : Int) < t.rows := by omega
      clear hN
      obtain ⟨lt, hkt⟩ : ∃ c, t.cells[k]? = some c := ⟨_, List.getElem?_eq_getElem hlt⟩
      obtain ⟨lf, hkf⟩ : ∃ c, f.cells[k]? = some c := ⟨_, List.getElem?_eq_getElem (by have := HL.out; have := HL'.out; have := HRE.out; omega)⟩
      obtain ⟨g2, off2, u2, hao2, hcell2, ao2', cap2', hu2, hrow2⟩ := (HD.out.later HB.out).ht.2.2.2 k lt hkt
      obtain ⟨g1, off1, u1, hao1, hcell1, ao1', cap1', hu1, hrow1⟩ := (HD.out.later HB.out).hf.2.2.2 k lf hkf
      subst hao1 hao2 hu1 hu2
      have h1f : (k : Int) < (f.cells.length : Int) := by have := HL.out; have := HL'.out; have := HRE.out; omega
      have h1t : (k : Int) < (t.cells.length : Int) := by omega
      have hrows : lf.length = lt.length := by
        have h1 := (Grd.ok_row HTO.out hkt).1; have h2 := (Grd.ok_row HFO.out hkf).1; have h3 := HCE.out; omega
      have hlt132 : lt.length ≤ 132 := by have h2 := (Grd.ok_row HTO.out hkt).1; have h3 := HL.out; omega
      have hstep := Lib.hid (show rowsTo f.cells t.cells (k + 1) = rowsTo f.cells t.cells k ++ rowS k lf lt by
        rw [rowsTo, List.getD_eq_getElem?_getD, List.getD_eq_getElem?_getD, hkt, hkf]; rfl)
      have hl1 := rowsTo_le (f := f) HTO.out k hk
      have hl2 := rowS_len k lf lt
      have H10 := Lib.hid (HD.out.later HB.out).h10
      have HC := Lib.hid (show ∀ (d : Nat) (os : Array Obj), Calls Tryd.prog 20 #[.int .i64 k, .slice ao1' lf.length cap1', .slice ao2' lt.length cap2'] (Sort.grow (redrawn wr d) os)
          fun e w' => e = .returned (.string ⟨(rowS k lf lt).toArray⟩) ∧ Below (Sort.grow (redrawn wr d) os).heap.size (Sort.grow (redrawn wr d) os) w' from fun d os =>
        refRow_any k ao1' ao2' cap1' cap2' lf lt _ hrows (hrow1.later lasts_byte (below_regrown wr d os)) (hrow2.later lasts_byte (below_regrown wr d os)) (H10.out.later (below_regrown wr d os)) (by omega))
      generalize rowS k lf lt = rl at *
      generalize rowsTo f.cells t.cells k = rs at *
      have hlen : ¬ 9223372036854775807 < rs.length + rl.length := by omega
      have c1 := fun d os => cell_regrown hcell1 d os
      have c2 := fun d os => cell_regrown hcell2 d os
      have x2 := fun d os => cell_regrown d2 d os
      have y2 := fun d os => cell_regrown e2 d os
      clear hkt hkf hrow1 hrow2 hrows hlt132 hl1 hl2
      go_wp2_with fail
      refine wp_region_quiet_below (by kernel_rfl) (by kernel_rfl) ?_
      repeat (quiet_step (exact Calls.regrown_of (HC.out _ _)))
      refine wpQuiet_nil ?_
      intro _ hw'
      obtain ⟨⟨dq, osq⟩, hw''⟩ := hw'
      subst hw''
      have HB4 := Lib.hid (HB.out.trans ((below_regrown wr dq osq).mono HB.out.size))
      go_wp2_with fail
      go_roundw
      case rel => exact ⟨k + 1, by go_num, by rw [hstep.out]; exact congrArg Value.string (mk_append rs rl), by omega, HB4⟩
      case measure => simp [intOf] <;> omega
    · have hkt : k = t.cells.length := by omega
      subst hkt
      have hnlt : ¬ ((t.cells.length : Nat) : Int) < t.rows := by omega
      clear hN
      have hlen1 := rowsTo_le (f := f) HTO.out t.cells.length (Nat.le_refl _)
      have hbody : Hid (diffBody f t = rowsTo f.cells t.cells t.cells.length ++ if decide (0 < (rowsTo f.cells t.cells t.cells.length).length) || (f.row != t.row) || (f.col != t.col) then goS t.row t.col else []) := rfl
      generalize rowsTo f.cells t.cells t.cells.length = rs at *
      have HB' : Hid (Below w.heap.size w wr) := HB3.out.trans (HB.out.mono HB3.out.size)
      by_cases hre : rs = []
      · subst hre
        cases hrr : (f.row != t.row)
        all_goals cases hcc : (f.col != t.col)
        case false.false =>
          have hfin : Hid (diffBody f t = []) := by rw [hbody.out, hrr, hcc]; exact Lib.hid rfl
          clear hbody
          go_wp2_with fail
          go_returns
          refine ⟨?_, HB'.out⟩
          rw [hfin.out]
          rfl
        all_goals
          have hfin : Hid (diffBody f t = goS t.row t.col) := by rw [hbody.out, hrr, hcc]; exact Lib.hid rfl
          clear hbody
          go_wp2_with fail
          refine (refGo_any _ _ _ (HD.out.h10.later HB.out)).mono ?_
          rintro e w5 ⟨rfl, hb5⟩
          have hg := goS_le t.row t.col
          generalize goS t.row t.col = gs at *
          have HB5 := Lib.hid (HB'.out.trans (hb5.mono HB'.out.size)); clear hb5
          go_wp2_with fail
          go_returns
          refine ⟨?_, HB5.out⟩
          rw [hfin.out]
          exact congrArg (fun s => Ending.returned (.tuple #[.string s, .int .i64 0])) (mk_append [] gs)
      · have hpos : 0 < rs.length := by cases rs with | nil => exact absurd rfl hre | cons => simp
        have hfin : Hid (diffBody f t = rs ++ goS t.row t.col) := by rw [hbody.out, decide_eq_true hpos]; exact Lib.hid rfl
        have hne : (rs != []) = true := by simpa using hre
        have hne2 : ¬ rs = [] := hre
        clear hbody
        go_wp2_with fail
        refine (refGo_any _ _ _ (HD.out.h10.later HB.out)).mono ?_
        rintro e w5 ⟨rfl, hb5⟩
        have hg := goS_le t.row t.col
        generalize goS t.row t.col = gs at *
        have HB5 := Lib.hid (HB'.out.trans (hb5.mono HB'.out.size)); clear hb5
        have hcat : ¬ 9223372036854775807 < rs.length + gs.length := by omega
        go_wp2_with fail
        go_returns
        refine ⟨?_, HB5.out⟩
        rw [hfin.out]
        exact congrArg (fun s => Ending.returned (.tuple #[.string s, .int .i64 0])) (mk_append rs gs)

theorem refDiff_any (f t : Grd) (ao1 ao2 : Option Addr) (cap1 cap2 : Nat) (w : World) (hf : SlOf IsBytes w ao1 cap1 f.cells) (ht : SlOf IsBytes w ao2 cap2 t.cells) (h10 : Tab10 w) :
    Calls Tryd.prog 8 #[gridV f ao1 cap1, gridV t ao2 cap2] w
      fun e w' => e = .returned (.tuple #[.string ⟨(diffS f t).toArray⟩, .int .i64 (okI (diffOk f t))]) ∧ Below w.heap.size w w' := by
  cases h : diffOk f t with
  | true => rw [diffS, if_pos h, okI_true]; exact refDiff_yes f t ao1 ao2 cap1 cap2 w hf ht h10 h
  | false => rw [diffS, if_neg (by rw [h]; decide), okI_false]; exact refDiff_no f t ao1 ao2 cap1 cap2 w hf ht h
end Go.Proofs.YtcgaaadcbhkfoaaDoor
