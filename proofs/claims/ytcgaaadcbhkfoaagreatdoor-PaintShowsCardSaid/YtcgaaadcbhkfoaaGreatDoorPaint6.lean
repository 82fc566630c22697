/- The walk of paint.Diff where both grids may be. -/
import Derived.Test.YtcgaaadcbhkfoaaGreatDoorPaint5
namespace Go.Proofs.YtcgaaadcbhkfoaaGreatDoor
open Go Go.Proofs Go.RowKit Go.Ink

/-- Nothing is known to be turned, and all that is looked at stands in world w3. -/
structure DiffAt (f t : Grd) (ao1 ao2 : Option Addr) (cap1 cap2 : Nat) (x y : Nat) (w : World) : Prop where
  hf : SlOf IsBytes w ao1 cap1 f.cells
  ht : SlOf IsBytes w ao2 cap2 t.cells
  hx : BoxG w x f ao1 cap1
  hy : BoxG w y t ao2 cap2
  h10 : Tab10 w
theorem DiffAt.later {f t : Grd} {ao1 ao2 : Option Addr} {cap1 cap2 : Nat} {x y : Nat} {w w' : World} (h : DiffAt f t ao1 ao2 cap1 cap2 x y w) (hb : Below w.heap.size w w') : DiffAt f t ao1 ao2 cap1 cap2 x y w' :=
  ⟨h.hf.later lasts_bytes hb, h.ht.later lasts_bytes hb, h.hx.later hb, h.hy.later hb, h.h10.later hb⟩

set_option maxRecDepth 100000 in
set_option maxHeartbeats 2000000 in
theorem diff_yes (f t : Grd) (ao1 ao2 : Option Addr) (cap1 cap2 : Nat) (w : World) (hf : SlOf IsBytes w ao1 cap1 f.cells) (ht : SlOf IsBytes w ao2 cap2 t.cells) (h10 : Tab10 w) (hok : diffOk f t = true) :
    Calls Tryz.prog 7 #[gridV f ao1 cap1, gridV t ao2 cap2] w
      fun e w' => e = .returned (.tuple #[.string ⟨(diffBody f t).toArray⟩, .int .i64 0]) ∧ Below w.heap.size w w' := by
  have HF := Lib.hid hf; clear hf
  have HT := Lib.hid ht; clear ht
  have H10 := Lib.hid h10; clear h10
  unfold diffOk at hok
  simp only [Bool.and_eq_true, Bool.not_eq_true'] at hok
  obtain ⟨⟨⟨hto, hfo⟩, hr⟩, hc⟩ := hok
  have HTO := Lib.hid hto; clear hto
  have HFO := Lib.hid hfo; clear hfo
  simp only [gridV]
  go_enter Tryz.func7, Tryz.ntmps7
  go_wp2_with fail
  refine (check_any t _ _ _ (HT.out.later lasts_bytes (below_two _ _))).mono ?_
  rintro e w2 ⟨rfl, hb2⟩
  rw [HTO.out, okI_true]
  have HX2 := Lib.hid (box_one hb2)
  have HY2 := Lib.hid (box_two hb2)
  obtain ⟨c0, c1, c2, c3, c4⟩ := HX2.out.cells
  have HB2 := Lib.hid ((below_two _ _).trans (hb2.mono (by simp; omega))); clear hb2
  go_wp2_with fail
  refine (check_any f _ _ _ (HF.out.later lasts_bytes HB2.out)).mono ?_
  rintro e w3 ⟨rfl, hb3⟩
  rw [HFO.out, okI_true]
  have HD := Lib.hid (show DiffAt f t ao1 ao2 cap1 cap2 w.heap.size (w.heap.size + 1) w3 from
    ⟨HF.out.later lasts_bytes (HB2.out.trans (hb3.mono HB2.out.size)), HT.out.later lasts_bytes (HB2.out.trans (hb3.mono HB2.out.size)), HX2.out.later hb3, HY2.out.later hb3, H10.out.later (HB2.out.trans (hb3.mono HB2.out.size))⟩)
  have HB3 := Lib.hid (HB2.out.trans (hb3.mono HB2.out.size)); clear hb3
  clear HX2 HY2 c0 c1 c2 c3 c4 HB2 HF HT H10
  obtain ⟨d0, d1, d2, d3, d4⟩ := HD.out.hx.cells
  obtain ⟨e0, e1, e2, e3, e4⟩ := HD.out.hy.cells
  have hs1 := HD.out.hx.lt
  have hs2 := HD.out.hy.lt
  have hlen := Grd.ok_rows HTO.out
  have hlen' := Grd.ok_rows HFO.out
  have hre : f.rows = t.rows := by simpa using hr
  have hce : f.cols = t.cols := by simpa using hc
  have HRE := Lib.hid hre; clear hre
  have HCE := Lib.hid hce; clear hce
  have hn : (t.cells.length : Int) = t.rows := hlen.1
  have h60 : t.cells.length ≤ 60 := by omega
  have HN := Lib.hid hn; clear hn
  have HL := Lib.hid hlen; clear hlen
  have HL' := Lib.hid hlen'; clear hlen'
  go_wp2_with fail
  go_loopw [33] (fun i wr => ∃ k : Nat, i = .int .i64 k ∧ k ≤ t.cells.length ∧ Hid (Bdr wr w3.heap.size w3.heap.size (rowsTo f.cells t.cells k)) ∧ Hid (Below w3.heap.size w3 wr)) (fun i _ => t.cells.length - (intOf i).toNat)
  case atStart => exact ⟨0, rfl, by omega, bdr_new, (Below.refl _ _).alloc (Nat.le_refl _) _⟩
  case round =>
    obtain ⟨k, rfl, hk, HBd, HB⟩ := hrel
    have hN := HN.out
    clear d0 d1 d2 d3 d4 e0 e1 e2 e3 e4
    obtain ⟨d0, d1, d2, d3, d4⟩ := (HD.out.later HB.out).hx.cells
    obtain ⟨e0, e1, e2, e3, e4⟩ := (HD.out.later HB.out).hy.cells
    by_cases hlt : k < t.cells.length
    · have hlti : (k : Int) < t.rows := by omega
      clear hN
      obtain ⟨lt, hkt⟩ : ∃ c, t.cells[k]? = some c := ⟨_, List.getElem?_eq_getElem hlt⟩
      obtain ⟨lf, hkf⟩ : ∃ c, f.cells[k]? = some c := ⟨_, List.getElem?_eq_getElem (by have := HL.out; have := HL'.out; have := HRE.out; omega)⟩
      obtain ⟨g2, off2, u2, hao2, hcell2, ao2', cap2', hu2, hrow2⟩ := HD.out.ht.2.2.2 k lt hkt
      obtain ⟨g1, off1, u1, hao1, hcell1, ao1', cap1', hu1, hrow1⟩ := HD.out.hf.2.2.2 k lf hkf
      subst hao1 hao2 hu1 hu2
      have hcell2' := ((HB.out.cell (p := ⟨g2, off2 + k, none⟩) (lt_of_cell hcell2))).trans hcell2
      have hcell1' := ((HB.out.cell (p := ⟨g1, off1 + k, none⟩) (lt_of_cell hcell1))).trans hcell1
      have h1f : (k : Int) < (f.cells.length : Int) := by have := HL.out; have := HL'.out; have := HRE.out; omega
      have h1t : (k : Int) < (t.cells.length : Int) := by omega
      clear hcell1 hcell2
      have HR1 := Lib.hid hrow1; clear hrow1
      have HR2 := Lib.hid hrow2; clear hrow2
      go_wp2_with fail
      go_still_tail 11, (by kernel_rfl)
      go_wp2_with fail
      have hrows : lf.length = lt.length := by
        have h1 := (Grd.ok_row HTO.out hkt).1; have h2 := (Grd.ok_row HFO.out hkf).1; have h3 := HCE.out; omega
      have hll : (rowsTo f.cells t.cells k).length + lt.length + 100 ≤ 140737488355328 := by
        have h1 := rowsTo_le (f := f) HTO.out k hk; have h2 := (Grd.ok_row HTO.out hkt).1; have h3 := HL.out; omega
      refine (row_any w3 _ _ _ _ _ _ _ lf lt _ (HBd.out.later (Below.refl _ _).drew) hrows HR1.out HR2.out hll HB.out.drew HD.out.h10).mono ?_
      rintro e w4 ⟨rfl, hbd4, hb4⟩
      have HBd4 : Hid (Bdr w4 w3.heap.size w3.heap.size (rowsTo f.cells t.cells (k + 1))) := by
        rw [rowsTo, List.getD_eq_getElem?_getD, List.getD_eq_getElem?_getD, hkt, hkf]; exact hbd4
      have HB4 := Lib.hid hb4; clear hb4 hbd4 hrows hll hkt hkf
      go_wp2_with fail
      go_roundw
      case rel => exact ⟨k + 1, by go_num, by omega, HBd4, HB4⟩
      case measure => simp [intOf] <;> omega
    · have hkt : k = t.cells.length := by omega
      subst hkt
      have hnlt : ¬ ((t.cells.length : Nat) : Int) < t.rows := by omega
      clear hN
      have hlen1 := rowsTo_le (f := f) HTO.out t.cells.length (Nat.le_refl _)
      have hbody : Hid (diffBody f t = rowsTo f.cells t.cells t.cells.length ++ if decide (0 < (rowsTo f.cells t.cells t.cells.length).length) || (f.row != t.row) || (f.col != t.col) then goS t.row t.col else []) := rfl
      generalize rowsTo f.cells t.cells t.cells.length = rs at *
      have hbl : (Lib.byteCells rs).length = rs.length := Lib.byteCells_length _
      have HBL := Lib.hid hbl; clear hbl
      have HB' : Hid (Below w.heap.size w wr) := HB3.out.trans (HB.out.mono HB3.out.size)
      by_cases h1 : 0 < rs.length
      · have hfin : Hid (diffBody f t = rs ++ goS t.row t.col) := by rw [hbody.out, decide_eq_true h1]; exact Lib.hid rfl
        clear hbody
        go_wp2_with fail
        refine (Tryz.Builder_Len_f _ _ _ _ (Lib.IsBuilderF.of HBd.out)).mono ?_
        rintro e w4 ⟨rfl, hw4⟩
        subst hw4
        rw [HBL.out]
        go_wp2_with fail
        refine (go_any _ _ _ (HD.out.h10.later HB.out)).mono ?_
        rintro e w5 ⟨rfl, hb5⟩
        have HG := Lib.hid (goS_le t.row t.col)
        generalize goS t.row t.col = gs at *
        have HB5 := Lib.hid (HB'.out.trans (hb5.mono HB'.out.size))
        have HBd5 := Lib.hid (HBd.out.later hb5)
        have HW5 := Lib.hid (Nat.le_trans HB.out.size hb5.size); clear hb5
        go_wp2_with fail
        refine (writeString_any _ _ _ _ _ HBd5.out (by have := HG.out; rw [size_mk]; omega) HW5.out).mono ?_
        rintro e w6 ⟨rfl, hbd6, hb6⟩
        have HB6 := Lib.hid (HB5.out.trans (hb6.mono HB3.out.size))
        have HBd6 := Lib.hid hbd6
        have HW6 := Lib.hid (Nat.le_trans HW5.out hb6.size); clear hb6 hbd6
        go_wp2_with fail
        refine (Tryz.Builder_String_any_k _ _ _ _ (Lib.IsBuilderF.of HBd6.out) HW6.out).mono ?_
        rintro e w7 ⟨rfl, _, hb7, _⟩
        have HB7 := Lib.hid (HB6.out.trans (hb7.mono HB3.out.size)); clear hb7
        go_wp2_with fail
        go_returns
        refine ⟨?_, HB7.out⟩
        rw [hfin.out]
        rfl
      · have h0 : rs = [] := List.eq_nil_of_length_eq_zero (by omega)
        subst h0
        cases hrr : (f.row != t.row)
        all_goals cases hcc : (f.col != t.col)
        case false.false =>
          have hfin : Hid (diffBody f t = []) := by rw [hbody.out, hrr, hcc]; exact Lib.hid rfl
          clear hbody
          go_wp2_with fail
          refine (Tryz.Builder_Len_f _ _ _ _ (Lib.IsBuilderF.of HBd.out)).mono ?_
          rintro e w4 ⟨rfl, hw4⟩
          subst hw4
          rw [HBL.out]
          go_wp2_with fail
          refine (Tryz.Builder_String_any_k _ _ _ _ (Lib.IsBuilderF.of HBd.out) HB.out.size).mono ?_
          rintro e w7 ⟨rfl, _, hb7, _⟩
          have HB7 := Lib.hid (HB'.out.trans (hb7.mono HB3.out.size)); clear hb7
          go_wp2_with fail
          go_returns
          refine ⟨?_, HB7.out⟩
          rw [hfin.out]
          rfl
        all_goals
          have hfin : Hid (diffBody f t = goS t.row t.col) := by rw [hbody.out, hrr, hcc]; exact Lib.hid rfl
          clear hbody
          go_wp2_with fail
          refine (Tryz.Builder_Len_f _ _ _ _ (Lib.IsBuilderF.of HBd.out)).mono ?_
          rintro e w4 ⟨rfl, hw4⟩
          subst hw4
          rw [HBL.out]
          go_wp2_with fail
          refine (go_any _ _ _ (HD.out.h10.later HB.out)).mono ?_
          rintro e w5 ⟨rfl, hb5⟩
          have HG := Lib.hid (goS_le t.row t.col)
          generalize goS t.row t.col = gs at *
          have HB5 := Lib.hid (HB'.out.trans (hb5.mono HB'.out.size))
          have HBd5 := Lib.hid (HBd.out.later hb5)
          have HW5 := Lib.hid (Nat.le_trans HB.out.size hb5.size); clear hb5
          go_wp2_with fail
          refine (writeString_any _ _ _ _ _ HBd5.out (by have := HG.out; rw [size_mk]; simp; omega) HW5.out).mono ?_
          rintro e w6 ⟨rfl, hbd6, hb6⟩
          have HB6 := Lib.hid (HB5.out.trans (hb6.mono HB3.out.size))
          have HBd6 := Lib.hid hbd6
          have HW6 := Lib.hid (Nat.le_trans HW5.out hb6.size); clear hb6 hbd6
          go_wp2_with fail
          refine (Tryz.Builder_String_any_k _ _ _ _ (Lib.IsBuilderF.of HBd6.out) HW6.out).mono ?_
          rintro e w7 ⟨rfl, _, hb7, _⟩
          have HB7 := Lib.hid (HB6.out.trans (hb7.mono HB3.out.size)); clear hb7
          go_wp2_with fail
          go_returns
          refine ⟨?_, HB7.out⟩
          rw [hfin.out]
          rfl

theorem diff_any (f t : Grd) (ao1 ao2 : Option Addr) (cap1 cap2 : Nat) (w : World) (hf : SlOf IsBytes w ao1 cap1 f.cells) (ht : SlOf IsBytes w ao2 cap2 t.cells) (h10 : Tab10 w) :
    Calls Tryz.prog 7 #[gridV f ao1 cap1, gridV t ao2 cap2] w
      fun e w' => e = .returned (.tuple #[.string ⟨(diffS f t).toArray⟩, .int .i64 (okI (diffOk f t))]) ∧ Below w.heap.size w w' := by
  cases h : diffOk f t with
  | true => rw [diffS, if_pos h, okI_true]; exact diff_yes f t ao1 ao2 cap1 cap2 w hf ht h10 h
  | false => rw [diffS, if_neg (by rw [h]; decide), okI_false]; exact diff_no f t ao1 ao2 cap1 cap2 w hf ht h

end Go.Proofs.YtcgaaadcbhkfoaaGreatDoor
