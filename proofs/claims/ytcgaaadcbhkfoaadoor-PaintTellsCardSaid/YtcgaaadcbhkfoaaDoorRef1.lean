/- The walks of the references' Sized, Go, May and Check. -/
import Derived.Test.YtcgaaadcbhkfoaaDoorCheck
import Derived.Test.YtcgaaadcbhkfoaaDoorPaint1
import Derived.Test.YtcgaaadcbhkfoaaDoorPaint4
import Derived.Deep.QuietTactic
import Derived.BigQuiet
namespace Go.Proofs.YtcgaaadcbhkfoaaDoor
open Go Go.Proofs Go.RowKit Go.Ink

set_option maxHeartbeats 1000000 in
theorem refGo_any (row col : Int) (w : World) (ht : Tab10 w) :
    Calls Tryd.prog 12 #[.int .i64 row, .int .i64 col] w fun e w' => e = .returned (.string ⟨(goS row col).toArray⟩) ∧ Below w.heap.size w w' := by
  have HT := Lib.hid ht; clear ht
  have hr : goS row col = [27, 91] ++ Lib.itoa (min (max row 0) 9998 + 1) ++ [59] ++ Lib.itoa (min (max col 0) 9998 + 1) ++ [72] := rfl
  have h1 := clampS_le row
  have h2 := clampS_le col
  unfold clampS at h1 h2
  generalize hA : Lib.itoa (min (max row 0) 9998 + 1) = A at *
  generalize hC : Lib.itoa (min (max col 0) 9998 + 1) = C at *
  have HR := Lib.hid hr; clear hr
  have HA := Lib.hid hA; clear hA
  have HC := Lib.hid hC; clear hC
  generalize goS row col = r at *
  go_enter Tryd.func12, Tryd.ntmps12
  go_wp2_with fail
  refine (itoa_any _ _ (by omega) (by omega) HT.out).mono ?_
  rintro e w1 ⟨rfl, hb1⟩
  rw [HA.out]
  have HB1 := Lib.hid hb1; clear hb1
  go_wp2_with fail
  refine (itoa_any _ _ (by omega) (by omega) (HT.out.later HB1.out)).mono ?_
  rintro e w2 ⟨rfl, hb2⟩
  rw [HC.out]
  have HB2 := Lib.hid hb2; clear hb2
  go_wp2_with fail
  go_ret
  rw [HR.out]
  exact ⟨congrArg (fun l : List UInt8 => Ending.returned (.string ⟨l.toArray⟩)) (by simp), HB1.out.trans (HB2.out.mono HB1.out.size)⟩

set_option maxHeartbeats 400000 in
theorem refSized_any (m n : Int) (w : World) :
    Calls Tryd.prog 35 #[.int .i64 m, .int .i64 n] w fun e w' => e = .returned (.bool (sizedB m n)) ∧ w = w' := by
  have hw : sizedB m n = (decide (2 ≤ m) && decide (m ≤ 60) && decide (8 ≤ n) && decide (n ≤ 132)) := rfl
  generalize sizedB m n = r at *
  have HW := Lib.hid hw; clear hw
  go_each [2 ≤ m, m ≤ 60, 8 ≤ n, n ≤ 132] => (go_enter Tryd.func35, Tryd.ntmps35; go_wp2; go_ret; rw [HW.out]; simp [*])


/-- What May asks ahead of its loops, one by one. -/
theorem ok_split (rows cols row col : Int) (ls : List (List UInt8)) :
    Grd.ok ⟨rows, cols, ls, row, col⟩ = (sizedB rows cols && !((ls.length : Int) != rows) && !decide (row < 0) && !decide (rows ≤ row) && !decide (col < 0) && !decide (cols ≤ col) && !(ls.any (wrongB cols))) := by
  unfold Grd.ok inB
  rw [Bool.eq_iff_iff]
  simp only [Bool.and_eq_true, Bool.not_eq_true', decide_eq_true_eq, decide_eq_false_iff_not, Int.not_lt, Int.not_le, bne_eq_false_iff_eq]
  constructor
  · rintro ⟨⟨⟨⟨a, b⟩, c, d⟩, e, f⟩, g⟩; exact ⟨⟨⟨⟨⟨⟨a, b⟩, c⟩, d⟩, e⟩, f⟩, g⟩
  · rintro ⟨⟨⟨⟨⟨⟨a, b⟩, c⟩, d⟩, e⟩, f⟩, g⟩; exact ⟨⟨⟨⟨a, b⟩, c, d⟩, e, f⟩, g⟩

set_option maxHeartbeats 2000000 in
theorem may_any (g : Grd) (ao : Option Addr) (cap : Nat) (w : World) (hs : SlOf IsBytes w ao cap g.cells) :
    Calls Tryd.prog 33 #[gridV g ao cap] w fun e w' => e = .returned (.bool g.ok) ∧ Below w.heap.size w w' := by
  obtain ⟨rows, cols, ls, row, col⟩ := g
  simp only [gridV] at *
  have hm : ls.length ≤ 9223372036854775807 := Nat.le_trans hs.1 hs.2.1
  have hs2 : ∀ o, SlOf IsBytes (w.alloc o) ao cap ls := fun o => hs.later lasts_bytes ((Below.refl _ _).alloc (Nat.le_refl _) _)
  have HS := Lib.hid (hs2 (.cells #[.int .i64 rows, .int .i64 cols, .slice ao ls.length cap, .int .i64 row, .int .i64 col] 24 (0, 0))); clear hs hs2
  have HR := Lib.hid (ok_split rows cols row col ls)
  generalize Grd.ok ⟨rows, cols, ls, row, col⟩ = r at *
  cases h1 : sizedB rows cols
  case false =>
    have H1 := Lib.hid h1; clear h1
    go_enter Tryd.func33, Tryd.ntmps33
    go_wp2_with (go_at_call 35; refine (refSized_any _ _ _).mono ?_; rintro e w1 ⟨rfl, rfl⟩; rw [H1.out])
    go_ret
    rw [HR.out, H1.out]
    exact ⟨rfl, (Below.refl _ _).alloc (Nat.le_refl _) _⟩
  have H1 := Lib.hid h1; clear h1
  cases h2 : ((ls.length : Int) != rows)
  case true =>
    go_enter Tryd.func33, Tryd.ntmps33
    go_wp2_with (go_at_call 35; refine (refSized_any _ _ _).mono ?_; rintro e w1 ⟨rfl, rfl⟩; rw [H1.out])
    go_ret
    rw [HR.out, H1.out, h2]
    exact ⟨rfl, (Below.refl _ _).alloc (Nat.le_refl _) _⟩
  by_cases h3 : row < 0
  · have H3 := Lib.hid (decide_eq_true h3)
    go_enter Tryd.func33, Tryd.ntmps33
    go_wp2_with (go_at_call 35; refine (refSized_any _ _ _).mono ?_; rintro e w1 ⟨rfl, rfl⟩; rw [H1.out])
    go_ret
    rw [HR.out, H1.out, h2, H3.out]
    exact ⟨rfl, (Below.refl _ _).alloc (Nat.le_refl _) _⟩
  have H3 := Lib.hid (decide_eq_false h3)
  by_cases h4 : rows ≤ row
  · have H4 := Lib.hid (decide_eq_true h4)
    go_enter Tryd.func33, Tryd.ntmps33
    go_wp2_with (go_at_call 35; refine (refSized_any _ _ _).mono ?_; rintro e w1 ⟨rfl, rfl⟩; rw [H1.out])
    go_ret
    rw [HR.out, H1.out, h2, H3.out, H4.out]
    exact ⟨rfl, (Below.refl _ _).alloc (Nat.le_refl _) _⟩
  have H4 := Lib.hid (decide_eq_false h4)
  by_cases h5 : col < 0
  · have H5 := Lib.hid (decide_eq_true h5)
    go_enter Tryd.func33, Tryd.ntmps33
    go_wp2_with (go_at_call 35; refine (refSized_any _ _ _).mono ?_; rintro e w1 ⟨rfl, rfl⟩; rw [H1.out])
    go_ret
    rw [HR.out, H1.out, h2, H3.out, H4.out, H5.out]
    exact ⟨rfl, (Below.refl _ _).alloc (Nat.le_refl _) _⟩
  have H5 := Lib.hid (decide_eq_false h5)
  by_cases h6 : cols ≤ col
  · have H6 := Lib.hid (decide_eq_true h6)
    go_enter Tryd.func33, Tryd.ntmps33
    go_wp2_with (go_at_call 35; refine (refSized_any _ _ _).mono ?_; rintro e w1 ⟨rfl, rfl⟩; rw [H1.out])
    go_ret
    rw [HR.out, H1.out, h2, H3.out, H4.out, H5.out, H6.out]
    exact ⟨rfl, (Below.refl _ _).alloc (Nat.le_refl _) _⟩
  have H6 := Lib.hid (decide_eq_false h6)
  have hfin : Hid (r = !(ls.any (wrongB cols))) := Lib.hid (by rw [HR.out, H1.out, h2, H3.out, H4.out, H5.out, H6.out]; simp)
  have hrows := Lib.hid (show (ls.length : Int) = rows by simpa using h2)
  have hsz : 2 ≤ rows ∧ rows ≤ 60 ∧ 8 ≤ cols ∧ cols ≤ 132 := by have := H1.out; unfold sizedB at this; simp at this; omega
  obtain ⟨z1, z2, z3, z4⟩ := hsz
  clear HR H3 H4 H5 H6
  go_enter Tryd.func33, Tryd.ntmps33
  go_wp2_with (go_at_call 35; refine (refSized_any _ _ _).mono ?_; rintro e w1 ⟨rfl, rfl⟩; rw [H1.out])
  clear h2
  obtain ⟨wb, hwb⟩ : ∃ wb, wb = w.alloc (.cells #[.int .i64 rows, .int .i64 cols, .slice ao ls.length cap, .int .i64 row, .int .i64 col] 24 (0, 0)) := ⟨_, rfl⟩
  have d0 : wb.cell? ⟨w.heap.size, 0, none⟩ = some (.int .i64 rows) := by rw [hwb]; simp
  have d1 : wb.cell? ⟨w.heap.size, 1, none⟩ = some (.int .i64 cols) := by rw [hwb]; simp
  have d2 : wb.cell? ⟨w.heap.size, 2, none⟩ = some (.slice ao ls.length cap) := by rw [hwb]; simp
  have HSb : Hid (SlOf IsBytes wb ao cap ls) := by rw [hwb]; exact HS
  have HBb : Hid (Below w.heap.size w wb) := by rw [hwb]; exact (Below.refl _ _).alloc (Nat.le_refl _) _
  rw [← hwb]
  clear hwb HS
  go_loopw [3] (fun i wr => ∃ k : Nat, i = .int .i64 k ∧ k ≤ ls.length ∧ Hid (Hno (wrongB cols) ls k) ∧ ∃ n, wr = wb.drewN n) (fun i _ => ls.length - (intOf i).toNat)
  case atStart => exact ⟨0, rfl, by omega, fun j y hj => by omega, 0, rfl⟩
  case round =>
    obtain ⟨k, rfl, hk, hno, n, rfl⟩ := hrel
    by_cases hlt : k < ls.length
    · have hki : (k : Int) < rows := by have := hrows.out; omega
      obtain ⟨c, hkc⟩ : ∃ c, ls[k]? = some c := ⟨_, List.getElem?_eq_getElem hlt⟩
      obtain ⟨b', off, u, hao, hcell, ao', cap', hu, hrow⟩ := HSb.out.2.2.2 k c hkc
      subst hao hu
      have hcl : c.length ≤ 9223372036854775807 := Nat.le_trans hrow.1 hrow.2.1
      have hkl : (k : Int) < (ls.length : Int) := by omega
      have HK := Lib.hid hkc; clear hkc
      have HRow := Lib.hid hrow; clear hrow
      cases hcc : ((c.length : Int) != cols)
      case true =>
        have hw : wrongB cols c = true := by rw [wrongB, hcc]; rfl
        have hany := Lib.hid (List.any_eq_true.2 ⟨c, List.mem_of_getElem? HK.out, hw⟩); clear hw
        go_wp2_with fail
        go_quiet (fail)
        go_wp2_with fail
        go_ret
        rw [hfin.out, hany.out]
        exact ⟨rfl, below_drewN (below_drewN HBb.out _) _⟩
      case false =>
        have hce := Lib.hid (show (c.length : Int) = cols by simpa using hcc)
        go_wp2_with fail
        go_quiet (fail)
        go_wp2_with fail
        go_loopw [4] (fun i wr => ∃ j : Nat, i = .int .i64 j ∧ j ≤ c.length ∧ Hid (Hno oddB c j) ∧ ∃ n, wr = wb.drewN n) (fun i _ => c.length - (intOf i).toNat)
        case atStart => exact ⟨0, rfl, by omega, fun j y hj => by omega, n + nq, by rw [World.drewN_drewN]⟩
        case round =>
          obtain ⟨j, rfl, hj, hnoj, m, rfl⟩ := hrel
          by_cases hjl : j < c.length
          · have hji : (j : Int) < cols := by have := hce.out; omega
            have hjc : (j : Int) < (c.length : Int) := by omega
            obtain ⟨x, hjx⟩ : ∃ x, c[j]? = some x := ⟨_, List.getElem?_eq_getElem hjl⟩
            obtain ⟨b2, off2, u2, hao2, hcell2, hu2⟩ := HRow.out.2.2.2 j x hjx
            subst hao2 hu2
            have HJX := Lib.hid hjx; clear hjx
            have hox := oddB_eq x
            by_cases hx1 : (x.toNat : Int) < 32
            · have ho := Lib.hid (show oddB x = true by rw [hox, decide_eq_true hx1]; rfl)
              clear hox
              go_wp2_with fail
              go_ret
              have hw : wrongB cols c = true := by rw [wrongB, hcc, List.any_eq_true.2 ⟨x, List.mem_of_getElem? HJX.out, ho.out⟩]; rfl
              rw [hfin.out, List.any_eq_true.2 ⟨c, List.mem_of_getElem? HK.out, hw⟩]
              exact ⟨rfl, below_drewN HBb.out _⟩
            · by_cases hx2 : (126 : Int) < (x.toNat : Int)
              · have ho := Lib.hid (show oddB x = true by rw [hox, decide_eq_true hx2, Bool.or_true])
                clear hox
                go_wp2_with fail
                go_ret
                have hw : wrongB cols c = true := by rw [wrongB, hcc, List.any_eq_true.2 ⟨x, List.mem_of_getElem? HJX.out, ho.out⟩]; rfl
                rw [hfin.out, List.any_eq_true.2 ⟨c, List.mem_of_getElem? HK.out, hw⟩]
                exact ⟨rfl, below_drewN HBb.out _⟩
              · have ho := Lib.hid (show oddB x = false by rw [hox, decide_eq_false hx1, decide_eq_false hx2]; rfl)
                clear hox
                go_wp2_with fail
                go_roundw
                case rel => exact ⟨j + 1, by go_num, by omega, hnoj.out.next HJX.out ho.out, _, rfl⟩
                case measure => simp [intOf] <;> omega
          · have hji : ¬ (j : Int) < cols := by have := hce.out; omega
            have hany : c.any oddB = false := by
              rw [List.any_eq_false]
              intro x hx
              obtain ⟨i, hi, rfl⟩ := List.mem_iff_getElem.1 hx
              have := hnoj.out i _ (by omega) (List.getElem?_eq_getElem hi)
              simp [this]
            have hw := Lib.hid (show wrongB cols c = false by rw [wrongB, hcc, hany]; rfl)
            clear hany
            go_wp2_with fail
            go_roundw
            case rel => exact ⟨k + 1, by go_num, by omega, hno.out.next HK.out hw.out, _, rfl⟩
            case measure => simp [intOf] <;> omega
    · have hki : ¬ (k : Int) < rows := by have := hrows.out; omega
      go_wp2_with fail
      go_ret
      have hany : ls.any (wrongB cols) = false := by
        rw [List.any_eq_false]
        intro x hx
        obtain ⟨i, hi, rfl⟩ := List.mem_iff_getElem.1 hx
        have := hno.out i _ (by omega) (List.getElem?_eq_getElem hi)
        simp [this]
      rw [hfin.out, hany]
      exact ⟨rfl, below_drewN HBb.out _⟩

theorem refCheck_any (g : Grd) (ao : Option Addr) (cap : Nat) (w : World) (hs : SlOf IsBytes w ao cap g.cells) :
    Calls Tryd.prog 19 #[gridV g ao cap] w fun e w' => e = .returned (.int .i64 (okI g.ok)) ∧ Below w.heap.size w w' := by
  have HS := Lib.hid hs; clear hs
  simp only [gridV]
  cases h : g.ok
  all_goals
    have H := Lib.hid h; clear h
    go_enter Tryd.func19, Tryd.ntmps19
    go_wp2_with fail
    refine (may_any g _ _ _ (HS.out.later lasts_bytes ((Below.refl _ _).alloc (Nat.le_refl _) _))).mono ?_
    rintro e w2 ⟨rfl, hb2⟩
    rw [H.out]
    have HB2 := Lib.hid (((Below.refl _ _).alloc (Nat.le_refl _) _).trans (hb2.mono (by simp))); clear hb2
    go_wp2_with fail
    go_ret
    exact ⟨rfl, HB2.out⟩
end Go.Proofs.YtcgaaadcbhkfoaaDoor
