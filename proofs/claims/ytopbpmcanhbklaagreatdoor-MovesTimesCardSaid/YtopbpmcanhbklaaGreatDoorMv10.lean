/- The walks of moves: Move from a place that is not there. -/
import Derived.Test.YtopbpmcanhbklaaGreatDoorMv9
set_option linter.unusedVariables false
set_option linter.unusedSimpArgs false
namespace Go.Proofs.YtopbpmcanhbklaaGreatDoor
open Go Go.Proofs Go.RowKit Go.Ink Go.Sort

def zeroTo : Value := .agg #[.int .i64 0, .int .i64 0, .bool false, .bool false]
set_option maxRecDepth 100000 in
set_option maxHeartbeats 2000000 in
theorem move_none {w : World} {ls : List (List UInt8)} {ao : Option Addr} {cap : Nat} (h : SlOf IsStr w ao cap ls) (hsh : ∀ i, (lnL ls i).length ≤ 1000000) (hfew : ls.length ≤ 1000000) (line col : Int) (name : Int) (count : Int) (letter : Int) (hno : ls.length = 0 ∨ fitI ls line col ≠ (line, col)) :
    Calls Tryz.prog 6 #[.agg (askA (.slice ao ls.length cap) line col name count letter)] w fun e w' => e = .returned (.tuple #[zeroTo, .bool false]) ∧ Below w.heap.size w w' := by
  have hlen : ls.length ≤ 9223372036854775807 := by omega
  obtain ⟨w2, hw2⟩ : ∃ w2, (w.alloc (.cells (askA (.slice ao ls.length cap) line col name count letter) 31)).alloc (.cells #[.int .i64 0, .int .i64 0, .bool false, .bool false] 35) = w2 := ⟨_, rfl⟩
  obtain ⟨hx, hy, hb⟩ := @two_blk2 w (.cells (askA (.slice ao ls.length cap) line col name count letter) 31) (.cells #[.int .i64 0, .int .i64 0, .bool false, .bool false] 35)
  rw [hw2] at hx hy hb
  have HX := Lib.hid hx
  have HY := Lib.hid hy
  have HB := Lib.hid hb
  have HS := Lib.hid (h.later lasts_str hb)
  have hcc := Lib.cell_of_heap hx
  have z0 : w2.cell? ⟨w.heap.size, 0, none⟩ = some (.slice ao ls.length cap) := by rw [hcc]; rfl
  have X0 := fun d os => cell_regrown z0 d os
  have X1 := fun d os => cell_regrown (show w2.cell? ⟨w.heap.size, 1, none⟩ = some (.int .i64 line) by rw [hcc]; rfl) d os
  have X2 := fun d os => cell_regrown (show w2.cell? ⟨w.heap.size, 2, none⟩ = some (.int .i64 col) by rw [hcc]; rfl) d os
  by_cases h0 : ls.length = 0
  · obtain rfl : ls = [] := List.eq_nil_of_length_eq_zero h0
    simp only [List.length_nil] at *
    clear h hx hb hy hcc hno X0 X1 X2 h0
    go_enter Tryz.func6, Tryz.ntmps6
    go_upto_region 1 with fail
    go_quiet (fail)
    have HYQ : Hid ((w2.drewN nq).heap[w.heap.size + 1]? = _) := HY
    have HBQ := Lib.hid (below_drewN HB.out nq)
    clear HY HB HX HS z0
    generalize w2.drewN nq = wq at *
    have y0 := Lib.cell_of_heap HYQ.out 0
    have y1 := Lib.cell_of_heap HYQ.out 1
    have y2 := Lib.cell_of_heap HYQ.out 2
    have y3 := Lib.cell_of_heap HYQ.out 3
    have g0 := Lib.frozen_of_heap HYQ.out 0
    have g1 := Lib.frozen_of_heap HYQ.out 1
    have g2 := Lib.frozen_of_heap HYQ.out 2
    have g3 := Lib.frozen_of_heap HYQ.out 3
    simp at y0 y1 y2 y3
    go_wp2_with fail
    obtain ⟨t0, t1, t2, t3, hb⟩ := fin_four (w := w) HYQ.out (by omega) HBQ.out (.int .i64 0) (.int .i64 0) (.bool false) (.bool false)
    refine bodyPost_ret (v := .tuple #[zeroTo, .bool false]) ?_ rfl ?_
    · unfold zeroTo
      simp [results, Tryz.results6, go_sem, t0, t1, t2, t3]
    · exact ⟨rfl, hb⟩
  · have hn0b : ((ls.length : Int) == 0) = false := by rw [beq_eq_false_iff_ne]; omega
    have hne : fitI ls line col ≠ (line, col) := hno.resolve_left h0
    have HFT := Lib.hid (fun d os => fit_any (HS.out.later lasts_str (below_regrown w2 d os)) hsh line col)
    generalize fitI ls line col = fi at *
    obtain ⟨fa, fb⟩ := fi
    simp only at HFT
    have hpe := fun W => pos_eq line col fa fb W
    have hnb : (line == fa && col == fb) = false := by
      rw [Bool.eq_false_iff]
      intro e
      simp only [Bool.and_eq_true, beq_iff_eq] at e
      exact hne (by rw [e.1, e.2])
    rw [hnb] at hpe
    clear h hx hb hy hcc hno hne hnb z0
    go_enter Tryz.func6, Tryz.ntmps6
    go_upto_region 1 with fail
    refine wp_region_quiet_below (by kernel_rfl) (by kernel_rfl) ?_
    repeat (quiet_step (with_reducible exact Calls.regrown_of (HFT.out _ _)))
    refine wpQuiet_nil ?_
    intro _ hw'
    obtain ⟨⟨dq1, osq1⟩, hw''⟩ := hw'
    subst hw''
    have hb3 := below_regrown w2 dq1 osq1
    have HYQ := Lib.hid ((hb3.block _ (lt_of_heap HY.out)).trans HY.out)
    have HBQ := Lib.hid (HB.out.trans (hb3.mono HB.out.size))
    clear hb3 X0 X1 X2 HFT hpe hw2 HX HY HB HS
    generalize grow (redrawn w2 dq1) osq1 = wq at *
    have y0 := Lib.cell_of_heap HYQ.out 0
    have y1 := Lib.cell_of_heap HYQ.out 1
    have y2 := Lib.cell_of_heap HYQ.out 2
    have y3 := Lib.cell_of_heap HYQ.out 3
    have g0 := Lib.frozen_of_heap HYQ.out 0
    have g1 := Lib.frozen_of_heap HYQ.out 1
    have g2 := Lib.frozen_of_heap HYQ.out 2
    have g3 := Lib.frozen_of_heap HYQ.out 3
    simp at y0 y1 y2 y3
    go_wp2_with fail
    obtain ⟨t0, t1, t2, t3, hb⟩ := fin_four (w := w) HYQ.out (by omega) HBQ.out (.int .i64 0) (.int .i64 0) (.bool false) (.bool false)
    refine bodyPost_ret (v := .tuple #[zeroTo, .bool false]) ?_ rfl ?_
    · unfold zeroTo
      simp [results, Tryz.results6, go_sem, t0, t1, t2, t3]
    · exact ⟨rfl, hb⟩
end Go.Proofs.YtopbpmcanhbklaaGreatDoor
