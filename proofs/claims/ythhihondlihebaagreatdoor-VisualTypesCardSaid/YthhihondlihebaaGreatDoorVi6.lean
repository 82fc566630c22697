/- The walks of moves: to a line's first byte, one byte on. -/
import Derived.Test.YthhihondlihebaaGreatDoorMv8
import Derived.Laws.Tables
namespace Go.Proofs.YthhihondlihebaaGreatDoor
open Go Go.Proofs Go.RowKit Go.Ink Go.Sort

set_option maxRecDepth 100000 in
set_option maxHeartbeats 1000000 in
theorem side_one {w : World} {m : Nat} {ls : List (List UInt8)} {ao : Option Addr} {cap : Nat} {p : Pl} {n : Nat} (h : MwAt w m ls ao cap p n) (hlt : p.2 + 1 < (lnL ls p.1).length) :
    Calls Tryz.prog 78 #[.pointer (some ⟨m, 0, none⟩), .int .i64 1] w fun e w' => e = .returned (.tuple #[toV (p.1, p.2 + 1) false false, .bool true]) ∧ Below w.heap.size w w' := by
  have HB := Lib.hid ((Below.refl w.heap.size w).alloc (Nat.le_refl _) (.cells #[.int .i64 0, .int .i64 0, .bool false, .bool false] 109))
  have HY := Lib.hid (heap_alloc_new w (.cells #[.int .i64 0, .int .i64 0, .bool false, .bool false] 109))
  have HM := Lib.hid (h.later HB.out)
  have HSM := Lib.hid (show (lnL ls p.1).length ≤ 1000000 from h.mv.short p.1)
  have HLT := Lib.hid hlt
  have hmx : m < w.heap.size := lt_of_cell h.c1
  clear h hlt
  go_enter Tryz.func78, Tryz.ntmps78
  go_upto_region 1 with fail
  generalize w.alloc (.cells #[.int .i64 0, .int .i64 0, .bool false, .bool false] 109) = w1 at *
  have c1 := HM.out.c1
  have c2 := HM.out.c2
  go_wp2_with fail
  refine (line_any HM.out.mv p.1 (p.2 : Int) HM.out.ok.1).mono ?_
  rintro e w2 ⟨rfl, hb2⟩
  have HB2 := Lib.hid (HB.out.trans (hb2.mono HB.out.size))
  have HM2 := Lib.hid (HM.out.later hb2)
  have HY2 := Lib.hid ((hb2.block _ (lt_of_heap HY.out)).trans HY.out)
  have q2 := HM2.out.c2
  have hsz := size_mk (lnL ls p.1)
  have hb1 : ¬ ((p.2 : Int) ≥ ((lnL ls p.1).length : Int) - 1) := by have := HLT.out; omega
  have hz1 : wrap64 ((p.2 : Int) + 1) = (p.2 : Int) + 1 := by have := HLT.out; have := HSM.out; unfold wrap64; omega
  have hz2 : wrap64 (((lnL ls p.1).length : Int) - 1) = ((lnL ls p.1).length : Int) - 1 := by have := HLT.out; have := HSM.out; unfold wrap64; omega
  have hz3 : ¬ (((lnL ls p.1).length : Int) - 1 ≤ (p.2 : Int)) := by have := HLT.out; omega
  clear hb2 c1 c2
  go_wp2_with fail
  have hrw := row_any HM2.out ((p.2 : Int) + 1) false
  rw [show fitI ls ((p.1 : Int) + 1) ((p.2 : Int) + 1) = ((p.1 : Int) + 1, (p.2 : Int) + 1) from fit_ok (p := (p.1, p.2 + 1)) ⟨HM.out.ok.1, .inr HLT.out⟩] at hrw
  unfold toI at hrw
  refine hrw.mono ?_
  rintro e w3 ⟨rfl, hb3⟩
  have HB3 := Lib.hid (HB2.out.trans (hb3.mono HB2.out.size))
  have HY3 := Lib.hid ((hb3.block _ (lt_of_heap HY2.out)).trans HY2.out)
  have y0 := Lib.cell_of_heap HY3.out 0
  have y1 := Lib.cell_of_heap HY3.out 1
  have y2 := Lib.cell_of_heap HY3.out 2
  have y3 := Lib.cell_of_heap HY3.out 3
  have g0 := Lib.frozen_of_heap HY3.out 0
  have g1 := Lib.frozen_of_heap HY3.out 1
  have g2 := Lib.frozen_of_heap HY3.out 2
  have g3 := Lib.frozen_of_heap HY3.out 3
  simp at y0 y1 y2 y3
  clear hrw hb3
  go_wp2_with fail
  obtain ⟨t0, t1, t2, t3, hb⟩ := fin_four (w := w) HY3.out (by omega) HB3.out (.int .i64 ((p.1 : Int) + 1)) (.int .i64 ((p.2 : Int) + 1)) (.bool false) (.bool false)
  refine bodyPost_ret (v := .tuple #[.agg #[.int .i64 ((p.1 : Int) + 1), .int .i64 ((p.2 : Int) + 1), .bool false, .bool false], .bool true]) ?_ rfl ?_
  · simp [results, Tryz.results78, go_sem, t0, t1, t2, t3]
  · exact ⟨rfl, hb⟩
set_option maxRecDepth 100000 in
set_option maxHeartbeats 2000000 in
theorem move_0 {w : World} {ls : List (List UInt8)} {ao : Option Addr} {cap : Nat} (h : SlOf IsStr w ao cap ls) (hsh : ∀ i, (lnL ls i).length ≤ 1000000) (hfew : ls.length ≤ 1000000) (p : Pl) (hp : Okp ls p) :
    Calls Tryz.prog 51 #[.agg (askA (.slice ao ls.length cap) ((p.1 : Int) + 1) (p.2 : Int) 48 0 0)] w fun e w' => e = .returned (.tuple #[toV (p.1, 0) false false, .bool true]) ∧ Below w.heap.size w w' := by
  have hlen : ls.length ≤ 9223372036854775807 := by omega
  obtain ⟨w2, hw2⟩ : ∃ w2, (w.alloc (.cells (askA (.slice ao ls.length cap) ((p.1 : Int) + 1) (p.2 : Int) 48 0 0) 113)).alloc (.cells #[.int .i64 0, .int .i64 0, .bool false, .bool false] 109) = w2 := ⟨_, rfl⟩
  obtain ⟨hx, hy, hb⟩ := @two_blk2 w (.cells (askA (.slice ao ls.length cap) ((p.1 : Int) + 1) (p.2 : Int) 48 0 0) 113) (.cells #[.int .i64 0, .int .i64 0, .bool false, .bool false] 109)
  rw [hw2] at hx hy hb
  have HX := Lib.hid hx
  have HY := Lib.hid hy
  have HB := Lib.hid hb
  have HS := Lib.hid (h.later lasts_str hb)
  have HP := Lib.hid hp
  have hn0 : ¬ (ls.length : Int) = 0 := by have := hp.1; omega
  have hn0b : ((ls.length : Int) == 0) = false := by rw [beq_eq_false_iff_ne]; exact hn0
  have hcc := Lib.cell_of_heap hx
  have X0 := fun d os => cell_regrown (show w2.cell? ⟨w.heap.size, 0, none⟩ = some (.slice ao ls.length cap) by rw [hcc]; rfl) d os
  have X1 := fun d os => cell_regrown (show w2.cell? ⟨w.heap.size, 1, none⟩ = some (.int .i64 ((p.1 : Int) + 1)) by rw [hcc]; rfl) d os
  have X2 := fun d os => cell_regrown (show w2.cell? ⟨w.heap.size, 2, none⟩ = some (.int .i64 (p.2 : Int)) by rw [hcc]; rfl) d os
  have HFT := Lib.hid (fun d os => by have := fit_any (HS.out.later lasts_str (below_regrown w2 d os)) hsh ((p.1 : Int) + 1) (p.2 : Int); rw [fit_ok HP.out] at this; exact this)
  have hpe := fun W => pos_eq ((p.1 : Int) + 1) (p.2 : Int) ((p.1 : Int) + 1) (p.2 : Int) W
  clear h hx hy hb hp hcc
  go_enter Tryz.func51, Tryz.ntmps51
  go_upto_region 1 with fail
  refine wp_region_quiet_below (by kernel_rfl) (by kernel_rfl) ?_
  repeat (quiet_step (with_reducible exact Calls.regrown_of (HFT.out _ _)))
  refine wpQuiet_nil ?_
  intro _ hw'
  obtain ⟨⟨dq1, osq1⟩, hw''⟩ := hw'
  subst hw''
  have hb3 := below_regrown w2 dq1 osq1
  have HX3 := Lib.hid ((hb3.block _ (lt_of_heap HX.out)).trans HX.out)
  have HY3 := Lib.hid ((hb3.block _ (lt_of_heap HY.out)).trans HY.out)
  have HB3 := Lib.hid (HB.out.trans (hb3.mono HB.out.size))
  have HS3 := Lib.hid (HS.out.later lasts_str hb3)
  clear hb3 X0 X1 X2 HFT hpe hw2 HX HY HB HS
  generalize grow (redrawn w2 dq1) osq1 = w3 at *
  have hcc := Lib.cell_of_heap HX3.out
  have d3 : w3.cell? ⟨w.heap.size, 3, none⟩ = some (.int .u8 48) := by rw [hcc]; rfl
  have d4 : w3.cell? ⟨w.heap.size, 4, none⟩ = some (.int .i64 0) := by rw [hcc]; rfl
  have hc1i : (0 : Int) < 1 := by omega
  clear hcc
  go_upto_region 3 with fail
  go_upto_region 4 with (first
    | (refine wpList_load_row rfl 113 (.tmp 1) (by with_reducible rfl) w.heap.size rfl 113 _ (0, 0) _ HX3.out Tryz.underlying113 rfl (by kernel_rfl) ?_)
    | (refine wpList_built rfl 138 #[(0, .tmp 20), (1, .tmp 24)] (by with_reducible rfl) ((askA (.slice ao ls.length cap) ((p.1 : Int) + 1) (p.2 : Int) 48 0 0).push (.int .i64 1)) (by kernel_rfl) ?_))
  have hb4 := (Below.refl w3.heap.size w3).alloc (Nat.le_refl _) (.cells ((askA (.slice ao ls.length cap) ((p.1 : Int) + 1) (p.2 : Int) 48 0 0).push (.int .i64 1)) 138)
  have hm4 := heap_alloc_new w3 (.cells ((askA (.slice ao ls.length cap) ((p.1 : Int) + 1) (p.2 : Int) 48 0 0).push (.int .i64 1)) 138)
  have hlx : w.heap.size < w3.heap.size := lt_of_heap HX3.out
  obtain ⟨m, hm⟩ : ∃ m, w3.heap.size = m := ⟨_, rfl⟩
  have HY4 := Lib.hid ((hb4.block _ (lt_of_heap HY3.out)).trans HY3.out)
  have HB4 := Lib.hid (HB3.out.trans (hb4.mono HB3.out.size))
  have hcm := Lib.cell_of_heap hm4
  have d3' := (hb4.cell (p := ⟨w.heap.size, 3, none⟩) (lt_of_cell d3)).trans d3
  have HMW : Hid (MwAt (w3.alloc (.cells ((askA (.slice ao ls.length cap) ((p.1 : Int) + 1) (p.2 : Int) 48 0 0).push (.int .i64 1)) 138)) w3.heap.size ls ao cap p 1) := Lib.hid ⟨⟨by rw [hcm]; rfl, HS3.out.later lasts_str hb4, hsh, hfew⟩, by rw [hcm]; rfl, by rw [hcm]; rfl, by rw [hcm]; rfl, by omega, HP.out⟩
  rw [hm] at HMW ⊢
  clear hb4 hm4 hcm hm d3 d4 HX3 HY3 HB3 HS3
  generalize w3.alloc (.cells ((askA (.slice ao ls.length cap) ((p.1 : Int) + 1) (p.2 : Int) 48 0 0).push (.int .i64 1)) 138) = w4 at *
  go_wp2_with fail
  have hwd := row_any HMW.out 0 false
  rw [show fitI ls ((p.1 : Int) + 1) 0 = ((p.1 : Int) + 1, 0) from fit_ok (p := (p.1, 0)) ⟨HP.out.1, .inl rfl⟩] at hwd
  replace hwd := hwd.mono (R' := fun e w' => e = .returned (.tuple #[toV (p.1, 0) false false, .bool true]) ∧ Below w4.heap.size w4 w') (fun e w' h => h)
  unfold toV at hwd
  refine hwd.mono ?_
  rintro e w5 ⟨rfl, hb5⟩
  have HY5 := Lib.hid ((hb5.block _ (lt_of_heap HY4.out)).trans HY4.out)
  have HB5 := Lib.hid (HB4.out.trans (hb5.mono HB4.out.size))
  clear hwd hb5 HY4 HB4 d3' HMW
  generalize hq : ((p.1, 0) : Pl) = q at *
  have y0 := Lib.cell_of_heap HY5.out 0
  have y1 := Lib.cell_of_heap HY5.out 1
  have y2 := Lib.cell_of_heap HY5.out 2
  have y3 := Lib.cell_of_heap HY5.out 3
  have g0 := Lib.frozen_of_heap HY5.out 0
  have g1 := Lib.frozen_of_heap HY5.out 1
  have g2 := Lib.frozen_of_heap HY5.out 2
  have g3 := Lib.frozen_of_heap HY5.out 3
  simp at y0 y1 y2 y3
  go_wp2_with fail
  obtain ⟨t0, t1, t2, t3, hb⟩ := fin_four (w := w) HY5.out (by omega) HB5.out (.int .i64 ((q.1 : Int) + 1)) (.int .i64 (q.2 : Int)) (.bool false) (.bool false)
  refine bodyPost_ret (v := .tuple #[toV q false false, .bool true]) ?_ rfl ?_
  · unfold toV
    simp [results, Tryz.results51, go_sem, t0, t1, t2, t3]
  · exact ⟨by rw [← hq], hb⟩
set_option maxRecDepth 100000 in
set_option maxHeartbeats 2000000 in
theorem move_l {w : World} {ls : List (List UInt8)} {ao : Option Addr} {cap : Nat} (h : SlOf IsStr w ao cap ls) (hsh : ∀ i, (lnL ls i).length ≤ 1000000) (hfew : ls.length ≤ 1000000) (p : Pl) (hp : Okp ls p) (hlt : p.2 + 1 < (lnL ls p.1).length) :
    Calls Tryz.prog 51 #[.agg (askA (.slice ao ls.length cap) ((p.1 : Int) + 1) (p.2 : Int) 108 0 0)] w fun e w' => e = .returned (.tuple #[toV (p.1, p.2 + 1) false false, .bool true]) ∧ Below w.heap.size w w' := by
  have hlen : ls.length ≤ 9223372036854775807 := by omega
  obtain ⟨w2, hw2⟩ : ∃ w2, (w.alloc (.cells (askA (.slice ao ls.length cap) ((p.1 : Int) + 1) (p.2 : Int) 108 0 0) 113)).alloc (.cells #[.int .i64 0, .int .i64 0, .bool false, .bool false] 109) = w2 := ⟨_, rfl⟩
  obtain ⟨hx, hy, hb⟩ := @two_blk2 w (.cells (askA (.slice ao ls.length cap) ((p.1 : Int) + 1) (p.2 : Int) 108 0 0) 113) (.cells #[.int .i64 0, .int .i64 0, .bool false, .bool false] 109)
  rw [hw2] at hx hy hb
  have HX := Lib.hid hx
  have HY := Lib.hid hy
  have HB := Lib.hid hb
  have HS := Lib.hid (h.later lasts_str hb)
  have HP := Lib.hid hp
  have HLT := Lib.hid hlt
  have hn0 : ¬ (ls.length : Int) = 0 := by have := hp.1; omega
  have hn0b : ((ls.length : Int) == 0) = false := by rw [beq_eq_false_iff_ne]; exact hn0
  have hcc := Lib.cell_of_heap hx
  have X0 := fun d os => cell_regrown (show w2.cell? ⟨w.heap.size, 0, none⟩ = some (.slice ao ls.length cap) by rw [hcc]; rfl) d os
  have X1 := fun d os => cell_regrown (show w2.cell? ⟨w.heap.size, 1, none⟩ = some (.int .i64 ((p.1 : Int) + 1)) by rw [hcc]; rfl) d os
  have X2 := fun d os => cell_regrown (show w2.cell? ⟨w.heap.size, 2, none⟩ = some (.int .i64 (p.2 : Int)) by rw [hcc]; rfl) d os
  have HFT := Lib.hid (fun d os => by have := fit_any (HS.out.later lasts_str (below_regrown w2 d os)) hsh ((p.1 : Int) + 1) (p.2 : Int); rw [fit_ok HP.out] at this; exact this)
  have hpe := fun W => pos_eq ((p.1 : Int) + 1) (p.2 : Int) ((p.1 : Int) + 1) (p.2 : Int) W
  clear h hx hy hb hp hcc hlt
  go_enter Tryz.func51, Tryz.ntmps51
  go_upto_region 1 with fail
  refine wp_region_quiet_below (by kernel_rfl) (by kernel_rfl) ?_
  repeat (quiet_step (with_reducible exact Calls.regrown_of (HFT.out _ _)))
  refine wpQuiet_nil ?_
  intro _ hw'
  obtain ⟨⟨dq1, osq1⟩, hw''⟩ := hw'
  subst hw''
  have hb3 := below_regrown w2 dq1 osq1
  have HX3 := Lib.hid ((hb3.block _ (lt_of_heap HX.out)).trans HX.out)
  have HY3 := Lib.hid ((hb3.block _ (lt_of_heap HY.out)).trans HY.out)
  have HB3 := Lib.hid (HB.out.trans (hb3.mono HB.out.size))
  have HS3 := Lib.hid (HS.out.later lasts_str hb3)
  clear hb3 X0 X1 X2 HFT hpe hw2 HX HY HB HS
  generalize grow (redrawn w2 dq1) osq1 = w3 at *
  have hcc := Lib.cell_of_heap HX3.out
  have d3 : w3.cell? ⟨w.heap.size, 3, none⟩ = some (.int .u8 108) := by rw [hcc]; rfl
  have d4 : w3.cell? ⟨w.heap.size, 4, none⟩ = some (.int .i64 0) := by rw [hcc]; rfl
  have hc1i : (0 : Int) < 1 := by omega
  clear hcc
  go_upto_region 3 with fail
  go_upto_region 4 with (first
    | (refine wpList_load_row rfl 113 (.tmp 1) (by with_reducible rfl) w.heap.size rfl 113 _ (0, 0) _ HX3.out Tryz.underlying113 rfl (by kernel_rfl) ?_)
    | (refine wpList_built rfl 138 #[(0, .tmp 20), (1, .tmp 24)] (by with_reducible rfl) ((askA (.slice ao ls.length cap) ((p.1 : Int) + 1) (p.2 : Int) 108 0 0).push (.int .i64 1)) (by kernel_rfl) ?_))
  have hb4 := (Below.refl w3.heap.size w3).alloc (Nat.le_refl _) (.cells ((askA (.slice ao ls.length cap) ((p.1 : Int) + 1) (p.2 : Int) 108 0 0).push (.int .i64 1)) 138)
  have hm4 := heap_alloc_new w3 (.cells ((askA (.slice ao ls.length cap) ((p.1 : Int) + 1) (p.2 : Int) 108 0 0).push (.int .i64 1)) 138)
  have hlx : w.heap.size < w3.heap.size := lt_of_heap HX3.out
  obtain ⟨m, hm⟩ : ∃ m, w3.heap.size = m := ⟨_, rfl⟩
  have HY4 := Lib.hid ((hb4.block _ (lt_of_heap HY3.out)).trans HY3.out)
  have HB4 := Lib.hid (HB3.out.trans (hb4.mono HB3.out.size))
  have hcm := Lib.cell_of_heap hm4
  have d3' := (hb4.cell (p := ⟨w.heap.size, 3, none⟩) (lt_of_cell d3)).trans d3
  have HMW : Hid (MwAt (w3.alloc (.cells ((askA (.slice ao ls.length cap) ((p.1 : Int) + 1) (p.2 : Int) 108 0 0).push (.int .i64 1)) 138)) w3.heap.size ls ao cap p 1) := Lib.hid ⟨⟨by rw [hcm]; rfl, HS3.out.later lasts_str hb4, hsh, hfew⟩, by rw [hcm]; rfl, by rw [hcm]; rfl, by rw [hcm]; rfl, by omega, HP.out⟩
  rw [hm] at HMW ⊢
  clear hb4 hm4 hcm hm d3 d4 HX3 HY3 HB3 HS3
  generalize w3.alloc (.cells ((askA (.slice ao ls.length cap) ((p.1 : Int) + 1) (p.2 : Int) 108 0 0).push (.int .i64 1)) 138) = w4 at *
  have cn : w4.cell? ⟨m, 36, none⟩ = some (.int .i64 1) := HMW.out.cn
  go_wp2_with fail
  have hwd := side_one HMW.out HLT.out
  unfold toV at hwd
  refine hwd.mono ?_
  rintro e w5 ⟨rfl, hb5⟩
  have HY5 := Lib.hid ((hb5.block _ (lt_of_heap HY4.out)).trans HY4.out)
  have HB5 := Lib.hid (HB4.out.trans (hb5.mono HB4.out.size))
  clear hwd hb5 HY4 HB4 d3' HMW
  generalize hq : ((p.1, p.2 + 1) : Pl) = q at *
  have y0 := Lib.cell_of_heap HY5.out 0
  have y1 := Lib.cell_of_heap HY5.out 1
  have y2 := Lib.cell_of_heap HY5.out 2
  have y3 := Lib.cell_of_heap HY5.out 3
  have g0 := Lib.frozen_of_heap HY5.out 0
  have g1 := Lib.frozen_of_heap HY5.out 1
  have g2 := Lib.frozen_of_heap HY5.out 2
  have g3 := Lib.frozen_of_heap HY5.out 3
  simp at y0 y1 y2 y3
  go_wp2_with fail
  obtain ⟨t0, t1, t2, t3, hb⟩ := fin_four (w := w) HY5.out (by omega) HB5.out (.int .i64 ((q.1 : Int) + 1)) (.int .i64 (q.2 : Int)) (.bool false) (.bool false)
  refine bodyPost_ret (v := .tuple #[toV q false false, .bool true]) ?_ rfl ?_
  · unfold toV
    simp [results, Tryz.results51, go_sem, t0, t1, t2, t3]
  · exact ⟨by rw [← hq], hb⟩
end Go.Proofs.YthhihondlihebaaGreatDoor
