/- The walks of moves: Move, at words' motions. -/
import Derived.Test.YtopbpmcanhbklaaGreatDoorMv8
import Derived.Laws.Tables
set_option linter.unusedVariables false
set_option linter.unusedSimpArgs false
namespace Go.Proofs.YtopbpmcanhbklaaGreatDoor
open Go Go.Proofs Go.RowKit Go.Ink Go.Sort

/-- What is asked: lines, a place, a name, a count, a letter. -/
def askA (v : Value) (line col : Int) (name : Int) (count : Int) (letter : Int) : Array Value := #[v, .int .i64 line, .int .i64 col, .int .u8 name, .int .i64 count, .int .u8 letter, .int .i64 0, .int .i64 0, .int .i64 0, .int .i64 0, .int .i64 0, .int .i64 0, .int .i64 0, .int .i64 0, .int .i64 0, .int .i64 0, .int .i64 0, .int .i64 0, .int .i64 0, .int .i64 0, .int .i64 0, .int .i64 0, .int .i64 0, .int .i64 0, .int .i64 0, .int .i64 0, .int .i64 0, .int .i64 0, .int .i64 0, .int .i64 0, .int .i64 0, .int .i64 0, .string ⟨#[]⟩, .bool false, .int .u8 0, .int .u8 0]
/-- A struct that is built, its cells known. -/
theorem wpList_built {P : Program} {ops : Array Oper} {rest : List Oper} {o : Oper} {a : Act} {w : World} {Q : Exit → Act → World → Prop} (hg : o.guard = none) (t : TypeId) (parts : Array (Nat × Operand)) (ho : o.op = .build t parts) (cells : Array Value)
    (hc : P.built t (parts.map fun (i, x) => (i, a.eval x)).toList = some cells) (h : wpList P ops Q rest (a.put o.dst (.agg cells)) w) : wpList P ops Q (o :: rest) a w :=
  wpList_build hg t parts ho (by rw [hc]; rfl) (by rw [hc]; exact h)
theorem fit_ok {ls : List (List UInt8)} {p : Pl} (h : Okp ls p) : fitI ls ((p.1 : Int) + 1) (p.2 : Int) = ((p.1 : Int) + 1, (p.2 : Int)) := by
  obtain ⟨i, c⟩ := p
  obtain ⟨h1, h2⟩ := h
  simp only at h1 h2 ⊢
  unfold fitI
  rw [if_neg (by omega)]
  have e : min (max ((i : Int) + 1) 1) (ls.length : Int) = (i : Int) + 1 := by omega
  rw [e, show ((i : Int) + 1 - 1).toNat = i by omega]
  congr 1
  omega
set_option maxRecDepth 100000 in
set_option maxHeartbeats 2000000 in
theorem move_w {w : World} {ls : List (List UInt8)} {ao : Option Addr} {cap : Nat} (h : SlOf IsStr w ao cap ls) (hsh : ∀ i, (lnL ls i).length ≤ 1000000) (hfew : ls.length ≤ 1000000) (p : Pl) (hp : Okp ls p) (count : Nat) (hc1 : 1 ≤ count) (hc2 : count ≤ 9999) :
    Calls Tryz.prog 6 #[.agg (askA (.slice ao ls.length cap) ((p.1 : Int) + 1) (p.2 : Int) 119 (count : Int) 0)] w fun e w' => e = .returned (.tuple #[toV (manyP (wordP ls false) count p).1 false (!(manyP (wordP ls false) count p).2), .bool (decide ((manyP (wordP ls false) count p).1 ≠ p))]) ∧ Below w.heap.size w w' := by
  have hlen : ls.length ≤ 9223372036854775807 := by omega
  obtain ⟨w2, hw2⟩ : ∃ w2, (w.alloc (.cells (askA (.slice ao ls.length cap) ((p.1 : Int) + 1) (p.2 : Int) 119 (count : Int) 0) 31)).alloc (.cells #[.int .i64 0, .int .i64 0, .bool false, .bool false] 35) = w2 := ⟨_, rfl⟩
  obtain ⟨hx, hy, hb⟩ := @two_blk2 w (.cells (askA (.slice ao ls.length cap) ((p.1 : Int) + 1) (p.2 : Int) 119 (count : Int) 0) 31) (.cells #[.int .i64 0, .int .i64 0, .bool false, .bool false] 35)
  rw [hw2] at hx hy hb
  have HX := Lib.hid hx
  have HY := Lib.hid hy
  have HB := Lib.hid hb
  have HS := Lib.hid (h.later lasts_str hb)
  have HP := Lib.hid hp
  have hn0 : ¬ (ls.length : Int) = 0 := by have := hp.1; omega
  have hn0b : ((ls.length : Int) == 0) = false := by rw [beq_eq_false_iff_ne]; exact hn0
  have hcc := Lib.cell_of_heap hx
  have X0 := fun d os => cell_regrown (show w2.cell? ⟨w.heap.size, 0, none⟩ = some (.slice ao ls.length cap) by rw [hcc]; rfl) d os
  have X1 := fun d os => cell_regrown (show w2.cell? ⟨w.heap.size, 1, none⟩ = some (.int .i64 ((p.1 : Int) + 1)) by rw [hcc]; rfl) d os
  have X2 := fun d os => cell_regrown (show w2.cell? ⟨w.heap.size, 2, none⟩ = some (.int .i64 (p.2 : Int)) by rw [hcc]; rfl) d os
  have HFT := Lib.hid (fun d os => by have := fit_any (HS.out.later lasts_str (below_regrown w2 d os)) hsh ((p.1 : Int) + 1) (p.2 : Int); rw [fit_ok HP.out] at this; exact this)
  have hpe := fun W => pos_eq ((p.1 : Int) + 1) (p.2 : Int) ((p.1 : Int) + 1) (p.2 : Int) W
  clear h hx hy hb hp hcc
  go_enter Tryz.func6, Tryz.ntmps6
  go_upto_region 1 with fail
  refine wp_region_quiet_below (by kernel_rfl) (by kernel_rfl) ?_
  repeat (quiet_step (with_reducible exact Calls.regrown_of (HFT.out _ _)))
  refine wpQuiet_nil ?_
  intro _ hw'
  obtain ⟨⟨dq1, osq1⟩, hw''⟩ := hw'
  subst hw''
  have hb3 := below_regrown w2 dq1 osq1
  have HX3 := Lib.hid ((hb3.block _ (lt_of_heap HX.out)).trans HX.out)
  have HY3 := Lib.hid ((hb3.block _ (lt_of_heap HY.out)).trans HY.out)
  have HB3 := Lib.hid (HB.out.trans (hb3.mono HB.out.size))
  have HS3 := Lib.hid (HS.out.later lasts_str hb3)
  clear hb3 X0 X1 X2 HFT hpe hw2 HX HY HB HS
  generalize grow (redrawn w2 dq1) osq1 = w3 at *
  have hcc := Lib.cell_of_heap HX3.out
  have d3 : w3.cell? ⟨w.heap.size, 3, none⟩ = some (.int .u8 119) := by rw [hcc]; rfl
  have d4 : w3.cell? ⟨w.heap.size, 4, none⟩ = some (.int .i64 (count : Int)) := by rw [hcc]; rfl
  have hc1i : ¬ (count : Int) < 1 := by omega
  have hc2i : ¬ (9999 : Int) < (count : Int) := by omega
  clear hcc
  go_upto_region 3 with fail
  go_upto_region 4 with (first
    | (refine wpList_load_row rfl 31 (.tmp 1) (by with_reducible rfl) w.heap.size rfl 31 _ (0, 0) _ HX3.out Tryz.underlying31 rfl (by kernel_rfl) ?_)
    | (refine wpList_built rfl 48 #[(0, .tmp 20), (1, .tmp 24)] (by with_reducible rfl) ((askA (.slice ao ls.length cap) ((p.1 : Int) + 1) (p.2 : Int) 119 (count : Int) 0).push (.int .i64 (count : Int))) (by kernel_rfl) ?_))
  have hb4 := (Below.refl w3.heap.size w3).alloc (Nat.le_refl _) (.cells ((askA (.slice ao ls.length cap) ((p.1 : Int) + 1) (p.2 : Int) 119 (count : Int) 0).push (.int .i64 (count : Int))) 48)
  have hm4 := heap_alloc_new w3 (.cells ((askA (.slice ao ls.length cap) ((p.1 : Int) + 1) (p.2 : Int) 119 (count : Int) 0).push (.int .i64 (count : Int))) 48)
  have hlx : w.heap.size < w3.heap.size := lt_of_heap HX3.out
  obtain ⟨m, hm⟩ : ∃ m, w3.heap.size = m := ⟨_, rfl⟩
  have HY4 := Lib.hid ((hb4.block _ (lt_of_heap HY3.out)).trans HY3.out)
  have HB4 := Lib.hid (HB3.out.trans (hb4.mono HB3.out.size))
  have hcm := Lib.cell_of_heap hm4
  have d3' := (hb4.cell (p := ⟨w.heap.size, 3, none⟩) (lt_of_cell d3)).trans d3
  have HMW : Hid (MwAt (w3.alloc (.cells ((askA (.slice ao ls.length cap) ((p.1 : Int) + 1) (p.2 : Int) 119 (count : Int) 0).push (.int .i64 (count : Int))) 48)) w3.heap.size ls ao cap p count) := Lib.hid ⟨⟨by rw [hcm]; rfl, HS3.out.later lasts_str hb4, hsh, hfew⟩, by rw [hcm]; rfl, by rw [hcm]; rfl, by rw [hcm]; rfl, by omega, HP.out⟩
  rw [hm] at HMW ⊢
  clear hb4 hm4 hcm hm d3 d4 HX3 HY3 HB3 HS3
  generalize w3.alloc (.cells ((askA (.slice ao ls.length cap) ((p.1 : Int) + 1) (p.2 : Int) 119 (count : Int) 0).push (.int .i64 (count : Int))) 48) = w4 at *
  go_wp2_with fail
  have hwd := words_any HMW.out false
  unfold toV at hwd
  refine hwd.mono ?_
  rintro e w5 ⟨rfl, hb5⟩
  have HY5 := Lib.hid ((hb5.block _ (lt_of_heap HY4.out)).trans HY4.out)
  have HB5 := Lib.hid (HB4.out.trans (hb5.mono HB4.out.size))
  clear hwd hb5 HY4 HB4 d3' HMW
  generalize hmn : manyP (wordP ls false) count p = mn at *
  have HMN := Lib.hid hmn
  clear hmn
  obtain ⟨q, ok⟩ := mn
  have y0 := Lib.cell_of_heap HY5.out 0
  have y1 := Lib.cell_of_heap HY5.out 1
  have y2 := Lib.cell_of_heap HY5.out 2
  have y3 := Lib.cell_of_heap HY5.out 3
  have g0 := Lib.frozen_of_heap HY5.out 0
  have g1 := Lib.frozen_of_heap HY5.out 1
  have g2 := Lib.frozen_of_heap HY5.out 2
  have g3 := Lib.frozen_of_heap HY5.out 3
  simp at y0 y1 y2 y3
  go_wp2_with fail
  obtain ⟨t0, t1, t2, t3, hb⟩ := fin_four (w := w) HY5.out (by omega) HB5.out (.int .i64 ((q.1 : Int) + 1)) (.int .i64 (q.2 : Int)) (.bool false) (.bool (!ok))
  refine bodyPost_ret (v := .tuple #[toV q false (!ok), .bool (decide (q ≠ p))]) ?_ rfl ?_
  · unfold toV
    simp [results, Tryz.results6, go_sem, t0, t1, t2, t3]
  · exact ⟨by rw [HMN.out], hb⟩
set_option maxRecDepth 100000 in
set_option maxHeartbeats 2000000 in
theorem move_W {w : World} {ls : List (List UInt8)} {ao : Option Addr} {cap : Nat} (h : SlOf IsStr w ao cap ls) (hsh : ∀ i, (lnL ls i).length ≤ 1000000) (hfew : ls.length ≤ 1000000) (p : Pl) (hp : Okp ls p) (count : Nat) (hc1 : 1 ≤ count) (hc2 : count ≤ 9999) :
    Calls Tryz.prog 6 #[.agg (askA (.slice ao ls.length cap) ((p.1 : Int) + 1) (p.2 : Int) 87 (count : Int) 0)] w fun e w' => e = .returned (.tuple #[toV (manyP (wordP ls true) count p).1 false (!(manyP (wordP ls true) count p).2), .bool (decide ((manyP (wordP ls true) count p).1 ≠ p))]) ∧ Below w.heap.size w w' := by
  have hlen : ls.length ≤ 9223372036854775807 := by omega
  obtain ⟨w2, hw2⟩ : ∃ w2, (w.alloc (.cells (askA (.slice ao ls.length cap) ((p.1 : Int) + 1) (p.2 : Int) 87 (count : Int) 0) 31)).alloc (.cells #[.int .i64 0, .int .i64 0, .bool false, .bool false] 35) = w2 := ⟨_, rfl⟩
  obtain ⟨hx, hy, hb⟩ := @two_blk2 w (.cells (askA (.slice ao ls.length cap) ((p.1 : Int) + 1) (p.2 : Int) 87 (count : Int) 0) 31) (.cells #[.int .i64 0, .int .i64 0, .bool false, .bool false] 35)
  rw [hw2] at hx hy hb
  have HX := Lib.hid hx
  have HY := Lib.hid hy
  have HB := Lib.hid hb
  have HS := Lib.hid (h.later lasts_str hb)
  have HP := Lib.hid hp
  have hn0 : ¬ (ls.length : Int) = 0 := by have := hp.1; omega
  have hn0b : ((ls.length : Int) == 0) = false := by rw [beq_eq_false_iff_ne]; exact hn0
  have hcc := Lib.cell_of_heap hx
  have X0 := fun d os => cell_regrown (show w2.cell? ⟨w.heap.size, 0, none⟩ = some (.slice ao ls.length cap) by rw [hcc]; rfl) d os
  have X1 := fun d os => cell_regrown (show w2.cell? ⟨w.heap.size, 1, none⟩ = some (.int .i64 ((p.1 : Int) + 1)) by rw [hcc]; rfl) d os
  have X2 := fun d os => cell_regrown (show w2.cell? ⟨w.heap.size, 2, none⟩ = some (.int .i64 (p.2 : Int)) by rw [hcc]; rfl) d os
  have HFT := Lib.hid (fun d os => by have := fit_any (HS.out.later lasts_str (below_regrown w2 d os)) hsh ((p.1 : Int) + 1) (p.2 : Int); rw [fit_ok HP.out] at this; exact this)
  have hpe := fun W => pos_eq ((p.1 : Int) + 1) (p.2 : Int) ((p.1 : Int) + 1) (p.2 : Int) W
  clear h hx hy hb hp hcc
  go_enter Tryz.func6, Tryz.ntmps6
  go_upto_region 1 with fail
  refine wp_region_quiet_below (by kernel_rfl) (by kernel_rfl) ?_
  repeat (quiet_step (with_reducible exact Calls.regrown_of (HFT.out _ _)))
  refine wpQuiet_nil ?_
  intro _ hw'
  obtain ⟨⟨dq1, osq1⟩, hw''⟩ := hw'
  subst hw''
  have hb3 := below_regrown w2 dq1 osq1
  have HX3 := Lib.hid ((hb3.block _ (lt_of_heap HX.out)).trans HX.out)
  have HY3 := Lib.hid ((hb3.block _ (lt_of_heap HY.out)).trans HY.out)
  have HB3 := Lib.hid (HB.out.trans (hb3.mono HB.out.size))
  have HS3 := Lib.hid (HS.out.later lasts_str hb3)
  clear hb3 X0 X1 X2 HFT hpe hw2 HX HY HB HS
  generalize grow (redrawn w2 dq1) osq1 = w3 at *
  have hcc := Lib.cell_of_heap HX3.out
  have d3 : w3.cell? ⟨w.heap.size, 3, none⟩ = some (.int .u8 87) := by rw [hcc]; rfl
  have d4 : w3.cell? ⟨w.heap.size, 4, none⟩ = some (.int .i64 (count : Int)) := by rw [hcc]; rfl
  have hc1i : ¬ (count : Int) < 1 := by omega
  have hc2i : ¬ (9999 : Int) < (count : Int) := by omega
  clear hcc
  go_upto_region 3 with fail
  go_upto_region 4 with (first
    | (refine wpList_load_row rfl 31 (.tmp 1) (by with_reducible rfl) w.heap.size rfl 31 _ (0, 0) _ HX3.out Tryz.underlying31 rfl (by kernel_rfl) ?_)
    | (refine wpList_built rfl 48 #[(0, .tmp 20), (1, .tmp 24)] (by with_reducible rfl) ((askA (.slice ao ls.length cap) ((p.1 : Int) + 1) (p.2 : Int) 87 (count : Int) 0).push (.int .i64 (count : Int))) (by kernel_rfl) ?_))
  have hb4 := (Below.refl w3.heap.size w3).alloc (Nat.le_refl _) (.cells ((askA (.slice ao ls.length cap) ((p.1 : Int) + 1) (p.2 : Int) 87 (count : Int) 0).push (.int .i64 (count : Int))) 48)
  have hm4 := heap_alloc_new w3 (.cells ((askA (.slice ao ls.length cap) ((p.1 : Int) + 1) (p.2 : Int) 87 (count : Int) 0).push (.int .i64 (count : Int))) 48)
  have hlx : w.heap.size < w3.heap.size := lt_of_heap HX3.out
  obtain ⟨m, hm⟩ : ∃ m, w3.heap.size = m := ⟨_, rfl⟩
  have HY4 := Lib.hid ((hb4.block _ (lt_of_heap HY3.out)).trans HY3.out)
  have HB4 := Lib.hid (HB3.out.trans (hb4.mono HB3.out.size))
  have hcm := Lib.cell_of_heap hm4
  have d3' := (hb4.cell (p := ⟨w.heap.size, 3, none⟩) (lt_of_cell d3)).trans d3
  have HMW : Hid (MwAt (w3.alloc (.cells ((askA (.slice ao ls.length cap) ((p.1 : Int) + 1) (p.2 : Int) 87 (count : Int) 0).push (.int .i64 (count : Int))) 48)) w3.heap.size ls ao cap p count) := Lib.hid ⟨⟨by rw [hcm]; rfl, HS3.out.later lasts_str hb4, hsh, hfew⟩, by rw [hcm]; rfl, by rw [hcm]; rfl, by rw [hcm]; rfl, by omega, HP.out⟩
  rw [hm] at HMW ⊢
  clear hb4 hm4 hcm hm d3 d4 HX3 HY3 HB3 HS3
  generalize w3.alloc (.cells ((askA (.slice ao ls.length cap) ((p.1 : Int) + 1) (p.2 : Int) 87 (count : Int) 0).push (.int .i64 (count : Int))) 48) = w4 at *
  go_wp2_with fail
  have hwd := words_any HMW.out true
  unfold toV at hwd
  refine hwd.mono ?_
  rintro e w5 ⟨rfl, hb5⟩
  have HY5 := Lib.hid ((hb5.block _ (lt_of_heap HY4.out)).trans HY4.out)
  have HB5 := Lib.hid (HB4.out.trans (hb5.mono HB4.out.size))
  clear hwd hb5 HY4 HB4 d3' HMW
  generalize hmn : manyP (wordP ls true) count p = mn at *
  have HMN := Lib.hid hmn
  clear hmn
  obtain ⟨q, ok⟩ := mn
  have y0 := Lib.cell_of_heap HY5.out 0
  have y1 := Lib.cell_of_heap HY5.out 1
  have y2 := Lib.cell_of_heap HY5.out 2
  have y3 := Lib.cell_of_heap HY5.out 3
  have g0 := Lib.frozen_of_heap HY5.out 0
  have g1 := Lib.frozen_of_heap HY5.out 1
  have g2 := Lib.frozen_of_heap HY5.out 2
  have g3 := Lib.frozen_of_heap HY5.out 3
  simp at y0 y1 y2 y3
  go_wp2_with fail
  obtain ⟨t0, t1, t2, t3, hb⟩ := fin_four (w := w) HY5.out (by omega) HB5.out (.int .i64 ((q.1 : Int) + 1)) (.int .i64 (q.2 : Int)) (.bool false) (.bool (!ok))
  refine bodyPost_ret (v := .tuple #[toV q false (!ok), .bool (decide (q ≠ p))]) ?_ rfl ?_
  · unfold toV
    simp [results, Tryz.results6, go_sem, t0, t1, t2, t3]
  · exact ⟨by rw [HMN.out], hb⟩
set_option maxRecDepth 100000 in
set_option maxHeartbeats 2000000 in
theorem move_b {w : World} {ls : List (List UInt8)} {ao : Option Addr} {cap : Nat} (h : SlOf IsStr w ao cap ls) (hsh : ∀ i, (lnL ls i).length ≤ 1000000) (hfew : ls.length ≤ 1000000) (p : Pl) (hp : Okp ls p) (count : Nat) (hc1 : 1 ≤ count) (hc2 : count ≤ 9999) :
    Calls Tryz.prog 6 #[.agg (askA (.slice ao ls.length cap) ((p.1 : Int) + 1) (p.2 : Int) 98 (count : Int) 0)] w fun e w' => e = .returned (.tuple #[toV (manyP (aheadP ls false) count p).1 false false, .bool (decide ((manyP (aheadP ls false) count p).1 ≠ p))]) ∧ Below w.heap.size w w' := by
  have hlen : ls.length ≤ 9223372036854775807 := by omega
  obtain ⟨w2, hw2⟩ : ∃ w2, (w.alloc (.cells (askA (.slice ao ls.length cap) ((p.1 : Int) + 1) (p.2 : Int) 98 (count : Int) 0) 31)).alloc (.cells #[.int .i64 0, .int .i64 0, .bool false, .bool false] 35) = w2 := ⟨_, rfl⟩
  obtain ⟨hx, hy, hb⟩ := @two_blk2 w (.cells (askA (.slice ao ls.length cap) ((p.1 : Int) + 1) (p.2 : Int) 98 (count : Int) 0) 31) (.cells #[.int .i64 0, .int .i64 0, .bool false, .bool false] 35)
  rw [hw2] at hx hy hb
  have HX := Lib.hid hx
  have HY := Lib.hid hy
  have HB := Lib.hid hb
  have HS := Lib.hid (h.later lasts_str hb)
  have HP := Lib.hid hp
  have hn0 : ¬ (ls.length : Int) = 0 := by have := hp.1; omega
  have hn0b : ((ls.length : Int) == 0) = false := by rw [beq_eq_false_iff_ne]; exact hn0
  have hcc := Lib.cell_of_heap hx
  have X0 := fun d os => cell_regrown (show w2.cell? ⟨w.heap.size, 0, none⟩ = some (.slice ao ls.length cap) by rw [hcc]; rfl) d os
  have X1 := fun d os => cell_regrown (show w2.cell? ⟨w.heap.size, 1, none⟩ = some (.int .i64 ((p.1 : Int) + 1)) by rw [hcc]; rfl) d os
  have X2 := fun d os => cell_regrown (show w2.cell? ⟨w.heap.size, 2, none⟩ = some (.int .i64 (p.2 : Int)) by rw [hcc]; rfl) d os
  have HFT := Lib.hid (fun d os => by have := fit_any (HS.out.later lasts_str (below_regrown w2 d os)) hsh ((p.1 : Int) + 1) (p.2 : Int); rw [fit_ok HP.out] at this; exact this)
  have hpe := fun W => pos_eq ((p.1 : Int) + 1) (p.2 : Int) ((p.1 : Int) + 1) (p.2 : Int) W
  clear h hx hy hb hp hcc
  go_enter Tryz.func6, Tryz.ntmps6
  go_upto_region 1 with fail
  refine wp_region_quiet_below (by kernel_rfl) (by kernel_rfl) ?_
  repeat (quiet_step (with_reducible exact Calls.regrown_of (HFT.out _ _)))
  refine wpQuiet_nil ?_
  intro _ hw'
  obtain ⟨⟨dq1, osq1⟩, hw''⟩ := hw'
  subst hw''
  have hb3 := below_regrown w2 dq1 osq1
  have HX3 := Lib.hid ((hb3.block _ (lt_of_heap HX.out)).trans HX.out)
  have HY3 := Lib.hid ((hb3.block _ (lt_of_heap HY.out)).trans HY.out)
  have HB3 := Lib.hid (HB.out.trans (hb3.mono HB.out.size))
  have HS3 := Lib.hid (HS.out.later lasts_str hb3)
  clear hb3 X0 X1 X2 HFT hpe hw2 HX HY HB HS
  generalize grow (redrawn w2 dq1) osq1 = w3 at *
  have hcc := Lib.cell_of_heap HX3.out
  have d3 : w3.cell? ⟨w.heap.size, 3, none⟩ = some (.int .u8 98) := by rw [hcc]; rfl
  have d4 : w3.cell? ⟨w.heap.size, 4, none⟩ = some (.int .i64 (count : Int)) := by rw [hcc]; rfl
  have hc1i : ¬ (count : Int) < 1 := by omega
  have hc2i : ¬ (9999 : Int) < (count : Int) := by omega
  clear hcc
  go_upto_region 3 with fail
  go_upto_region 4 with (first
    | (refine wpList_load_row rfl 31 (.tmp 1) (by with_reducible rfl) w.heap.size rfl 31 _ (0, 0) _ HX3.out Tryz.underlying31 rfl (by kernel_rfl) ?_)
    | (refine wpList_built rfl 48 #[(0, .tmp 20), (1, .tmp 24)] (by with_reducible rfl) ((askA (.slice ao ls.length cap) ((p.1 : Int) + 1) (p.2 : Int) 98 (count : Int) 0).push (.int .i64 (count : Int))) (by kernel_rfl) ?_))
  have hb4 := (Below.refl w3.heap.size w3).alloc (Nat.le_refl _) (.cells ((askA (.slice ao ls.length cap) ((p.1 : Int) + 1) (p.2 : Int) 98 (count : Int) 0).push (.int .i64 (count : Int))) 48)
  have hm4 := heap_alloc_new w3 (.cells ((askA (.slice ao ls.length cap) ((p.1 : Int) + 1) (p.2 : Int) 98 (count : Int) 0).push (.int .i64 (count : Int))) 48)
  have hlx : w.heap.size < w3.heap.size := lt_of_heap HX3.out
  obtain ⟨m, hm⟩ : ∃ m, w3.heap.size = m := ⟨_, rfl⟩
  have HY4 := Lib.hid ((hb4.block _ (lt_of_heap HY3.out)).trans HY3.out)
  have HB4 := Lib.hid (HB3.out.trans (hb4.mono HB3.out.size))
  have hcm := Lib.cell_of_heap hm4
  have d3' := (hb4.cell (p := ⟨w.heap.size, 3, none⟩) (lt_of_cell d3)).trans d3
  have HMW : Hid (MwAt (w3.alloc (.cells ((askA (.slice ao ls.length cap) ((p.1 : Int) + 1) (p.2 : Int) 98 (count : Int) 0).push (.int .i64 (count : Int))) 48)) w3.heap.size ls ao cap p count) := Lib.hid ⟨⟨by rw [hcm]; rfl, HS3.out.later lasts_str hb4, hsh, hfew⟩, by rw [hcm]; rfl, by rw [hcm]; rfl, by rw [hcm]; rfl, by omega, HP.out⟩
  rw [hm] at HMW ⊢
  clear hb4 hm4 hcm hm d3 d4 HX3 HY3 HB3 HS3
  generalize w3.alloc (.cells ((askA (.slice ao ls.length cap) ((p.1 : Int) + 1) (p.2 : Int) 98 (count : Int) 0).push (.int .i64 (count : Int))) 48) = w4 at *
  go_wp2_with fail
  have hwd := ahead_any HMW.out false
  unfold toV at hwd
  refine hwd.mono ?_
  rintro e w5 ⟨rfl, hb5⟩
  have HY5 := Lib.hid ((hb5.block _ (lt_of_heap HY4.out)).trans HY4.out)
  have HB5 := Lib.hid (HB4.out.trans (hb5.mono HB4.out.size))
  clear hwd hb5 HY4 HB4 d3' HMW
  generalize hmn : manyP (aheadP ls false) count p = mn at *
  have HMN := Lib.hid hmn
  clear hmn
  obtain ⟨q, ok⟩ := mn
  have y0 := Lib.cell_of_heap HY5.out 0
  have y1 := Lib.cell_of_heap HY5.out 1
  have y2 := Lib.cell_of_heap HY5.out 2
  have y3 := Lib.cell_of_heap HY5.out 3
  have g0 := Lib.frozen_of_heap HY5.out 0
  have g1 := Lib.frozen_of_heap HY5.out 1
  have g2 := Lib.frozen_of_heap HY5.out 2
  have g3 := Lib.frozen_of_heap HY5.out 3
  simp at y0 y1 y2 y3
  go_wp2_with fail
  obtain ⟨t0, t1, t2, t3, hb⟩ := fin_four (w := w) HY5.out (by omega) HB5.out (.int .i64 ((q.1 : Int) + 1)) (.int .i64 (q.2 : Int)) (.bool false) (.bool false)
  refine bodyPost_ret (v := .tuple #[toV q false false, .bool (decide (q ≠ p))]) ?_ rfl ?_
  · unfold toV
    simp [results, Tryz.results6, go_sem, t0, t1, t2, t3]
  · exact ⟨by rw [HMN.out], hb⟩
set_option maxRecDepth 100000 in
set_option maxHeartbeats 2000000 in
theorem move_B {w : World} {ls : List (List UInt8)} {ao : Option Addr} {cap : Nat} (h : SlOf IsStr w ao cap ls) (hsh : ∀ i, (lnL ls i).length ≤ 1000000) (hfew : ls.length ≤ 1000000) (p : Pl) (hp : Okp ls p) (count : Nat) (hc1 : 1 ≤ count) (hc2 : count ≤ 9999) :
    Calls Tryz.prog 6 #[.agg (askA (.slice ao ls.length cap) ((p.1 : Int) + 1) (p.2 : Int) 66 (count : Int) 0)] w fun e w' => e = .returned (.tuple #[toV (manyP (aheadP ls true) count p).1 false false, .bool (decide ((manyP (aheadP ls true) count p).1 ≠ p))]) ∧ Below w.heap.size w w' := by
  have hlen : ls.length ≤ 9223372036854775807 := by omega
  obtain ⟨w2, hw2⟩ : ∃ w2, (w.alloc (.cells (askA (.slice ao ls.length cap) ((p.1 : Int) + 1) (p.2 : Int) 66 (count : Int) 0) 31)).alloc (.cells #[.int .i64 0, .int .i64 0, .bool false, .bool false] 35) = w2 := ⟨_, rfl⟩
  obtain ⟨hx, hy, hb⟩ := @two_blk2 w (.cells (askA (.slice ao ls.length cap) ((p.1 : Int) + 1) (p.2 : Int) 66 (count : Int) 0) 31) (.cells #[.int .i64 0, .int .i64 0, .bool false, .bool false] 35)
  rw [hw2] at hx hy hb
  have HX := Lib.hid hx
  have HY := Lib.hid hy
  have HB := Lib.hid hb
  have HS := Lib.hid (h.later lasts_str hb)
  have HP := Lib.hid hp
  have hn0 : ¬ (ls.length : Int) = 0 := by have := hp.1; omega
  have hn0b : ((ls.length : Int) == 0) = false := by rw [beq_eq_false_iff_ne]; exact hn0
  have hcc := Lib.cell_of_heap hx
  have X0 := fun d os => cell_regrown (show w2.cell? ⟨w.heap.size, 0, none⟩ = some (.slice ao ls.length cap) by rw [hcc]; rfl) d os
  have X1 := fun d os => cell_regrown (show w2.cell? ⟨w.heap.size, 1, none⟩ = some (.int .i64 ((p.1 : Int) + 1)) by rw [hcc]; rfl) d os
  have X2 := fun d os => cell_regrown (show w2.cell? ⟨w.heap.size, 2, none⟩ = some (.int .i64 (p.2 : Int)) by rw [hcc]; rfl) d os
  have HFT := Lib.hid (fun d os => by have := fit_any (HS.out.later lasts_str (below_regrown w2 d os)) hsh ((p.1 : Int) + 1) (p.2 : Int); rw [fit_ok HP.out] at this; exact this)
  have hpe := fun W => pos_eq ((p.1 : Int) + 1) (p.2 : Int) ((p.1 : Int) + 1) (p.2 : Int) W
  clear h hx hy hb hp hcc
  go_enter Tryz.func6, Tryz.ntmps6
  go_upto_region 1 with fail
  refine wp_region_quiet_below (by kernel_rfl) (by kernel_rfl) ?_
  repeat (quiet_step (with_reducible exact Calls.regrown_of (HFT.out _ _)))
  refine wpQuiet_nil ?_
  intro _ hw'
  obtain ⟨⟨dq1, osq1⟩, hw''⟩ := hw'
  subst hw''
  have hb3 := below_regrown w2 dq1 osq1
  have HX3 := Lib.hid ((hb3.block _ (lt_of_heap HX.out)).trans HX.out)
  have HY3 := Lib.hid ((hb3.block _ (lt_of_heap HY.out)).trans HY.out)
  have HB3 := Lib.hid (HB.out.trans (hb3.mono HB.out.size))
  have HS3 := Lib.hid (HS.out.later lasts_str hb3)
  clear hb3 X0 X1 X2 HFT hpe hw2 HX HY HB HS
  generalize grow (redrawn w2 dq1) osq1 = w3 at *
  have hcc := Lib.cell_of_heap HX3.out
  have d3 : w3.cell? ⟨w.heap.size, 3, none⟩ = some (.int .u8 66) := by rw [hcc]; rfl
  have d4 : w3.cell? ⟨w.heap.size, 4, none⟩ = some (.int .i64 (count : Int)) := by rw [hcc]; rfl
  have hc1i : ¬ (count : Int) < 1 := by omega
  have hc2i : ¬ (9999 : Int) < (count : Int) := by omega
  clear hcc
  go_upto_region 3 with fail
  go_upto_region 4 with (first
    | (refine wpList_load_row rfl 31 (.tmp 1) (by with_reducible rfl) w.heap.size rfl 31 _ (0, 0) _ HX3.out Tryz.underlying31 rfl (by kernel_rfl) ?_)
    | (refine wpList_built rfl 48 #[(0, .tmp 20), (1, .tmp 24)] (by with_reducible rfl) ((askA (.slice ao ls.length cap) ((p.1 : Int) + 1) (p.2 : Int) 66 (count : Int) 0).push (.int .i64 (count : Int))) (by kernel_rfl) ?_))
  have hb4 := (Below.refl w3.heap.size w3).alloc (Nat.le_refl _) (.cells ((askA (.slice ao ls.length cap) ((p.1 : Int) + 1) (p.2 : Int) 66 (count : Int) 0).push (.int .i64 (count : Int))) 48)
  have hm4 := heap_alloc_new w3 (.cells ((askA (.slice ao ls.length cap) ((p.1 : Int) + 1) (p.2 : Int) 66 (count : Int) 0).push (.int .i64 (count : Int))) 48)
  have hlx : w.heap.size < w3.heap.size := lt_of_heap HX3.out
  obtain ⟨m, hm⟩ : ∃ m, w3.heap.size = m := ⟨_, rfl⟩
  have HY4 := Lib.hid ((hb4.block _ (lt_of_heap HY3.out)).trans HY3.out)
  have HB4 := Lib.hid (HB3.out.trans (hb4.mono HB3.out.size))
  have hcm := Lib.cell_of_heap hm4
  have d3' := (hb4.cell (p := ⟨w.heap.size, 3, none⟩) (lt_of_cell d3)).trans d3
  have HMW : Hid (MwAt (w3.alloc (.cells ((askA (.slice ao ls.length cap) ((p.1 : Int) + 1) (p.2 : Int) 66 (count : Int) 0).push (.int .i64 (count : Int))) 48)) w3.heap.size ls ao cap p count) := Lib.hid ⟨⟨by rw [hcm]; rfl, HS3.out.later lasts_str hb4, hsh, hfew⟩, by rw [hcm]; rfl, by rw [hcm]; rfl, by rw [hcm]; rfl, by omega, HP.out⟩
  rw [hm] at HMW ⊢
  clear hb4 hm4 hcm hm d3 d4 HX3 HY3 HB3 HS3
  generalize w3.alloc (.cells ((askA (.slice ao ls.length cap) ((p.1 : Int) + 1) (p.2 : Int) 66 (count : Int) 0).push (.int .i64 (count : Int))) 48) = w4 at *
  go_wp2_with fail
  have hwd := ahead_any HMW.out true
  unfold toV at hwd
  refine hwd.mono ?_
  rintro e w5 ⟨rfl, hb5⟩
  have HY5 := Lib.hid ((hb5.block _ (lt_of_heap HY4.out)).trans HY4.out)
  have HB5 := Lib.hid (HB4.out.trans (hb5.mono HB4.out.size))
  clear hwd hb5 HY4 HB4 d3' HMW
  generalize hmn : manyP (aheadP ls true) count p = mn at *
  have HMN := Lib.hid hmn
  clear hmn
  obtain ⟨q, ok⟩ := mn
  have y0 := Lib.cell_of_heap HY5.out 0
  have y1 := Lib.cell_of_heap HY5.out 1
  have y2 := Lib.cell_of_heap HY5.out 2
  have y3 := Lib.cell_of_heap HY5.out 3
  have g0 := Lib.frozen_of_heap HY5.out 0
  have g1 := Lib.frozen_of_heap HY5.out 1
  have g2 := Lib.frozen_of_heap HY5.out 2
  have g3 := Lib.frozen_of_heap HY5.out 3
  simp at y0 y1 y2 y3
  go_wp2_with fail
  obtain ⟨t0, t1, t2, t3, hb⟩ := fin_four (w := w) HY5.out (by omega) HB5.out (.int .i64 ((q.1 : Int) + 1)) (.int .i64 (q.2 : Int)) (.bool false) (.bool false)
  refine bodyPost_ret (v := .tuple #[toV q false false, .bool (decide (q ≠ p))]) ?_ rfl ?_
  · unfold toV
    simp [results, Tryz.results6, go_sem, t0, t1, t2, t3]
  · exact ⟨by rw [HMN.out], hb⟩
set_option maxRecDepth 100000 in
set_option maxHeartbeats 2000000 in
theorem move_e {w : World} {ls : List (List UInt8)} {ao : Option Addr} {cap : Nat} (h : SlOf IsStr w ao cap ls) (hsh : ∀ i, (lnL ls i).length ≤ 1000000) (hfew : ls.length ≤ 1000000) (p : Pl) (hp : Okp ls p) (count : Nat) (hc1 : 1 ≤ count) (hc2 : count ≤ 9999) :
    Calls Tryz.prog 6 #[.agg (askA (.slice ao ls.length cap) ((p.1 : Int) + 1) (p.2 : Int) 101 (count : Int) 0)] w fun e w' => e = .returned (.tuple #[toV (manyP (endsP ls false) count p).1 false true, .bool (decide ((manyP (endsP ls false) count p).1 ≠ p))]) ∧ Below w.heap.size w w' := by
  have hlen : ls.length ≤ 9223372036854775807 := by omega
  obtain ⟨w2, hw2⟩ : ∃ w2, (w.alloc (.cells (askA (.slice ao ls.length cap) ((p.1 : Int) + 1) (p.2 : Int) 101 (count : Int) 0) 31)).alloc (.cells #[.int .i64 0, .int .i64 0, .bool false, .bool false] 35) = w2 := ⟨_, rfl⟩
  obtain ⟨hx, hy, hb⟩ := @two_blk2 w (.cells (askA (.slice ao ls.length cap) ((p.1 : Int) + 1) (p.2 : Int) 101 (count : Int) 0) 31) (.cells #[.int .i64 0, .int .i64 0, .bool false, .bool false] 35)
  rw [hw2] at hx hy hb
  have HX := Lib.hid hx
  have HY := Lib.hid hy
  have HB := Lib.hid hb
  have HS := Lib.hid (h.later lasts_str hb)
  have HP := Lib.hid hp
  have hn0 : ¬ (ls.length : Int) = 0 := by have := hp.1; omega
  have hn0b : ((ls.length : Int) == 0) = false := by rw [beq_eq_false_iff_ne]; exact hn0
  have hcc := Lib.cell_of_heap hx
  have X0 := fun d os => cell_regrown (show w2.cell? ⟨w.heap.size, 0, none⟩ = some (.slice ao ls.length cap) by rw [hcc]; rfl) d os
  have X1 := fun d os => cell_regrown (show w2.cell? ⟨w.heap.size, 1, none⟩ = some (.int .i64 ((p.1 : Int) + 1)) by rw [hcc]; rfl) d os
  have X2 := fun d os => cell_regrown (show w2.cell? ⟨w.heap.size, 2, none⟩ = some (.int .i64 (p.2 : Int)) by rw [hcc]; rfl) d os
  have HFT := Lib.hid (fun d os => by have := fit_any (HS.out.later lasts_str (below_regrown w2 d os)) hsh ((p.1 : Int) + 1) (p.2 : Int); rw [fit_ok HP.out] at this; exact this)
  have hpe := fun W => pos_eq ((p.1 : Int) + 1) (p.2 : Int) ((p.1 : Int) + 1) (p.2 : Int) W
  clear h hx hy hb hp hcc
  go_enter Tryz.func6, Tryz.ntmps6
  go_upto_region 1 with fail
  refine wp_region_quiet_below (by kernel_rfl) (by kernel_rfl) ?_
  repeat (quiet_step (with_reducible exact Calls.regrown_of (HFT.out _ _)))
  refine wpQuiet_nil ?_
  intro _ hw'
  obtain ⟨⟨dq1, osq1⟩, hw''⟩ := hw'
  subst hw''
  have hb3 := below_regrown w2 dq1 osq1
  have HX3 := Lib.hid ((hb3.block _ (lt_of_heap HX.out)).trans HX.out)
  have HY3 := Lib.hid ((hb3.block _ (lt_of_heap HY.out)).trans HY.out)
  have HB3 := Lib.hid (HB.out.trans (hb3.mono HB.out.size))
  have HS3 := Lib.hid (HS.out.later lasts_str hb3)
  clear hb3 X0 X1 X2 HFT hpe hw2 HX HY HB HS
  generalize grow (redrawn w2 dq1) osq1 = w3 at *
  have hcc := Lib.cell_of_heap HX3.out
  have d3 : w3.cell? ⟨w.heap.size, 3, none⟩ = some (.int .u8 101) := by rw [hcc]; rfl
  have d4 : w3.cell? ⟨w.heap.size, 4, none⟩ = some (.int .i64 (count : Int)) := by rw [hcc]; rfl
  have hc1i : ¬ (count : Int) < 1 := by omega
  have hc2i : ¬ (9999 : Int) < (count : Int) := by omega
  clear hcc
  go_upto_region 3 with fail
  go_upto_region 4 with (first
    | (refine wpList_load_row rfl 31 (.tmp 1) (by with_reducible rfl) w.heap.size rfl 31 _ (0, 0) _ HX3.out Tryz.underlying31 rfl (by kernel_rfl) ?_)
    | (refine wpList_built rfl 48 #[(0, .tmp 20), (1, .tmp 24)] (by with_reducible rfl) ((askA (.slice ao ls.length cap) ((p.1 : Int) + 1) (p.2 : Int) 101 (count : Int) 0).push (.int .i64 (count : Int))) (by kernel_rfl) ?_))
  have hb4 := (Below.refl w3.heap.size w3).alloc (Nat.le_refl _) (.cells ((askA (.slice ao ls.length cap) ((p.1 : Int) + 1) (p.2 : Int) 101 (count : Int) 0).push (.int .i64 (count : Int))) 48)
  have hm4 := heap_alloc_new w3 (.cells ((askA (.slice ao ls.length cap) ((p.1 : Int) + 1) (p.2 : Int) 101 (count : Int) 0).push (.int .i64 (count : Int))) 48)
  have hlx : w.heap.size < w3.heap.size := lt_of_heap HX3.out
  obtain ⟨m, hm⟩ : ∃ m, w3.heap.size = m := ⟨_, rfl⟩
  have HY4 := Lib.hid ((hb4.block _ (lt_of_heap HY3.out)).trans HY3.out)
  have HB4 := Lib.hid (HB3.out.trans (hb4.mono HB3.out.size))
  have hcm := Lib.cell_of_heap hm4
  have d3' := (hb4.cell (p := ⟨w.heap.size, 3, none⟩) (lt_of_cell d3)).trans d3
  have HMW : Hid (MwAt (w3.alloc (.cells ((askA (.slice ao ls.length cap) ((p.1 : Int) + 1) (p.2 : Int) 101 (count : Int) 0).push (.int .i64 (count : Int))) 48)) w3.heap.size ls ao cap p count) := Lib.hid ⟨⟨by rw [hcm]; rfl, HS3.out.later lasts_str hb4, hsh, hfew⟩, by rw [hcm]; rfl, by rw [hcm]; rfl, by rw [hcm]; rfl, by omega, HP.out⟩
  rw [hm] at HMW ⊢
  clear hb4 hm4 hcm hm d3 d4 HX3 HY3 HB3 HS3
  generalize w3.alloc (.cells ((askA (.slice ao ls.length cap) ((p.1 : Int) + 1) (p.2 : Int) 101 (count : Int) 0).push (.int .i64 (count : Int))) 48) = w4 at *
  go_wp2_with fail
  have hwd := ends_any HMW.out false
  unfold toV at hwd
  refine hwd.mono ?_
  rintro e w5 ⟨rfl, hb5⟩
  have HY5 := Lib.hid ((hb5.block _ (lt_of_heap HY4.out)).trans HY4.out)
  have HB5 := Lib.hid (HB4.out.trans (hb5.mono HB4.out.size))
  clear hwd hb5 HY4 HB4 d3' HMW
  generalize hmn : manyP (endsP ls false) count p = mn at *
  have HMN := Lib.hid hmn
  clear hmn
  obtain ⟨q, ok⟩ := mn
  have y0 := Lib.cell_of_heap HY5.out 0
  have y1 := Lib.cell_of_heap HY5.out 1
  have y2 := Lib.cell_of_heap HY5.out 2
  have y3 := Lib.cell_of_heap HY5.out 3
  have g0 := Lib.frozen_of_heap HY5.out 0
  have g1 := Lib.frozen_of_heap HY5.out 1
  have g2 := Lib.frozen_of_heap HY5.out 2
  have g3 := Lib.frozen_of_heap HY5.out 3
  simp at y0 y1 y2 y3
  go_wp2_with fail
  obtain ⟨t0, t1, t2, t3, hb⟩ := fin_four (w := w) HY5.out (by omega) HB5.out (.int .i64 ((q.1 : Int) + 1)) (.int .i64 (q.2 : Int)) (.bool false) (.bool true)
  refine bodyPost_ret (v := .tuple #[toV q false true, .bool (decide (q ≠ p))]) ?_ rfl ?_
  · unfold toV
    simp [results, Tryz.results6, go_sem, t0, t1, t2, t3]
  · exact ⟨by rw [HMN.out], hb⟩
set_option maxRecDepth 100000 in
set_option maxHeartbeats 2000000 in
theorem move_E {w : World} {ls : List (List UInt8)} {ao : Option Addr} {cap : Nat} (h : SlOf IsStr w ao cap ls) (hsh : ∀ i, (lnL ls i).length ≤ 1000000) (hfew : ls.length ≤ 1000000) (p : Pl) (hp : Okp ls p) (count : Nat) (hc1 : 1 ≤ count) (hc2 : count ≤ 9999) :
    Calls Tryz.prog 6 #[.agg (askA (.slice ao ls.length cap) ((p.1 : Int) + 1) (p.2 : Int) 69 (count : Int) 0)] w fun e w' => e = .returned (.tuple #[toV (manyP (endsP ls true) count p).1 false true, .bool (decide ((manyP (endsP ls true) count p).1 ≠ p))]) ∧ Below w.heap.size w w' := by
  have hlen : ls.length ≤ 9223372036854775807 := by omega
  obtain ⟨w2, hw2⟩ : ∃ w2, (w.alloc (.cells (askA (.slice ao ls.length cap) ((p.1 : Int) + 1) (p.2 : Int) 69 (count : Int) 0) 31)).alloc (.cells #[.int .i64 0, .int .i64 0, .bool false, .bool false] 35) = w2 := ⟨_, rfl⟩
  obtain ⟨hx, hy, hb⟩ := @two_blk2 w (.cells (askA (.slice ao ls.length cap) ((p.1 : Int) + 1) (p.2 : Int) 69 (count : Int) 0) 31) (.cells #[.int .i64 0, .int .i64 0, .bool false, .bool false] 35)
  rw [hw2] at hx hy hb
  have HX := Lib.hid hx
  have HY := Lib.hid hy
  have HB := Lib.hid hb
  have HS := Lib.hid (h.later lasts_str hb)
  have HP := Lib.hid hp
  have hn0 : ¬ (ls.length : Int) = 0 := by have := hp.1; omega
  have hn0b : ((ls.length : Int) == 0) = false := by rw [beq_eq_false_iff_ne]; exact hn0
  have hcc := Lib.cell_of_heap hx
  have X0 := fun d os => cell_regrown (show w2.cell? ⟨w.heap.size, 0, none⟩ = some (.slice ao ls.length cap) by rw [hcc]; rfl) d os
  have X1 := fun d os => cell_regrown (show w2.cell? ⟨w.heap.size, 1, none⟩ = some (.int .i64 ((p.1 : Int) + 1)) by rw [hcc]; rfl) d os
  have X2 := fun d os => cell_regrown (show w2.cell? ⟨w.heap.size, 2, none⟩ = some (.int .i64 (p.2 : Int)) by rw [hcc]; rfl) d os
  have HFT := Lib.hid (fun d os => by have := fit_any (HS.out.later lasts_str (below_regrown w2 d os)) hsh ((p.1 : Int) + 1) (p.2 : Int); rw [fit_ok HP.out] at this; exact this)
  have hpe := fun W => pos_eq ((p.1 : Int) + 1) (p.2 : Int) ((p.1 : Int) + 1) (p.2 : Int) W
  clear h hx hy hb hp hcc
  go_enter Tryz.func6, Tryz.ntmps6
  go_upto_region 1 with fail
  refine wp_region_quiet_below (by kernel_rfl) (by kernel_rfl) ?_
  repeat (quiet_step (with_reducible exact Calls.regrown_of (HFT.out _ _)))
  refine wpQuiet_nil ?_
  intro _ hw'
  obtain ⟨⟨dq1, osq1⟩, hw''⟩ := hw'
  subst hw''
  have hb3 := below_regrown w2 dq1 osq1
  have HX3 := Lib.hid ((hb3.block _ (lt_of_heap HX.out)).trans HX.out)
  have HY3 := Lib.hid ((hb3.block _ (lt_of_heap HY.out)).trans HY.out)
  have HB3 := Lib.hid (HB.out.trans (hb3.mono HB.out.size))
  have HS3 := Lib.hid (HS.out.later lasts_str hb3)
  clear hb3 X0 X1 X2 HFT hpe hw2 HX HY HB HS
  generalize grow (redrawn w2 dq1) osq1 = w3 at *
  have hcc := Lib.cell_of_heap HX3.out
  have d3 : w3.cell? ⟨w.heap.size, 3, none⟩ = some (.int .u8 69) := by rw [hcc]; rfl
  have d4 : w3.cell? ⟨w.heap.size, 4, none⟩ = some (.int .i64 (count : Int)) := by rw [hcc]; rfl
  have hc1i : ¬ (count : Int) < 1 := by omega
  have hc2i : ¬ (9999 : Int) < (count : Int) := by omega
  clear hcc
  go_upto_region 3 with fail
  go_upto_region 4 with (first
    | (refine wpList_load_row rfl 31 (.tmp 1) (by with_reducible rfl) w.heap.size rfl 31 _ (0, 0) _ HX3.out Tryz.underlying31 rfl (by kernel_rfl) ?_)
    | (refine wpList_built rfl 48 #[(0, .tmp 20), (1, .tmp 24)] (by with_reducible rfl) ((askA (.slice ao ls.length cap) ((p.1 : Int) + 1) (p.2 : Int) 69 (count : Int) 0).push (.int .i64 (count : Int))) (by kernel_rfl) ?_))
  have hb4 := (Below.refl w3.heap.size w3).alloc (Nat.le_refl _) (.cells ((askA (.slice ao ls.length cap) ((p.1 : Int) + 1) (p.2 : Int) 69 (count : Int) 0).push (.int .i64 (count : Int))) 48)
  have hm4 := heap_alloc_new w3 (.cells ((askA (.slice ao ls.length cap) ((p.1 : Int) + 1) (p.2 : Int) 69 (count : Int) 0).push (.int .i64 (count : Int))) 48)
  have hlx : w.heap.size < w3.heap.size := lt_of_heap HX3.out
  obtain ⟨m, hm⟩ : ∃ m, w3.heap.size = m := ⟨_, rfl⟩
  have HY4 := Lib.hid ((hb4.block _ (lt_of_heap HY3.out)).trans HY3.out)
  have HB4 := Lib.hid (HB3.out.trans (hb4.mono HB3.out.size))
  have hcm := Lib.cell_of_heap hm4
  have d3' := (hb4.cell (p := ⟨w.heap.size, 3, none⟩) (lt_of_cell d3)).trans d3
  have HMW : Hid (MwAt (w3.alloc (.cells ((askA (.slice ao ls.length cap) ((p.1 : Int) + 1) (p.2 : Int) 69 (count : Int) 0).push (.int .i64 (count : Int))) 48)) w3.heap.size ls ao cap p count) := Lib.hid ⟨⟨by rw [hcm]; rfl, HS3.out.later lasts_str hb4, hsh, hfew⟩, by rw [hcm]; rfl, by rw [hcm]; rfl, by rw [hcm]; rfl, by omega, HP.out⟩
  rw [hm] at HMW ⊢
  clear hb4 hm4 hcm hm d3 d4 HX3 HY3 HB3 HS3
  generalize w3.alloc (.cells ((askA (.slice ao ls.length cap) ((p.1 : Int) + 1) (p.2 : Int) 69 (count : Int) 0).push (.int .i64 (count : Int))) 48) = w4 at *
  go_wp2_with fail
  have hwd := ends_any HMW.out true
  unfold toV at hwd
  refine hwd.mono ?_
  rintro e w5 ⟨rfl, hb5⟩
  have HY5 := Lib.hid ((hb5.block _ (lt_of_heap HY4.out)).trans HY4.out)
  have HB5 := Lib.hid (HB4.out.trans (hb5.mono HB4.out.size))
  clear hwd hb5 HY4 HB4 d3' HMW
  generalize hmn : manyP (endsP ls true) count p = mn at *
  have HMN := Lib.hid hmn
  clear hmn
  obtain ⟨q, ok⟩ := mn
  have y0 := Lib.cell_of_heap HY5.out 0
  have y1 := Lib.cell_of_heap HY5.out 1
  have y2 := Lib.cell_of_heap HY5.out 2
  have y3 := Lib.cell_of_heap HY5.out 3
  have g0 := Lib.frozen_of_heap HY5.out 0
  have g1 := Lib.frozen_of_heap HY5.out 1
  have g2 := Lib.frozen_of_heap HY5.out 2
  have g3 := Lib.frozen_of_heap HY5.out 3
  simp at y0 y1 y2 y3
  go_wp2_with fail
  obtain ⟨t0, t1, t2, t3, hb⟩ := fin_four (w := w) HY5.out (by omega) HB5.out (.int .i64 ((q.1 : Int) + 1)) (.int .i64 (q.2 : Int)) (.bool false) (.bool true)
  refine bodyPost_ret (v := .tuple #[toV q false true, .bool (decide (q ≠ p))]) ?_ rfl ?_
  · unfold toV
    simp [results, Tryz.results6, go_sem, t0, t1, t2, t3]
  · exact ⟨by rw [HMN.out], hb⟩
end Go.Proofs.YtopbpmcanhbklaaGreatDoor
