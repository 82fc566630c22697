/- The walks of moves: Fit, First. -/
import Derived.Test.YtopbpmcanhbklaaGreatDoorMv7
set_option linter.unusedVariables false
set_option linter.unusedSimpArgs false
namespace Go.Proofs.YtopbpmcanhbklaaGreatDoor
open Go Go.Proofs Go.RowKit Go.Ink Go.Sort

/-- A place that is there, next to one. -/
def fitI (ls : List (List UInt8)) (a b : Int) : Int × Int :=
  if ls.length = 0 then (0, 0) else (min (max a 1) ls.length, min (max b 0) (max (((lnL ls ((min (max a 1) (ls.length : Int)) - 1).toNat).length : Int) - 1) 0))
theorem two_blk2 {w : World} (o1 o2 : Obj) : ((w.alloc o1).alloc o2).heap[w.heap.size]? = some o1 ∧ ((w.alloc o1).alloc o2).heap[w.heap.size + 1]? = some o2 ∧ Below w.heap.size w ((w.alloc o1).alloc o2) := by
  refine ⟨?_, ?_, ((Below.refl _ _).alloc (Nat.le_refl _) _).alloc (by simp) _⟩
  · show ((w.heap.push o1).push o2)[w.heap.size]? = _
    rw [Array.getElem?_push, if_neg (by simp), Array.getElem?_push, if_pos rfl]
  · show ((w.heap.push o1).push o2)[w.heap.size + 1]? = _
    rw [Array.getElem?_push, if_pos (by simp)]
theorem str_at {w : World} {ls : List (List UInt8)} {ao : Option Addr} {cap : Nat} (h : SlOf IsStr w ao cap ls) {i : Nat} (hi : i < ls.length) : ∃ b off, ao = some ⟨b, off, none⟩ ∧ w.cell? ⟨b, off + i, none⟩ = some (.string ⟨(lnL ls i).toArray⟩) := by
  have e : ls[i]? = some (lnL ls i) := by unfold lnL; rw [List.getD_eq_getElem?_getD, List.getElem?_eq_getElem hi]; rfl
  obtain ⟨b, off, u, ha, hc, hu⟩ := h.2.2.2 i _ e
  exact ⟨b, off, ha, by rw [hc]; exact congrArg some hu⟩
theorem cell_other (w : World) {p q : Addr} (h : ¬ q.block = p.block) (v : Value) : (w.setCell p v).cell? q = w.cell? q :=
  World.cell?_of_block (Below.heap_setCell w p v q.block h)
set_option maxRecDepth 100000 in
set_option maxHeartbeats 1000000 in
theorem fit_any {w : World} {ls : List (List UInt8)} {ao : Option Addr} {cap : Nat} (h : SlOf IsStr w ao cap ls) (hsh : ∀ i, (lnL ls i).length ≤ 1000000) (a b : Int) :
    Calls Tryz.prog 12 #[.slice ao ls.length cap, .agg #[.int .i64 a, .int .i64 b]] w fun e w' => e = .returned (.agg #[.int .i64 (fitI ls a b).1, .int .i64 (fitI ls a b).2]) ∧ Below w.heap.size w w' := by
  obtain ⟨w2, hw2⟩ : ∃ w2, (w.alloc (.cells #[.int .i64 a, .int .i64 b] 24)).alloc (.cells #[.int .i64 0, .int .i64 0] 24) = w2 := ⟨_, rfl⟩
  have ht := @two_blk2 w (.cells #[.int .i64 a, .int .i64 b] 24) (.cells #[.int .i64 0, .int .i64 0] 24)
  rw [hw2] at ht
  obtain ⟨hx, hy, hb⟩ := ht
  have HX := Lib.hid hx
  have HY := Lib.hid hy
  have HB := Lib.hid hb
  have HS := Lib.hid (h.later lasts_str hb)
  have hlen : ls.length ≤ 9223372036854775807 := Nat.le_trans h.1 h.2.1
  have x0 := Lib.cell_of_heap hx 0
  have x1 := Lib.cell_of_heap hx 1
  have f0 := Lib.frozen_of_heap hx 0
  have f1 := Lib.frozen_of_heap hx 1
  have y0 := Lib.cell_of_heap hy 0
  have y1 := Lib.cell_of_heap hy 1
  have g0 := Lib.frozen_of_heap hy 0
  have g1 := Lib.frozen_of_heap hy 1
  simp at x0 x1 y0 y1
  by_cases h0 : ls.length = 0
  · have HF := Lib.hid (show fitI ls a b = (0, 0) by unfold fitI; rw [if_pos h0])
    rw [h0]
    clear h hx hy hb
    go_enter Tryz.func12, Tryz.ntmps12
    go_wp2_with fail
    obtain ⟨t0, t1, hb, t0'⟩ := fin_x HY.out (Nat.le_refl _) HB.out (.int .i64 0) (.int .i64 0)
    refine bodyPost_ret (v := .agg #[.int .i64 (fitI ls a b).1, .int .i64 (fitI ls a b).2]) ?_ rfl ?_
    · rw [HF.out]
      simp [results, Tryz.results12, go_sem, t0, t0', t1]
    · exact ⟨rfl, hb⟩
  obtain ⟨i, hi⟩ : ∃ i : Nat, min (max a 1) (ls.length : Int) = (i : Int) + 1 := ⟨(min (max a 1) (ls.length : Int) - 1).toNat, by omega⟩
  have hil : i < ls.length := by omega
  have HF := Lib.hid (show fitI ls a b = ((i : Int) + 1, min (max b 0) (max (((lnL ls i).length : Int) - 1) 0)) by
    unfold fitI
    rw [if_neg h0, hi, show ((i : Int) + 1 - 1).toNat = i by omega])
  obtain ⟨bb, off, rfl, hc0⟩ := str_at h hil
  have hc := (HB.out.cell (p := ⟨bb, off + i, none⟩) (lt_of_cell hc0)).trans hc0
  have hbl : bb < w.heap.size := lt_of_cell hc0
  have hll := hsh i
  have HSZ := size_mk (lnL ls i)
  have hn0 : ¬ (ls.length : Int) = 0 := by omega
  have hii : (i : Int) < (ls.length : Int) := by omega
  have hne : ¬ bb = w.heap.size := by omega
  have hne' : ¬ w.heap.size = bb := by omega
  have HI := Lib.hid (show (if (ls.length : Int) < (if a < 1 then 1 else a) then (ls.length : Int) else (if a < 1 then 1 else a)) = (i : Int) + 1 from by rw [← hi]; (repeat' split) <;> omega)
  clear h hx hy hb hc0 hbl hi
  generalize lnL ls i = l at *
  go_enter Tryz.func12, Tryz.ntmps12
  go_upto_region 4 with fail
  rw [HI.out]
  have hx2 := heap_set (j := 0) HX.out (.int .i64 ((i : Int) + 1))
  have HX2 := Lib.hid hx2
  have HY2 := Lib.hid ((Below.heap_setCell w2 ⟨w.heap.size, 0, none⟩ (.int .i64 ((i : Int) + 1)) (w.heap.size + 1) (fun e => by have e' : w.heap.size + 1 = w.heap.size := e; omega)).trans HY.out)
  have HB2 := Lib.hid (HB.out.setCell (p := ⟨w.heap.size, 0, none⟩) (Nat.le_refl _) (.int .i64 ((i : Int) + 1)))
  have hc2 := (cell_other w2 (p := ⟨w.heap.size, 0, none⟩) (q := ⟨bb, off + i, none⟩) hne (.int .i64 ((i : Int) + 1))).trans hc
  clear hx2 hc x0 x1 f0 f1 y0 y1 g0 g1 HX HY HB HS hw2
  generalize w2.setCell ⟨w.heap.size, 0, none⟩ (.int .i64 ((i : Int) + 1)) = w3 at *
  have x0 := Lib.cell_of_heap HX2.out 0
  have x1 := Lib.cell_of_heap HX2.out 1
  have f0 := Lib.frozen_of_heap HX2.out 0
  have f1 := Lib.frozen_of_heap HX2.out 1
  have y0 := Lib.cell_of_heap HY2.out 0
  have y1 := Lib.cell_of_heap HY2.out 1
  have g0 := Lib.frozen_of_heap HY2.out 0
  have g1 := Lib.frozen_of_heap HY2.out 1
  simp at x0 x1 y0 y1
  obtain ⟨V, hV⟩ : ∃ V, min (max b 0) (max ((l.length : Int) - 1) 0) = V := ⟨_, rfl⟩
  have HV := Lib.hid (show (if (if (l.length : Int) - 1 < 0 then 0 else (l.length : Int) - 1) < (if b < 0 then 0 else b) then (if (l.length : Int) - 1 < 0 then 0 else (l.length : Int) - 1) else (if b < 0 then 0 else b)) = V from by rw [← hV]; (repeat' split) <;> omega)
  rw [hV] at HF
  clear hV
  go_region
  go_upto_region 5 with fail
  rw [HV.out]
  have hx4 := heap_set (j := 1) HX2.out (.int .i64 V)
  have HX4 := Lib.hid hx4
  have HY4 := Lib.hid ((Below.heap_setCell w3 ⟨w.heap.size, 1, none⟩ (.int .i64 V) (w.heap.size + 1) (fun e => by have e' : w.heap.size + 1 = w.heap.size := e; omega)).trans HY2.out)
  have HB4 := Lib.hid ((HB2.out.setCell (p := ⟨w.heap.size, 1, none⟩) (Nat.le_refl _) (.int .i64 V)).drew)
  have HX5 : Hid ((w3.setCell ⟨w.heap.size, 1, none⟩ (.int .i64 V)).drew.heap[w.heap.size]? = _) := HX4
  have HY5 : Hid ((w3.setCell ⟨w.heap.size, 1, none⟩ (.int .i64 V)).drew.heap[w.heap.size + 1]? = _) := HY4
  clear hx4 hc2 x0 x1 f0 f1 y0 y1 g0 g1 HX2 HY2 HB2 HX4 HY4 HV
  generalize (w3.setCell ⟨w.heap.size, 1, none⟩ (.int .i64 V)).drew = w4 at *
  have x0 := Lib.cell_of_heap HX5.out 0
  have x1 := Lib.cell_of_heap HX5.out 1
  have y0 := Lib.cell_of_heap HY5.out 0
  have y1 := Lib.cell_of_heap HY5.out 1
  have g0 := Lib.frozen_of_heap HY5.out 0
  have g1 := Lib.frozen_of_heap HY5.out 1
  simp at x0 x1 y0 y1
  go_wp2_with fail
  all_goals
    obtain ⟨t0, t1, hb, t0'⟩ := fin_x HY5.out (Nat.le_refl _) HB4.out (.int .i64 ((i : Int) + 1)) (.int .i64 V)
    refine bodyPost_ret (v := .agg #[.int .i64 (fitI ls a b).1, .int .i64 (fitI ls a b).2]) ?_ rfl ?_
    · rw [HF.out]
      simp [results, Tryz.results12, go_sem, t0, t0', t1]
    · exact ⟨rfl, hb⟩
end Go.Proofs.YtopbpmcanhbklaaGreatDoor
