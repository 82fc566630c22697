/- The walks of moves: back. -/
import Derived.Test.YtopbpmcanhbklaaGreatDoorMv2
set_option linter.unusedVariables false
set_option linter.unusedSimpArgs false
namespace Go.Proofs.YtopbpmcanhbklaaGreatDoor
open Go Go.Proofs Go.RowKit Go.Ink Go.Sort

set_option maxRecDepth 100000 in
set_option maxHeartbeats 1000000 in
theorem back_col {w : World} {m : Nat} (i c : Nat) (hc : c ≤ 1000000) (hi : i ≤ 1000000) :
    Calls Tryz.prog 32 #[.pointer (some ⟨m, 0, none⟩), .agg #[.int .i64 ((i : Int) + 1), .int .i64 ((c : Int) + 1)]] w fun e w' => e = .returned (.tuple #[plV i c, .bool true]) ∧ Below w.heap.size w w' := by
  obtain ⟨w2, hw2⟩ : ∃ w2, (w.alloc (.cells #[.int .i64 ((i : Int) + 1), .int .i64 ((c : Int) + 1)] 24)).alloc (.cells #[.int .i64 0, .int .i64 0] 24) = w2 := ⟨_, rfl⟩
  have ht := two_new w i (c + 1)
  rw [show (((c + 1 : Nat)) : Int) = (c : Int) + 1 from by omega] at ht
  rw [hw2] at ht
  have HT := Lib.hid ht
  have x0 := Lib.cell_of_heap ht.x 0
  have x1 := Lib.cell_of_heap ht.x 1
  have f0 := Lib.frozen_of_heap ht.x 0
  have f1 := Lib.frozen_of_heap ht.x 1
  have y0 := Lib.cell_of_heap ht.y 0
  have y1 := Lib.cell_of_heap ht.y 1
  have g0 := Lib.frozen_of_heap ht.y 0
  have g1 := Lib.frozen_of_heap ht.y 1
  simp at x0 x1 y0 y1
  clear ht
  go_enter Tryz.func32, Tryz.ntmps32
  go_wp2_with fail
  obtain ⟨t0, t1, hb⟩ := fin_two (HT.out.x1 (.int .i64 (c : Int))).1 (HT.out.x1 (.int .i64 (c : Int))).2 (.int .i64 ((i : Int) + 1)) (.int .i64 (c : Int))
  refine bodyPost_ret (v := .tuple #[plV i c, .bool true]) ?_ rfl ?_
  · unfold plV
    simp [results, Tryz.results32, go_sem, t0, t1]
  · exact ⟨rfl, hb⟩
set_option maxRecDepth 100000 in
set_option maxHeartbeats 1000000 in
theorem back_none {w : World} {m : Nat} :
    Calls Tryz.prog 32 #[.pointer (some ⟨m, 0, none⟩), .agg #[.int .i64 1, .int .i64 0]] w fun e w' => e = .returned (.tuple #[plV 0 0, .bool false]) ∧ Below w.heap.size w w' := by
  obtain ⟨w2, hw2⟩ : ∃ w2, (w.alloc (.cells #[.int .i64 1, .int .i64 0] 24)).alloc (.cells #[.int .i64 0, .int .i64 0] 24) = w2 := ⟨_, rfl⟩
  have ht : TwoBox w ((w.alloc (.cells #[.int .i64 1, .int .i64 0] 24)).alloc (.cells #[.int .i64 0, .int .i64 0] 24)) 0 0 := two_new w 0 0
  rw [hw2] at ht
  have HT := Lib.hid ht
  have x0 := Lib.cell_of_heap ht.x 0
  have x1 := Lib.cell_of_heap ht.x 1
  have f0 := Lib.frozen_of_heap ht.x 0
  have f1 := Lib.frozen_of_heap ht.x 1
  have y0 := Lib.cell_of_heap ht.y 0
  have y1 := Lib.cell_of_heap ht.y 1
  have g0 := Lib.frozen_of_heap ht.y 0
  have g1 := Lib.frozen_of_heap ht.y 1
  simp at x0 x1 y0 y1
  clear ht
  go_enter Tryz.func32, Tryz.ntmps32
  go_wp2_with fail
  obtain ⟨t0, t1, hb⟩ := fin_two HT.out.y HT.out.b (.int .i64 1) (.int .i64 0)
  refine bodyPost_ret (v := .tuple #[plV 0 0, .bool false]) ?_ rfl ?_
  · unfold plV
    simp [results, Tryz.results32, go_sem, t0, t1]
  · exact ⟨rfl, hb⟩
set_option maxRecDepth 100000 in
set_option maxHeartbeats 1000000 in
theorem back_row {w : World} {m : Nat} {ls : List (List UInt8)} {ao : Option Addr} {cap : Nat} (h : MvAt w m ls ao cap) (k : Nat) (hk : k + 1 < ls.length) :
    Calls Tryz.prog 32 #[.pointer (some ⟨m, 0, none⟩), .agg #[.int .i64 ((k : Int) + 1 + 1), .int .i64 0]] w fun e w' => e = .returned (.tuple #[plV k ((lnL ls k).length - 1), .bool true]) ∧ Below w.heap.size w w' := by
  obtain ⟨w2, hw2⟩ : ∃ w2, (w.alloc (.cells #[.int .i64 ((k : Int) + 1 + 1), .int .i64 0] 24)).alloc (.cells #[.int .i64 0, .int .i64 0] 24) = w2 := ⟨_, rfl⟩
  have ht : TwoBox w ((w.alloc (.cells #[.int .i64 ((k : Int) + 1 + 1), .int .i64 0] 24)).alloc (.cells #[.int .i64 0, .int .i64 0] 24)) (k + 1) 0 := two_new w (k + 1) 0
  rw [hw2] at ht
  have HT := Lib.hid ht
  have x0 := Lib.cell_of_heap ht.x 0
  have x1 := Lib.cell_of_heap ht.x 1
  have f0 := Lib.frozen_of_heap ht.x 0
  have f1 := Lib.frozen_of_heap ht.x 1
  have y0 := Lib.cell_of_heap ht.y 0
  have y1 := Lib.cell_of_heap ht.y 1
  have g0 := Lib.frozen_of_heap ht.y 0
  have g1 := Lib.frozen_of_heap ht.y 1
  simp at x0 x1 y0 y1
  have hkl : k ≤ 1000000 := by have := h.few; omega
  have HB := Lib.hid (ht.b.setCell (p := ⟨w.heap.size, 0, none⟩) (Nat.le_refl _) (.int .i64 ((k : Int) + 1)))
  have HM := Lib.hid (h.later HB.out)
  have hsh := h.short k
  have hx := heap_set (j := 0) ht.x (.int .i64 ((k : Int) + 1))
  have HX := Lib.hid hx
  have HY := Lib.hid ((Below.heap_setCell w2 ⟨w.heap.size, 0, none⟩ (.int .i64 ((k : Int) + 1)) (w.heap.size + 1) (fun e => by have e' : w.heap.size + 1 = w.heap.size := e; omega)).trans ht.y)
  clear ht h hx
  go_enter Tryz.func32, Tryz.ntmps32
  go_wp2_with fail
  refine (line_any HM.out k 0 (by omega)).mono ?_
  rintro e w3 ⟨rfl, hb3⟩
  have hx3 := (hb3.block _ (lt_of_heap HX.out)).trans HX.out
  have hy3 := (hb3.block _ (lt_of_heap HY.out)).trans HY.out
  have HX3 := Lib.hid hx3
  have HY3 := Lib.hid hy3
  have HB3 := Lib.hid (HB.out.trans (hb3.mono HB.out.size))
  have HSZ := size_mk (lnL ls k)
  have hmx : max ((lnL ls k).length - 1 : Int) 0 = (((lnL ls k).length - 1 : Nat) : Int) := by omega
  have HMX := Lib.hid hmx
  clear hb3 hx3 hy3 x0 x1 y0 y1 f0 f1 g0 g1 hmx HB HM HX HY HT hw2
  generalize hlk : lnL ls k = l at *
  have HLK := Lib.hid hlk
  clear hlk
  have x0 := Lib.cell_of_heap HX3.out 0
  have x1 := Lib.cell_of_heap HX3.out 1
  have f0 := Lib.frozen_of_heap HX3.out 0
  have f1 := Lib.frozen_of_heap HX3.out 1
  have y0 := Lib.cell_of_heap HY3.out 0
  have y1 := Lib.cell_of_heap HY3.out 1
  have g0 := Lib.frozen_of_heap HY3.out 0
  have g1 := Lib.frozen_of_heap HY3.out 1
  simp at x0 x1 y0 y1
  go_wp2_with fail
  all_goals first
  | (have hv : (((l.length - 1 : Nat)) : Int) = (l.length : Int) - 1 := by omega
     have hx1 : (w3.setCell ⟨w.heap.size, 1, none⟩ (.int .i64 ((l.length : Int) - 1))).heap[w.heap.size + 1]? = some (.cells #[.int .i64 0, .int .i64 0] 24 (0, 0)) := (Below.heap_setCell _ _ _ _ (fun e => by have e' : w.heap.size + 1 = w.heap.size := e; omega)).trans HY3.out
     obtain ⟨t0, t1, hb⟩ := fin_two hx1 (HB3.out.setCell (p := ⟨w.heap.size, 1, none⟩) (Nat.le_refl _) _) (.int .i64 ((k : Int) + 1)) (.int .i64 ((l.length : Int) - 1))
     have t0' := cell_set hx1 (j := 0) (by simp) (.int .i64 ((k : Int) + 1))
     refine bodyPost_ret (v := .tuple #[plV k ((lnL ls k).length - 1), .bool true]) ?_ rfl ?_
     · unfold plV
       rw [HLK.out, hv]
       simp [results, Tryz.results32, go_sem, t0, t0', t1]
     · exact ⟨rfl, hb⟩)
  | (have hv : (((l.length - 1 : Nat)) : Int) = 0 := by omega
     have hx1 : (w3.setCell ⟨w.heap.size, 1, none⟩ (.int .i64 (0))).heap[w.heap.size + 1]? = some (.cells #[.int .i64 0, .int .i64 0] 24 (0, 0)) := (Below.heap_setCell _ _ _ _ (fun e => by have e' : w.heap.size + 1 = w.heap.size := e; omega)).trans HY3.out
     obtain ⟨t0, t1, hb⟩ := fin_two hx1 (HB3.out.setCell (p := ⟨w.heap.size, 1, none⟩) (Nat.le_refl _) _) (.int .i64 ((k : Int) + 1)) (.int .i64 (0))
     have t0' := cell_set hx1 (j := 0) (by simp) (.int .i64 ((k : Int) + 1))
     refine bodyPost_ret (v := .tuple #[plV k ((lnL ls k).length - 1), .bool true]) ?_ rfl ?_
     · unfold plV
       rw [HLK.out, hv]
       simp [results, Tryz.results32, go_sem, t0, t0', t1]
     · exact ⟨rfl, hb⟩)
theorem back_any {w : World} {m : Nat} {ls : List (List UInt8)} {ao : Option Addr} {cap : Nat} (h : MvAt w m ls ao cap) (p : Pl) (hp : Okp ls p) :
    Calls Tryz.prog 32 #[.pointer (some ⟨m, 0, none⟩), plV p.1 p.2] w fun e w' => e = .returned (.tuple #[plV (backP ls p).1.1 (backP ls p).1.2, .bool (backP ls p).2]) ∧ Below w.heap.size w w' := by
  obtain ⟨i, c⟩ := p
  obtain ⟨hi, hc⟩ := hp
  simp only at hi hc
  have hsh := h.short i
  have hfew := h.few
  match c with
  | c + 1 =>
    have e : backP ls (i, c + 1) = ((i, c), true) := by unfold backP; rw [if_pos (by simp)]; rfl
    rw [e]
    have := @back_col w m i c (by omega) (by omega)
    have e2 : plV i (c + 1) = .agg #[.int .i64 ((i : Int) + 1), .int .i64 ((c : Int) + 1)] := by unfold plV; rw [show (((c + 1 : Nat)) : Int) = (c : Int) + 1 from by omega]
    show Calls _ _ #[_, plV i (c + 1)] _ _
    rw [e2]; exact this
  | 0 =>
    match i with
    | 0 =>
      have e : backP ls (0, 0) = ((0, 0), false) := by unfold backP; rw [if_neg (by simp), if_neg (by simp)]
      rw [e]
      exact back_none
    | k + 1 =>
      have e : backP ls (k + 1, 0) = ((k, (lnL ls k).length - 1), true) := by unfold backP; rw [if_neg (by simp), if_pos (by simp)]; rfl
      rw [e]
      have := back_row h k hi
      have e2 : plV (k + 1) 0 = .agg #[.int .i64 ((k : Int) + 1 + 1), .int .i64 0] := by unfold plV; rw [show (((k + 1 : Nat)) : Int) = (k : Int) + 1 from by omega]; rfl
      show Calls _ _ #[_, plV (k + 1) 0] _ _
      rw [e2]; exact this
end Go.Proofs.YtopbpmcanhbklaaGreatDoor
