/- The walk of paint.Diff. -/
import Derived.Test.YtcgaaadcbhkfoaaGreatDoorPaint4
import Derived.StillTailTactics
namespace Go.Proofs.YtcgaaadcbhkfoaaGreatDoor
open Go Go.Proofs Go.RowKit Go.Ink

/-- A grid in a block of its own. -/
def BoxG (w : World) (b : Nat) (g : Grd) (ao : Option Addr) (cap : Nat) : Prop :=
  w.heap[b]? = some (.cells #[.int .i64 g.rows, .int .i64 g.cols, .slice ao g.cells.length cap, .int .i64 g.row, .int .i64 g.col] 24 (0, 0))
theorem BoxG.lt {w : World} {b : Nat} {g : Grd} {ao : Option Addr} {cap : Nat} (h : BoxG w b g ao cap) : b < w.heap.size := (Array.getElem?_eq_some_iff.1 h).1
theorem BoxG.later {w w' : World} {b : Nat} {g : Grd} {ao : Option Addr} {cap : Nat} (h : BoxG w b g ao cap) (hb : Below w.heap.size w w') : BoxG w' b g ao cap := (hb.block b h.lt).trans h
theorem BoxG.cells {w : World} {b : Nat} {g : Grd} {ao : Option Addr} {cap : Nat} (h : BoxG w b g ao cap) :
    w.cell? ⟨b, 0, none⟩ = some (.int .i64 g.rows) ∧ w.cell? ⟨b, 1, none⟩ = some (.int .i64 g.cols) ∧ w.cell? ⟨b, 2, none⟩ = some (.slice ao g.cells.length cap) ∧ w.cell? ⟨b, 3, none⟩ = some (.int .i64 g.row) ∧ w.cell? ⟨b, 4, none⟩ = some (.int .i64 g.col) := by
  refine ⟨?_, ?_, ?_, ?_, ?_⟩ <;> (rw [Lib.cell_of_heap h]; rfl)

theorem okI_true : okI true = 0 := rfl
theorem okI_false : okI false = 2 := rfl
theorem below_two {w : World} (o1 o2 : Obj) : Below w.heap.size w ((w.alloc o1).alloc o2) := ((Below.refl _ _).alloc (Nat.le_refl _) _).alloc (by simp) _
theorem box_one {w w2 : World} {g : Grd} {ao : Option Addr} {cap : Nat} {o : Obj} (hb : Below ((w.alloc (.cells #[.int .i64 g.rows, .int .i64 g.cols, .slice ao g.cells.length cap, .int .i64 g.row, .int .i64 g.col] 24 (0, 0))).alloc o).heap.size ((w.alloc (.cells #[.int .i64 g.rows, .int .i64 g.cols, .slice ao g.cells.length cap, .int .i64 g.row, .int .i64 g.col] 24 (0, 0))).alloc o) w2) : BoxG w2 w.heap.size g ao cap := by
  refine (hb.block _ (by simp <;> omega)).trans ?_
  show ((w.heap.push _).push _)[w.heap.size]? = _
  rw [Array.getElem?_push, if_neg (by simp <;> omega), Array.getElem?_push, if_pos rfl]
theorem box_two {w w2 : World} {g : Grd} {ao : Option Addr} {cap : Nat} {o : Obj} (hb : Below ((w.alloc o).alloc (.cells #[.int .i64 g.rows, .int .i64 g.cols, .slice ao g.cells.length cap, .int .i64 g.row, .int .i64 g.col] 24 (0, 0))).heap.size ((w.alloc o).alloc (.cells #[.int .i64 g.rows, .int .i64 g.cols, .slice ao g.cells.length cap, .int .i64 g.row, .int .i64 g.col] 24 (0, 0))) w2) : BoxG w2 (w.heap.size + 1) g ao cap := by
  refine (hb.block _ (by simp)).trans ?_
  show ((w.heap.push _).push _)[w.heap.size + 1]? = _
  rw [Array.getElem?_push, if_pos (by simp)]

set_option maxRecDepth 100000 in
set_option maxHeartbeats 1000000 in
theorem diff_no (f t : Grd) (ao1 ao2 : Option Addr) (cap1 cap2 : Nat) (w : World) (hf : SlOf IsBytes w ao1 cap1 f.cells) (ht : SlOf IsBytes w ao2 cap2 t.cells) (hno : diffOk f t = false) :
    Calls Tryz.prog 7 #[gridV f ao1 cap1, gridV t ao2 cap2] w
      fun e w' => e = .returned (.tuple #[.string ⟨#[]⟩, .int .i64 2]) ∧ Below w.heap.size w w' := by
  have HF := Lib.hid hf; clear hf
  have HT := Lib.hid ht; clear ht
  have HNO := Lib.hid hno; clear hno
  simp only [gridV]
  cases hto : t.ok
  case false =>
    have HTO := Lib.hid hto; clear hto
    go_enter Tryz.func7, Tryz.ntmps7
    go_wp2_with fail
    refine (check_any t _ _ _ (HT.out.later lasts_bytes (below_two _ _))).mono ?_
    rintro e w2 ⟨rfl, hb2⟩
    rw [HTO.out, okI_false]
    have HB2 := Lib.hid ((below_two _ _).trans (hb2.mono (by simp; omega))); clear hb2
    go_wp2_with fail
    go_returns
    exact ⟨rfl, HB2.out⟩
  have HTO := Lib.hid hto; clear hto
  cases hfo : f.ok
  case false =>
    have HFO := Lib.hid hfo; clear hfo
    go_enter Tryz.func7, Tryz.ntmps7
    go_wp2_with fail
    refine (check_any t _ _ _ (HT.out.later lasts_bytes (below_two _ _))).mono ?_
    rintro e w2 ⟨rfl, hb2⟩
    rw [HTO.out, okI_true]
    obtain ⟨c0, c1, c2, c3, c4⟩ := (box_one hb2).cells
    have HB2 := Lib.hid ((below_two _ _).trans (hb2.mono (by simp; omega))); clear hb2
    go_wp2_with fail
    refine (check_any f _ _ _ (HF.out.later lasts_bytes HB2.out)).mono ?_
    rintro e w3 ⟨rfl, hb3⟩
    rw [HFO.out, okI_false]
    have HB3 := Lib.hid (HB2.out.trans (hb3.mono HB2.out.size)); clear hb3
    go_wp2_with fail
    go_returns
    exact ⟨rfl, HB3.out⟩
  have HFO := Lib.hid hfo; clear hfo
  cases hr : (f.rows != t.rows)
  all_goals cases hc : (f.cols != t.cols)
  case false.false => exact absurd HNO.out (by unfold diffOk; rw [HTO.out, HFO.out, hr, hc]; decide)
  all_goals
    go_enter Tryz.func7, Tryz.ntmps7
    go_wp2_with fail
    refine (check_any t _ _ _ (HT.out.later lasts_bytes (below_two _ _))).mono ?_
    rintro e w2 ⟨rfl, hb2⟩
    rw [HTO.out, okI_true]
    have HX2 := Lib.hid (box_one hb2)
    have HY2 := Lib.hid (box_two hb2)
    obtain ⟨c0, c1, c2, c3, c4⟩ := HX2.out.cells
    have HB2 := Lib.hid ((below_two _ _).trans (hb2.mono (by simp; omega))); clear hb2
    go_wp2_with fail
    refine (check_any f _ _ _ (HF.out.later lasts_bytes HB2.out)).mono ?_
    rintro e w3 ⟨rfl, hb3⟩
    rw [HFO.out, okI_true]
    obtain ⟨d0, d1, d2, d3, d4⟩ := (HX2.out.later hb3).cells
    obtain ⟨e0, e1, e2, e3, e4⟩ := (HY2.out.later hb3).cells
    have HB3 := Lib.hid (HB2.out.trans (hb3.mono HB2.out.size)); clear hb3
    go_wp2_with fail
    go_returns
    exact ⟨rfl, HB3.out⟩

end Go.Proofs.YtcgaaadcbhkfoaaGreatDoor
