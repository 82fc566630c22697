/- A grid's box in memory. -/
import Derived.Test.YtcgaaadcbhkfoaaGreatDoorCheck
import Derived.Test.YtcgaaadcbhkfoaaGreatDoorKeep
namespace Go.Proofs.YtcgaaadcbhkfoaaGreatDoor
open Go Go.Proofs Go.RowKit Go.Ink

/-- A grid's box in memory. -/
def BoxAt (w : World) (b : Nat) (g : Grd) (ao : Option Addr) (cap : Nat) : Prop := w.heap[b]? = some (.cells #[.int .i64 g.rows, .int .i64 g.cols, .slice ao g.cells.length cap, .int .i64 g.row, .int .i64 g.col] 24 (0, 0))
theorem BoxAt.cells {w : World} {b : Nat} {g : Grd} {ao : Option Addr} {cap : Nat} (h : BoxAt w b g ao cap) :
    w.cell? ⟨b, 0, none⟩ = some (.int .i64 g.rows) ∧ w.cell? ⟨b, 1, none⟩ = some (.int .i64 g.cols) ∧ w.cell? ⟨b, 2, none⟩ = some (.slice ao g.cells.length cap) ∧ w.cell? ⟨b, 3, none⟩ = some (.int .i64 g.row) ∧ w.cell? ⟨b, 4, none⟩ = some (.int .i64 g.col) := by
  have hc := Lib.cell_of_heap h
  refine ⟨?_, ?_, ?_, ?_, ?_⟩ <;> rw [hc] <;> rfl
theorem BoxAt.later {w w' : World} {b : Nat} {g : Grd} {ao : Option Addr} {cap : Nat} (h : BoxAt w b g ao cap) (hb : Below w.heap.size w w') : BoxAt w' b g ao cap := (hb.block b (lt_of_heap h)).trans h
theorem box_two' {w : World} {g h : Grd} {ao bo : Option Addr} {cap bcap : Nat} : BoxAt ((w.alloc (.cells #[.int .i64 g.rows, .int .i64 g.cols, .slice ao g.cells.length cap, .int .i64 g.row, .int .i64 g.col] 24 (0, 0))).alloc (.cells #[.int .i64 h.rows, .int .i64 h.cols, .slice bo h.cells.length bcap, .int .i64 h.row, .int .i64 h.col] 24 (0, 0))) w.heap.size g ao cap ∧
    BoxAt ((w.alloc (.cells #[.int .i64 g.rows, .int .i64 g.cols, .slice ao g.cells.length cap, .int .i64 g.row, .int .i64 g.col] 24 (0, 0))).alloc (.cells #[.int .i64 h.rows, .int .i64 h.cols, .slice bo h.cells.length bcap, .int .i64 h.row, .int .i64 h.col] 24 (0, 0))) (w.heap.size + 1) h bo bcap := by
  refine ⟨?_, ?_⟩
  · show ((w.heap.push _).push _)[w.heap.size]? = _
    rw [Array.getElem?_push, if_neg (by simp), Array.getElem?_push, if_pos rfl]
  · show ((w.heap.push _).push _)[w.heap.size + 1]? = _
    rw [Array.getElem?_push, if_pos (by simp)]
end Go.Proofs.YtcgaaadcbhkfoaaGreatDoor
