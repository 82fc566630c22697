/- What a row's list gives to the walk of PaintShows. -/
import Derived.Test.YtcgaaadcbhkfoaaGreatDoorEnv13
import Derived.Test.YtcgaaadcbhkfoaaGreatDoorItoa
namespace Go.Proofs.YtcgaaadcbhkfoaaGreatDoor
open Go Go.Proofs Go.RowKit Go.Ink Go.ChangeShapes Go.WideShapes Go.ChangeAt Go.Joins Go.Deep

theorem tabType : (Tryz.prog.globals[1]?).map (·.type) = some 112 := by kernel_rfl
theorem tabCells : Tryz.prog.cellsOf 112 = 20 := by kernel_rfl
theorem wordCells : Tryz.prog.cellsOf 87 = 1 := by kernel_rfl
theorem env30 {W : World} (h : laidMetH Tryz.prog LaidL W) (hsh : W.ShapedOpen Tryz.prog) : Tab10 W ∧ MaxAt W := by
  have h1 := laidMetH.filter (fun x => x.1 == "internal/strconv.uint64pow10") h
  have ht : Lib.TabIs Tryz.prog W "internal/strconv.uint64pow10" .u64 Lib.pow10Tab :=
    Lib.tabIs_of_head (rest := []) tab10_named tabType Tryz.underlying112 Tryz.underlying87 wordCells tabCells h1
  exact ⟨⟨ht, lt_of_cell (ht.cell tab10_named 0 (by decide))⟩, env h hsh⟩
end Go.Proofs.YtcgaaadcbhkfoaaGreatDoor
