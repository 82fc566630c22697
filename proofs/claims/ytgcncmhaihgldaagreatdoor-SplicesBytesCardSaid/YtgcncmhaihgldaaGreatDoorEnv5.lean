/- What the list of five variables gives to the walks (Env). -/
import Derived.Test.YtgcncmhaihgldaaGreatDoorEnv15
namespace Go.Proofs.YtgcncmhaihgldaaGreatDoor
open Go Go.Proofs Go.RowKit Go.Ink Go.ChangeShapes Go.WideShapes Go.ChangeAt Go.Joins Go.Deep
open Go.ChangeMaps (open_string)

theorem errCells : Tryz.prog.cellsOf 127 = 1 := by kernel_rfl
theorem gS : Tryz.prog.globalNamed "strconv.ErrSyntax" = some 0 := by kernel_rfl
theorem gR : Tryz.prog.globalNamed "strconv.ErrRange" = some 1 := by kernel_rfl
theorem gSType : (Tryz.prog.globals[0]?).map (·.type) = some 55 := by kernel_rfl
theorem gRType : (Tryz.prog.globals[1]?).map (·.type) = some 55 := by kernel_rfl
theorem star : "*" ++ "errors.errorString" = "*errors.errorString" := by decide
theorem errRow (u : TypeId) (h : Tryz.prog.typeName? 3 u = some "*errors.errorString") : u = 125 :=
  typeName_ptr_named (nm := "errors.errorString") (by rw [star]; kernel_rfl) (by kernel_rfl) (by decide) u (by rw [star]; exact h)

/-- The five variables that these rows list. -/
def LaidL5 : List (String × DataW Unit) := [("math/bits.deBruijn32tab", Rows.laid_math_bits_deBruijn32tab), ("math/bits.deBruijn64tab", Rows.laid_math_bits_deBruijn64tab), ("internal/strconv.uint64pow10", Rows.laid_internal_strconv_uint64pow10), ("strconv.ErrRange", Rows.laid_strconv_ErrRange), ("strconv.ErrSyntax", Rows.laid_strconv_ErrSyntax)]

theorem env5 {W : World} (h : laidMetH Tryz.prog LaidL5 W) (hsh : W.ShapedOpen Tryz.prog) : Env W := by
  have h1 := laidMetH.filter (fun x => x.1 == "internal/strconv.uint64pow10") h
  have ht : Lib.TabIs Tryz.prog W "internal/strconv.uint64pow10" .u64 Lib.pow10Tab :=
    Lib.tabIs_of_head (rest := []) tab10_named tabType Tryz.underlying119 Tryz.underlying103 wordCells tabCells h1
  have h2 := laidMetH.filter (fun x => x.1 == "strconv.ErrRange" || x.1 == "strconv.ErrSyntax") h
  obtain ⟨a0, a1, s0, s1, c0, c1, t0, t1, hv0, hv1, _, _, _, _, _, _, hne, hb0, hb1⟩ := laid_sentinels2 (r := []) h2 gR gRType gS gSType Tryz.underlying55 errRow Tryz.underlying125 Tryz.underlying127 rfl rfl Tryz.underlying9 errCells strCells1
  refine ⟨⟨ht, lt_of_cell (ht.cell tab10_named 0 (by decide))⟩, ?_, a1, a0, c1, c0, t1, t0, by simpa using World.var?_cell gS hv1 0, by simpa using World.var?_cell gR hv0 0, hne.symm, hb1, hb0⟩
  exact cell_of_shapedOpen_int (t := 3) (zero := #[.int .i64 0]) hsh (by decide +kernel) (by kernel_rfl) rfl (by kernel_rfl) (by kernel_rfl) Tryz.underlying3

theorem door_met5 (os : Os) (args : Array Value) : laidMet Tryz.prog LaidL5 ((World.doorLaid Tryz.prog 400 os).forCall (fun _ _ => 0) ⟨#[], args, []⟩).memory :=
  laidMet_of_run' 8 (by kernel_rfl) (by kernel_rfl)

end Go.Proofs.YtgcncmhaihgldaaGreatDoor
