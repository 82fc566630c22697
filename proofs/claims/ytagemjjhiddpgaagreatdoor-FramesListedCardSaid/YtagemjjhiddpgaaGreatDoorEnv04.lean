/- What a row's list gives to the walks of chapter 04 (EnvF), and arguments that came in, opened. -/
import Derived.Test.YtagemjjhiddpgaaGreatDoorFrm6
import Derived.Test.YtagemjjhiddpgaaGreatDoorCards
import Derived.Test.YtagemjjhiddpgaaGreatDoorTie
import Derived.ProofKit
import Derived.OpenShut
import Derived.Deep.Matrix
import Derived.Deep.DeepHandedRow
import Derived.Deep.DeepWitnessRowRef
import Derived.Lib.LaidTab
import Derived.Lib.SmallJoins
import Derived.Stop.LaidTwo
import Derived.LaidSub
import Derived.LaidMore
import Derived.LaidHandle
import Derived.Shelf.Vars
import Derived.SliceStrings
import Derived.SizedLaws
namespace Go.Proofs.YtagemjjhiddpgaaGreatDoor
open Go Go.Proofs Go.RowKit Go.Ink Go.ChangeShapes Go.WideShapes Go.ChangeAt Go.Joins Go.Deep
open Go.ChangeMaps (open_string)

theorem own : ownKnob Tryz.prog.godebug = none := by kernel_rfl
theorem laidOut : laidOutB Tryz.prog = true := by kernel_rfl
theorem tabType : (Tryz.prog.globals[3]?).map (·.type) = some 124 := by kernel_rfl
theorem tabCells : Tryz.prog.cellsOf 124 = 20 := by kernel_rfl
theorem wordCells : Tryz.prog.cellsOf 59 = 1 := by kernel_rfl
theorem strCells1 : Tryz.prog.cellsOf 9 = 1 := by kernel_rfl
theorem errCells : Tryz.prog.cellsOf 148 = 1 := by kernel_rfl
theorem gS : Tryz.prog.globalNamed "strconv.ErrSyntax" = some 1 := by kernel_rfl
theorem gR : Tryz.prog.globalNamed "strconv.ErrRange" = some 2 := by kernel_rfl
theorem gSType : (Tryz.prog.globals[1]?).map (·.type) = some 41 := by kernel_rfl
theorem gRType : (Tryz.prog.globals[2]?).map (·.type) = some 41 := by kernel_rfl
theorem star : "*" ++ "errors.errorString" = "*errors.errorString" := by decide
theorem errRow (u : TypeId) (h : Tryz.prog.typeName? 3 u = some "*errors.errorString") : u = 146 :=
  typeName_ptr_named (nm := "errors.errorString") (by rw [star]; kernel_rfl) (by kernel_rfl) (by decide) u (by rw [star]; exact h)

theorem gE : Tryz.prog.globalNamed "errors.errorType" = some 0 := by kernel_rfl
theorem eRt : (Tryz.prog.cutTypes.find? (·.1 == "internal/reflectlite.rtype")).map (·.2) = some 96 := by kernel_rfl
theorem eRow : ((List.range Tryz.prog.types.size).filter fun t => Tryz.prog.rowNamed t [101, 114, 114, 111, 114]) = [41] := by kernel_rfl

/-- The six variables that these rows list. -/
def LaidL : List (String × DataW Unit) := [("math/bits.deBruijn32tab", Rows.laid_math_bits_deBruijn32tab), ("math/bits.deBruijn64tab", Rows.laid_math_bits_deBruijn64tab), ("internal/strconv.uint64pow10", Rows.laid_internal_strconv_uint64pow10), ("errors.errorType", Rows.laid_errors_errorType), ("strconv.ErrRange", Rows.laid_strconv_ErrRange), ("strconv.ErrSyntax", Rows.laid_strconv_ErrSyntax)]

theorem handle_of_laid {W : World} (h : laidMetH Tryz.prog LaidL W) : EType W := by
  have h3 := laidMetH.filter (fun x => x.1 == "errors.errorType") h
  have h' : laidMet Tryz.prog [] W ∧ handlesMet Tryz.prog [("errors.errorType", Rows.laid_errors_errorType)] W := h3
  obtain ⟨name, u, ty, e1, e2, e3, e4, e5⟩ := h'.2 _ (List.mem_singleton.2 rfl)
  have en : name = [101, 114, 114, 111, 114] := (Option.some.inj e1).symm
  subst en
  obtain rfl := Option.some.inj (eRt.symm.trans e2)
  have hm : ty ∈ (List.range Tryz.prog.types.size).filter fun t => Tryz.prog.rowNamed t [101, 114, 114, 111, 114] := List.mem_filter.2 ⟨List.mem_range.2 e3, e4⟩
  rw [eRow] at hm
  obtain rfl := List.mem_singleton.1 hm
  have hh : typeHandle Tryz.prog 41 = .pointer (some ⟨7, 41, none⟩) := by kernel_rfl
  rw [hh] at e5
  unfold EType
  simpa using World.var?_cell gE e5 0

theorem env {W : World} (h : laidMetH Tryz.prog LaidL W) (hsh : W.ShapedOpen Tryz.prog) : EnvF W := by
  have h1 := laidMetH.filter (fun x => x.1 == "internal/strconv.uint64pow10") h
  have ht : Lib.TabIs Tryz.prog W "internal/strconv.uint64pow10" .u64 Lib.pow10Tab :=
    Lib.tabIs_of_head (rest := []) tab10_named tabType Tryz.underlying124 Tryz.underlying59 wordCells tabCells h1
  have h2 := laidMetH.filter (fun x => x.1 == "strconv.ErrRange" || x.1 == "strconv.ErrSyntax") h
  obtain ⟨a0, a1, s0, s1, c0, c1, t0, t1, hv0, hv1, _, _, _, _, _, _, hne, hb0, hb1⟩ := laid_sentinels2 (r := []) h2 gR gRType gS gSType Tryz.underlying41 errRow Tryz.underlying146 Tryz.underlying148 rfl rfl Tryz.underlying9 errCells strCells1
  refine ⟨⟨⟨ht, lt_of_cell (ht.cell tab10_named 0 (by decide))⟩, ?_, a1, a0, c1, c0, t1, t0, by simpa using World.var?_cell gS hv1 0, by simpa using World.var?_cell gR hv0 0, hne.symm, hb1, hb0⟩, handle_of_laid h⟩
  exact cell_of_shapedOpen_int (t := 3) (zero := #[.int .i64 0]) hsh (by decide +kernel) (by kernel_rfl) rfl (by kernel_rfl) (by kernel_rfl) Tryz.underlying3

theorem door_met (os : Os) (args : Array Value) : laidMetH Tryz.prog LaidL ((World.doorLaid Tryz.prog 400 os).forCall (fun _ _ => 0) ⟨#[], args, []⟩).memory :=
  laidMetH_of_parts (laidMet_of_run' 8 (by kernel_rfl) (by kernel_rfl)) (by kernel_rfl)

section
variable {H : Type} {enc : TypeId × Value → H} {w : World} {held : Bool}
set_option maxRecDepth 100000 in
theorem open_str {r : Reach} {b0 : Nat} {v : Value} {d : DataW H} {p : List MemPlace} (hv : Value.okWide Tryz.prog w r b0 9 v) (h : DataW.Trod enc Tryz.prog w 0 (fun _ => true) held 9 v d p) :
    ∃ l : List UInt8, v = .string ⟨l.toArray⟩ ∧ d = .lit (.string l) ∧ l.length ≤ maxLen := by
  obtain ⟨s, rfl, rfl, rfl, hs⟩ := open_string Tryz.underlying9 hv h
  exact ⟨s.data.toList, by simp, rfl, by have e : s.data.toList.length = s.size := Array.length_toList; rw [e]; exact hs⟩
set_option maxRecDepth 100000 in
theorem open_strs {r : Reach} {b0 : Nat} {v : Value} {d : DataW H} {p : List MemPlace} (hv : Value.okWide Tryz.prog w r b0 29 v) (h : DataW.Trod enc Tryz.prog w 0 (fun _ => true) held 29 v d p) :
    ∃ (l : List (List UInt8)) (ao : Option Addr) (cap : Nat), v = .slice ao l.length cap ∧ SlOf IsStr w ao cap l := by
  obtain ⟨a0, len, cap, rfl⟩ := okWide_slice Tryz.underlying29 hv
  obtain ⟨fuel, hf⟩ := h
  rcases open_strings Tryz.underlying29 Tryz.underlying9 strCells1 hf with ⟨hcs, _⟩ | ⟨a, len', cap', ss, hcs, _, hl, hm, hz, _, hcell, _⟩
  · simp [Value.cells] at hcs
    obtain ⟨rfl, rfl, rfl⟩ := hcs
    exact ⟨[], none, 0, rfl, by simp, by simp [maxLen], fun _ => rfl, fun k x h => by simp at h⟩
  · simp [Value.cells] at hcs
    obtain ⟨rfl, rfl, rfl⟩ := hcs
    simp only [if_true] at hz
    refine ⟨(ss.take len).map (·.data.toList), some a, cap, by simp; omega, by simp; omega, hm, by simp, fun k x hk => ?_⟩
    have hkl : k < len := by have := (List.getElem?_eq_some_iff.1 hk).1; simp at this; omega
    have hc0 := hcell 0 (by omega)
    obtain ⟨b, off, rfl, hat⟩ : ∃ b off, a = ⟨b, off, none⟩ ∧ ∀ w' : World, w'.cell? (a.add k) = w'.cell? ⟨b, off + k, none⟩ := by
      obtain ⟨b, off, spot⟩ := a
      have hspot : spot = none := by simpa [Addr.add] using World.cell?_spot hc0
      subst hspot
      exact ⟨b, off, rfl, fun w' => by rw [← Go.WideShapes.add_plain]⟩
    have hc := hcell k (by omega)
    refine ⟨b, off, _, rfl, (hat w) ▸ hc, ?_⟩
    show _ = Value.string ⟨x.toArray⟩
    have hkz : k < ss.length := by omega
    simp only [List.getElem?_map, List.getElem?_take, hkl, if_true, List.getElem?_eq_getElem hkz, Option.map_some, Option.some.injEq] at hk
    rw [List.getD_eq_getElem?_getD, List.getElem?_eq_getElem hkz, ← hk]
    simp
set_option maxRecDepth 100000 in
theorem open_int64 {r : Reach} {b0 : Nat} {v : Value} {d : DataW H} {p : List MemPlace} (hv : Value.okWide Tryz.prog w r b0 3 v) (h : DataW.Trod enc Tryz.prog w 0 (fun _ => true) held 3 v d p) :
    ∃ n : Int, v = .int .i64 n ∧ -9223372036854775808 ≤ n ∧ n ≤ 9223372036854775807 := by
  obtain ⟨n, rfl, _, _, hn⟩ := open_int Tryz.underlying3 hv h
  exact ⟨n, rfl, bounds_i64 hn⟩
end
end Go.Proofs.YtagemjjhiddpgaaGreatDoor
