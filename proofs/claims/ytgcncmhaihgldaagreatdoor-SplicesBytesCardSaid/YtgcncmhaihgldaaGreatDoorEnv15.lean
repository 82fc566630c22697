/- What the list of three variables gives to the walks of chapter 15, and arguments that came in, opened. -/
import Derived.Test.YtgcncmhaihgldaaGreatDoorNums4
import Derived.Test.YtgcncmhaihgldaaGreatDoorCards
import Derived.Test.YtgcncmhaihgldaaGreatDoorTie
import Derived.ProofKit
import Derived.OpenShut
import Derived.Deep.Matrix
import Derived.Deep.DeepHandedRow
import Derived.Deep.DeepWitnessRowRef
import Derived.Lib.LaidTab
import Derived.Lib.SmallJoins
import Derived.Stop.LaidTwo
import Derived.LaidSub
import Derived.LaidMore
import Derived.LaidHandle
import Derived.Shelf.Vars
import Derived.SliceStrings
import Derived.SizedLaws
namespace Go.Proofs.YtgcncmhaihgldaaGreatDoor
open Go Go.Proofs Go.RowKit Go.Ink Go.ChangeShapes Go.WideShapes Go.ChangeAt Go.Joins Go.Deep
open Go.ChangeMaps (open_string)

theorem own : ownKnob Tryz.prog.godebug = none := by kernel_rfl
theorem laidOut : laidOutB Tryz.prog = true := by kernel_rfl
theorem tabType : (Tryz.prog.globals[3]?).map (·.type) = some 119 := by kernel_rfl
theorem tabCells : Tryz.prog.cellsOf 119 = 20 := by kernel_rfl
theorem wordCells : Tryz.prog.cellsOf 103 = 1 := by kernel_rfl
theorem strCells1 : Tryz.prog.cellsOf 9 = 1 := by kernel_rfl
/-- The three variables that these rows list. -/
def LaidL : List (String × DataW Unit) := [("math/bits.deBruijn32tab", Rows.laid_math_bits_deBruijn32tab), ("math/bits.deBruijn64tab", Rows.laid_math_bits_deBruijn64tab), ("internal/strconv.uint64pow10", Rows.laid_internal_strconv_uint64pow10)]

theorem env {W : World} (h : laidMetH Tryz.prog LaidL W) : Tab10 W := by
  have h1 := laidMetH.filter (fun x => x.1 == "internal/strconv.uint64pow10") h
  have ht : Lib.TabIs Tryz.prog W "internal/strconv.uint64pow10" .u64 Lib.pow10Tab :=
    Lib.tabIs_of_head (rest := []) tab10_named tabType Tryz.underlying119 Tryz.underlying103 wordCells tabCells h1
  exact ⟨ht, lt_of_cell (ht.cell tab10_named 0 (by decide))⟩

theorem door_met (os : Os) (args : Array Value) : laidMet Tryz.prog LaidL ((World.doorLaid Tryz.prog 400 os).forCall (fun _ _ => 0) ⟨#[], args, []⟩).memory :=
  laidMet_of_run' 8 (by kernel_rfl) (by kernel_rfl)

section
variable {H : Type} {enc : TypeId × Value → H} {w : World} {held : Bool}
set_option maxRecDepth 100000 in
theorem open_str {r : Reach} {b0 : Nat} {v : Value} {d : DataW H} {p : List MemPlace} (hv : Value.okWide Tryz.prog w r b0 9 v) (h : DataW.Trod enc Tryz.prog w 0 (fun _ => true) held 9 v d p) :
    ∃ l : List UInt8, v = .string ⟨l.toArray⟩ ∧ d = .lit (.string l) ∧ l.length ≤ maxLen := by
  obtain ⟨s, rfl, rfl, rfl, hs⟩ := open_string Tryz.underlying9 hv h
  exact ⟨s.data.toList, by simp, rfl, by have e : s.data.toList.length = s.size := Array.length_toList; rw [e]; exact hs⟩
set_option maxRecDepth 100000 in
theorem open_strs_trod {n : Nat} {v : Value} {x : DataW H × List MemPlace} (hf : DataW.trod enc Tryz.prog w 0 (fun _ => true) held n 22 [v] = some x) :
    ∃ (l : List (List UInt8)) (ao : Option Addr) (cap : Nat), v = .slice ao l.length cap ∧ SlOf IsStr w ao cap l := by
  rcases open_strings Tryz.underlying22 Tryz.underlying9 strCells1 hf with ⟨hcs, _⟩ | ⟨a, len, cap, ss, hcs, _, hl, hm, hz, _, hcell, _⟩
  · simp at hcs
    subst hcs
    exact ⟨[], none, 0, rfl, by simp, by simp [maxLen], fun _ => rfl, fun k x h => by simp at h⟩
  · simp at hcs
    subst hcs
    simp only [if_true] at hz
    refine ⟨(ss.take len).map (·.data.toList), some a, cap, by simp; omega, by simp; omega, hm, by simp, fun k x hk => ?_⟩
    have hkl : k < len := by have := (List.getElem?_eq_some_iff.1 hk).1; simp at this; omega
    have hc0 := hcell 0 (by omega)
    obtain ⟨b, off, rfl, hat⟩ : ∃ b off, a = ⟨b, off, none⟩ ∧ ∀ w' : World, w'.cell? (a.add k) = w'.cell? ⟨b, off + k, none⟩ := by
      obtain ⟨b, off, spot⟩ := a
      have hspot : spot = none := by simpa [Addr.add] using World.cell?_spot hc0
      subst hspot
      exact ⟨b, off, rfl, fun w' => by rw [← Go.WideShapes.add_plain]⟩
    have hc := hcell k (by omega)
    refine ⟨b, off, _, rfl, (hat w) ▸ hc, ?_⟩
    show _ = Value.string ⟨x.toArray⟩
    have hkz : k < ss.length := by omega
    simp only [List.getElem?_map, List.getElem?_take, hkl, if_true, List.getElem?_eq_getElem hkz, Option.map_some, Option.some.injEq] at hk
    rw [List.getD_eq_getElem?_getD, List.getElem?_eq_getElem hkz, ← hk]
    simp
set_option maxRecDepth 100000 in
theorem open_strs {r : Reach} {b0 : Nat} {v : Value} {d : DataW H} {p : List MemPlace} (hv : Value.okWide Tryz.prog w r b0 22 v) (h : DataW.Trod enc Tryz.prog w 0 (fun _ => true) held 22 v d p) :
    ∃ (l : List (List UInt8)) (ao : Option Addr) (cap : Nat), v = .slice ao l.length cap ∧ SlOf IsStr w ao cap l := by
  obtain ⟨a0, len, cap, rfl⟩ := okWide_slice Tryz.underlying22 hv
  obtain ⟨fuel, hf⟩ := h
  exact open_strs_trod (by simpa [Value.cells] using hf)
set_option maxRecDepth 100000 in
theorem open_int64 {r : Reach} {b0 : Nat} {v : Value} {d : DataW H} {p : List MemPlace} (hv : Value.okWide Tryz.prog w r b0 3 v) (h : DataW.Trod enc Tryz.prog w 0 (fun _ => true) held 3 v d p) :
    ∃ n : Int, v = .int .i64 n ∧ -9223372036854775808 ≤ n ∧ n ≤ 9223372036854775807 := by
  obtain ⟨n, rfl, _, _, hn⟩ := open_int Tryz.underlying3 hv h
  exact ⟨n, rfl, bounds_i64 hn⟩
end
end Go.Proofs.YtgcncmhaihgldaaGreatDoor
