/- What a row's list gives to the walk of DiskFull (chapter 24), and arguments that came in, opened. -/
import Derived.Test.YtlcjjcmfpmflcaaGreatDoorDfD
import Derived.Test.YtlcjjcmfpmflcaaGreatDoorCards
import Derived.Test.YtlcjjcmfpmflcaaGreatDoorTie
import Derived.ProofKit
import Derived.OpenShut
import Derived.Deep.Matrix
import Derived.Deep.DeepHandedRow
import Derived.Deep.DeepWitnessRowRef
import Derived.Lib.LaidTab
import Derived.Lib.SmallJoins
import Derived.Stop.LaidTwo
import Derived.LaidSub
import Derived.LaidMore
import Derived.LaidHandle
import Derived.Shelf.Vars
import Derived.SliceStrings
import Derived.SizedLaws
set_option linter.unusedVariables false
set_option linter.unusedSimpArgs false
namespace Go.Proofs.YtlcjjcmfpmflcaaGreatDoor
open Go Go.Proofs Go.RowKit Go.Ink Go.ChangeShapes Go.WideShapes Go.ChangeAt Go.Joins Go.Deep
open Go.ChangeMaps (open_string)

theorem own : ownKnob Tryz.prog.godebug = none := by kernel_rfl
theorem laidOut : laidOutB Tryz.prog = true := by kernel_rfl
theorem strCells1 : Tryz.prog.cellsOf 9 = 1 := by kernel_rfl
theorem byteCells1 : Tryz.prog.cellsOf 5 = 1 := by kernel_rfl

/-- The variables that these rows list. -/
def LaidL : List (String × DataW Unit) := [("math/bits.deBruijn32tab", Rows.laid_math_bits_deBruijn32tab), ("math/bits.deBruijn64tab", Rows.laid_math_bits_deBruijn64tab), ("internal/strconv.uint64pow10", Rows.laid_internal_strconv_uint64pow10), ("unicode/utf8.acceptRanges", Rows.laid_unicode_utf8_acceptRanges), ("unicode/utf8.first", Rows.laid_unicode_utf8_first)]

theorem size_of_shapedOpen {P : Program} {w : World} (h : w.ShapedOpen P) {n : Nat} (hn : n < P.globals.size) (hz : (((begin P (fun _ _ => 0) default).world.heap[n]?).bind Obj.row?).isSome = true) : n < w.heap.size := by
  obtain ⟨⟨zero, t⟩, hq⟩ := Option.isSome_iff_exists.1 hz
  obtain ⟨cs, hc, _⟩ := h.1 n zero t hn hq
  exact (Array.getElem?_eq_some_iff.1 hc).1
theorem tabType : (Tryz.prog.globals[1]?).map (·.type) = some 280 := by kernel_rfl
theorem tabCells : Tryz.prog.cellsOf 280 = 20 := by kernel_rfl
theorem wordCells : Tryz.prog.cellsOf 254 = 1 := by kernel_rfl
theorem tab10_of {W : World} (h : laidMetH Tryz.prog LaidL W) : Tab10 W := by
  have h1 := laidMetH.filter (fun x => x.1 == "internal/strconv.uint64pow10") h
  have ht : Lib.TabIs Tryz.prog W "internal/strconv.uint64pow10" .u64 Lib.pow10Tab :=
    Lib.tabIs_of_head (rest := []) tab10_named tabType Tryz.underlying280 Tryz.underlying254 wordCells tabCells h1
  exact ⟨ht, lt_of_cell (ht.cell tab10_named 0 (by decide))⟩
/-- What the variables hold. -/
structure EnvR (W : World) : Prop where
  s : 6 ≤ W.heap.size
  t : Tab10 W
theorem env {W : World} (h : laidMetH Tryz.prog LaidL W) (hsh : W.ShapedOpen Tryz.prog) : EnvR W := by
  refine ⟨?_, tab10_of h⟩
  have := size_of_shapedOpen (n := 6 - 1) hsh (by decide +kernel) (by kernel_rfl)
  omega
theorem diskFull_any (old : List UInt8) (base : List (List UInt8)) (C : Nat) (ao : Option Addr) (cap : Nat) (w : World) (h1 : SlOf IsStr w ao cap base) (ho : old.length ≤ 140737488355328) (hC : C ≤ 65535) (henv : EnvR w) :
    Calls Tryz.prog 3 #[.string ⟨old.toArray⟩, .slice ao base.length cap, .int .u16 (C : Int)] w fun e w' => e = .returned (.bool true) ∧ Below w.heap.size w w' := diskFull_law old base C ao cap w h1 henv.s henv.t hC ho

/-- A block's cells are these. -/
def lay (cs : Array Value) : Obj → Obj
  | .cells _ t frozen => .cells cs t frozen
  | o => o
/-- A world for the witness: the door's, the pinned table of package utf8 laid in it. -/
noncomputable def doorW (os : Os) : World :=
  { World.doorLaid Tryz.prog 400 os with heap := (World.doorLaid Tryz.prog 400 os).heap.modify 4 (lay (Go.Pinned.utf8FirstZ.map fun (n : Nat) => Value.int .u8 (Int.ofNat n)).toArray) }
theorem door_met (os : Os) (args : Array Value) : laidMetH Tryz.prog LaidL ((doorW os).forCall (fun _ _ => 0) ⟨#[], args, []⟩).memory :=
  laidMetH_of_parts (laidMet_of_run' 8 (by kernel_rfl) (by kernel_rfl)) (by kernel_rfl)

section
variable {H : Type} {enc : TypeId × Value → H} {w : World} {held : Bool}
set_option maxRecDepth 100000 in
theorem open_str {r : Reach} {b0 : Nat} {v : Value} {d : DataW H} {p : List MemPlace} (hv : Value.okWide Tryz.prog w r b0 9 v) (h : DataW.Trod enc Tryz.prog w 0 (fun _ => true) held 9 v d p) :
    ∃ l : List UInt8, v = .string ⟨l.toArray⟩ ∧ d = .lit (.string l) ∧ l.length ≤ maxLen := by
  obtain ⟨s, rfl, rfl, rfl, hs⟩ := open_string Tryz.underlying9 hv h
  exact ⟨s.data.toList, by simp, rfl, by have e : s.data.toList.length = s.size := Array.length_toList; rw [e]; exact hs⟩
set_option maxRecDepth 100000 in
theorem open_strs {r : Reach} {b0 : Nat} {v : Value} {d : DataW H} {p : List MemPlace} (hv : Value.okWide Tryz.prog w r b0 22 v) (h : DataW.Trod enc Tryz.prog w 0 (fun _ => true) held 22 v d p) :
    ∃ (l : List (List UInt8)) (ao : Option Addr) (cap : Nat), v = .slice ao l.length cap ∧ SlOf IsStr w ao cap l := by
  obtain ⟨a0, len, cap, rfl⟩ := okWide_slice Tryz.underlying22 hv
  obtain ⟨fuel, hf⟩ := h
  rcases open_strings Tryz.underlying22 Tryz.underlying9 strCells1 hf with ⟨hcs, _⟩ | ⟨a, len', cap', ss, hcs, _, hl, hm, hz, _, hcell, _⟩
  · simp [Value.cells] at hcs
    obtain ⟨rfl, rfl, rfl⟩ := hcs
    exact ⟨[], none, 0, rfl, by simp, by simp [maxLen], fun _ => rfl, fun k x h => by simp at h⟩
  · simp [Value.cells] at hcs
    obtain ⟨rfl, rfl, rfl⟩ := hcs
    simp only [if_true] at hz
    refine ⟨(ss.take len).map (·.data.toList), some a, cap, by simp; omega, by simp; omega, hm, by simp, fun k x hk => ?_⟩
    have hkl : k < len := by have := (List.getElem?_eq_some_iff.1 hk).1; simp at this; omega
    have hc0 := hcell 0 (by omega)
    obtain ⟨b, off, rfl, hat⟩ : ∃ b off, a = ⟨b, off, none⟩ ∧ ∀ w' : World, w'.cell? (a.add k) = w'.cell? ⟨b, off + k, none⟩ := by
      obtain ⟨b, off, spot⟩ := a
      have hspot : spot = none := by simpa [Addr.add] using World.cell?_spot hc0
      subst hspot
      exact ⟨b, off, rfl, fun w' => by rw [← Go.WideShapes.add_plain]⟩
    have hc := hcell k (by omega)
    refine ⟨b, off, _, rfl, (hat w) ▸ hc, ?_⟩
    show _ = Value.string ⟨x.toArray⟩
    have hkz : k < ss.length := by omega
    simp only [List.getElem?_map, List.getElem?_take, hkl, if_true, List.getElem?_eq_getElem hkz, Option.map_some, Option.some.injEq] at hk
    rw [List.getD_eq_getElem?_getD, List.getElem?_eq_getElem hkz, ← hk]
    simp
set_option maxRecDepth 100000 in
theorem open_w16 {r : Reach} {b0 : Nat} {v : Value} {d : DataW H} {p : List MemPlace} (hv : Value.okWide Tryz.prog w r b0 23 v) (h : DataW.Trod enc Tryz.prog w 0 (fun _ => true) held 23 v d p) :
    ∃ n : Nat, v = .int .u16 (n : Int) ∧ n ≤ 65535 := by
  obtain ⟨n, rfl, _, _, hn⟩ := open_int Tryz.underlying23 hv h
  have hb := bounds_u16 hn
  obtain ⟨k, rfl⟩ := Int.eq_ofNat_of_zero_le hb.1
  exact ⟨k, rfl, by omega⟩
end
end Go.Proofs.YtlcjjcmfpmflcaaGreatDoor
