/- What a row's list gives to VisualNone (chapter 28), and arguments that came in, opened. -/
import Derived.Test.YtnblgomjmmnkaaaGreatDoorVsZ
import Derived.Test.YtnblgomjmmnkaaaGreatDoorCards
import Derived.Test.YtnblgomjmmnkaaaGreatDoorTie
import Derived.ProofKit
import Derived.OpenShut
import Derived.Deep.Matrix
import Derived.Deep.DeepHandedRow
import Derived.Deep.DeepWitnessRowRef
import Derived.Lib.LaidTab
import Derived.Lib.SmallJoins
import Derived.Stop.LaidTwo
import Derived.LaidSub
import Derived.LaidMore
import Derived.LaidHandle
import Derived.Shelf.Vars
import Derived.SliceStrings
import Derived.SizedLaws
set_option linter.unusedVariables false
set_option linter.unusedSimpArgs false
namespace Go.Proofs.YtnblgomjmmnkaaaGreatDoor
open Go Go.Proofs Go.RowKit Go.Ink Go.ChangeShapes Go.WideShapes Go.ChangeAt Go.Joins Go.Deep
open Go.ChangeMaps (open_string)
open Go.Ev (Den vars tabBlk)

theorem own : ownKnob Tryz.prog.godebug = none := by kernel_rfl
theorem laidOut : laidOutB Tryz.prog = true := by kernel_rfl
theorem strCells1 : Tryz.prog.cellsOf 9 = 1 := by kernel_rfl
theorem byteCells1 : Tryz.prog.cellsOf 5 = 1 := by kernel_rfl

/-- The variables that these rows list. -/
def LaidL : List (String × DataW Unit) := [("math/bits.deBruijn64tab", Rows.laid_math_bits_deBruijn64tab), ("unicode/utf8.acceptRanges", Rows.laid_unicode_utf8_acceptRanges), ("unicode/utf8.first", Rows.laid_unicode_utf8_first)]

theorem size_of_shapedOpen {P : Program} {w : World} (h : w.ShapedOpen P) {n : Nat} (hn : n < P.globals.size) (hz : (((begin P (fun _ _ => 0) default).world.heap[n]?).bind Obj.row?).isSome = true) : n < w.heap.size := by
  obtain ⟨⟨zero, t⟩, hq⟩ := Option.isSome_iff_exists.1 hz
  obtain ⟨cs, hc, _⟩ := h.1 n zero t hn hq
  exact (Array.getElem?_eq_some_iff.1 hc).1
def deBI : List Int := Lib.deBruijn64tab.map Int.ofNat
theorem tabW_of {W : World} (h : laidMetH Tryz.prog LaidL W) (hsh : W.ShapedOpen Tryz.prog) : TabW W := by
  have h1 := laidMetH.filter (fun x => x.1 == "math/bits.deBruijn64tab") h
  have ht : Lib.TabIs Tryz.prog W "math/bits.deBruijn64tab" .u8 deBI :=
    Lib.tabIs_of_head (rest := []) (g := 3) (t := 311) (e := 5) (n := 64) (by kernel_rfl) (by kernel_rfl) Tryz.underlying311 Tryz.underlying5 (by kernel_rfl) (by kernel_rfl) h1
  obtain ⟨⟨zero, t⟩, hq⟩ := Option.isSome_iff_exists.1 (show (((begin Tryz.prog (fun _ _ => 0) default).world.heap[3]?).bind Obj.row?).isSome = true by kernel_rfl)
  have htt : (((begin Tryz.prog (fun _ _ => 0) default).world.heap[3]?).bind Obj.row?).map (·.2) = some 311 := by kernel_rfl
  have hts : (((begin Tryz.prog (fun _ _ => 0) default).world.heap[3]?).bind Obj.row?).map (·.1.size) = some 64 := by kernel_rfl
  rw [hq] at htt hts
  simp only [Option.map_some, Option.some.injEq] at htt hts
  obtain ⟨cs, hc, hsz, _⟩ := hsh.1 3 zero t (by decide +kernel) hq
  rw [htt] at hc
  refine ⟨_, hc, cs, 0, 0, rfl, fun i v hv => ?_, ?_, rfl⟩
  · have hi : i < 64 := by have := (List.getElem?_eq_some_iff.1 hv).1; simpa [deB] using this
    have hcell := ht.cell (show Tryz.prog.globalNamed "math/bits.deBruijn64tab" = some 3 by kernel_rfl) i (by rw [show deBI.length = 64 by decide]; exact hi)
    rw [Lib.cell_of_heap hc i] at hcell
    refine ⟨_, by rw [Nat.zero_add]; exact hcell, ?_⟩
    have hd : deB = deBI.map (fun z => Ev.V.int .u8 z) := rfl
    rw [hd, List.getElem?_map] at hv
    have hil : i < deBI.length := by rw [show deBI.length = 64 by decide]; exact hi
    rw [List.getElem?_eq_getElem hil] at hv
    simp only [Option.map_some, Option.some.injEq] at hv
    subst hv
    simp only [Den]
    rw [List.getD_eq_getElem?_getD, List.getElem?_eq_getElem hil]
    rfl
  · show 0 + deB.length ≤ cs.size
    rw [hsz, hts]
    decide
theorem env {W : World} (h : laidMetH Tryz.prog LaidL W) (hsh : W.ShapedOpen Tryz.prog) : 4 ≤ W.heap.size ∧ TabW W := by
  refine ⟨?_, tabW_of h hsh⟩
  have := size_of_shapedOpen (n := 4 - 1) hsh (by decide +kernel) (by kernel_rfl)
  omega

/-- A block's cells are these. -/
def lay (cs : Array Value) : Obj → Obj
  | .cells _ t frozen => .cells cs t frozen
  | o => o
/-- A world for the witness: the door's, the pinned table of package utf8 laid in it. -/
noncomputable def doorW (os : Os) : World :=
  { World.doorLaid Tryz.prog 400 os with heap := (World.doorLaid Tryz.prog 400 os).heap.modify 1 (lay (Go.Pinned.utf8FirstZ.map fun (n : Nat) => Value.int .u8 (Int.ofNat n)).toArray) }
theorem door_met (os : Os) (args : Array Value) : laidMetH Tryz.prog LaidL ((doorW os).forCall (fun _ _ => 0) ⟨#[], args, []⟩).memory :=
  laidMetH_of_parts (laidMet_of_run' 8 (by kernel_rfl) (by kernel_rfl)) (by kernel_rfl)

section
variable {H : Type} {enc : TypeId × Value → H} {w : World} {held : Bool}
set_option maxRecDepth 100000 in
theorem open_str {r : Reach} {b0 : Nat} {v : Value} {d : DataW H} {p : List MemPlace} (hv : Value.okWide Tryz.prog w r b0 9 v) (h : DataW.Trod enc Tryz.prog w 0 (fun _ => true) held 9 v d p) :
    ∃ l : List UInt8, v = .string ⟨l.toArray⟩ ∧ d = .lit (.string l) ∧ l.length ≤ maxLen := by
  obtain ⟨s, rfl, rfl, rfl, hs⟩ := open_string Tryz.underlying9 hv h
  exact ⟨s.data.toList, by simp, rfl, by have e : s.data.toList.length = s.size := Array.length_toList; rw [e]; exact hs⟩
theorem u8_of {n : Int} (h : (Lit.int .u8 n).wf = true) : ∃ c : UInt8, n = (c.toNat : Int) := by
  have := bounds_u8 h
  refine ⟨UInt8.ofNat n.toNat, ?_⟩
  rw [UInt8.toNat_ofNat']
  omega
set_option maxRecDepth 100000 in
theorem open_byte {r : Reach} {b0 : Nat} {v : Value} {d : DataW H} {p : List MemPlace} (hv : Value.okWide Tryz.prog w r b0 5 v) (h : DataW.Trod enc Tryz.prog w 0 (fun _ => true) held 5 v d p) :
    ∃ c : UInt8, v = .int .u8 (c.toNat : Int) := by
  obtain ⟨n, rfl, _, _, hn⟩ := open_int Tryz.underlying5 hv h
  obtain ⟨c, rfl⟩ := u8_of hn
  exact ⟨c, rfl⟩
theorem okWide_array {P : Program} {w : World} {r : Reach} {base : Nat} {t : TypeId} {v : Value} {n : Nat} {e : TypeId} (ht : P.underlying t = some (.array n e)) (h : Value.okWide P w r base t v) : ∃ cs, v = .agg cs ∧ cs.size = P.cellsOf t := by
  simp only [Value.okWide, ht] at h
  obtain ⟨cs, h1, h2, _⟩ := h
  exact ⟨cs, h1, h2⟩
end
end Go.Proofs.YtnblgomjmmnkaaaGreatDoor
