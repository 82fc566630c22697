/- What a row's list gives to LogsNone (chapter 18), and arguments that came in, opened. -/
import Derived.Test.YtofllhipjaphfaaGreatDoorLg6
import Derived.Test.YtofllhipjaphfaaGreatDoorCards
import Derived.Test.YtofllhipjaphfaaGreatDoorTie
import Derived.ProofKit
import Derived.OpenShut
import Derived.Deep.Matrix
import Derived.Deep.DeepHandedRow
import Derived.Deep.DeepWitnessRowRef
import Derived.Lib.LaidTab
import Derived.Lib.SmallJoins
import Derived.Stop.LaidTwo
import Derived.LaidSub
import Derived.LaidMore
import Derived.LaidHandle
import Derived.Shelf.Vars
import Derived.SliceStrings
import Derived.SizedLaws
namespace Go.Proofs.YtofllhipjaphfaaGreatDoor
open Go Go.Proofs Go.RowKit Go.Ink Go.ChangeShapes Go.WideShapes Go.ChangeAt Go.Joins Go.Deep
open Go.ChangeMaps (open_string)

theorem own : ownKnob Tryz.prog.godebug = none := by kernel_rfl
theorem laidOut : laidOutB Tryz.prog = true := by kernel_rfl
theorem tabType : (Tryz.prog.globals[4]?).map (·.type) = some 213 := by kernel_rfl
theorem tabCells : Tryz.prog.cellsOf 213 = 20 := by kernel_rfl
theorem wordCells : Tryz.prog.cellsOf 147 = 1 := by kernel_rfl
theorem strCells1 : Tryz.prog.cellsOf 9 = 1 := by kernel_rfl
theorem errCells : Tryz.prog.cellsOf 228 = 1 := by kernel_rfl
theorem gS : Tryz.prog.globalNamed "strconv.ErrSyntax" = some 1 := by kernel_rfl
theorem gR : Tryz.prog.globalNamed "strconv.ErrRange" = some 2 := by kernel_rfl
theorem gSType : (Tryz.prog.globals[1]?).map (·.type) = some 57 := by kernel_rfl
theorem gRType : (Tryz.prog.globals[2]?).map (·.type) = some 57 := by kernel_rfl
theorem star : "*" ++ "errors.errorString" = "*errors.errorString" := by decide
theorem errRow (u : TypeId) (h : Tryz.prog.typeName? 3 u = some "*errors.errorString") : u = 226 :=
  typeName_ptr_named (nm := "errors.errorString") (by rw [star]; kernel_rfl) (by kernel_rfl) (by decide) u (by rw [star]; exact h)

theorem gE : Tryz.prog.globalNamed "errors.errorType" = some 0 := by kernel_rfl
theorem eRt : (Tryz.prog.cutTypes.find? (·.1 == "internal/reflectlite.rtype")).map (·.2) = some 160 := by kernel_rfl
theorem eRow : ((List.range Tryz.prog.types.size).filter fun t => Tryz.prog.rowNamed t [101, 114, 114, 111, 114]) = [57] := by kernel_rfl

/-- The six variables that these rows list. -/
def LaidL : List (String × DataW Unit) := [("math/bits.deBruijn32tab", Rows.laid_math_bits_deBruijn32tab), ("math/bits.deBruijn64tab", Rows.laid_math_bits_deBruijn64tab), ("internal/strconv.uint64pow10", Rows.laid_internal_strconv_uint64pow10), ("errors.errorType", Rows.laid_errors_errorType), ("strconv.ErrRange", Rows.laid_strconv_ErrRange), ("strconv.ErrSyntax", Rows.laid_strconv_ErrSyntax)]

theorem handle_of_laid {W : World} (h : laidMetH Tryz.prog LaidL W) : EType W := by
  have h3 := laidMetH.filter (fun x => x.1 == "errors.errorType") h
  have h' : laidMet Tryz.prog [] W ∧ handlesMet Tryz.prog [("errors.errorType", Rows.laid_errors_errorType)] W := h3
  obtain ⟨name, u, ty, e1, e2, e3, e4, e5⟩ := h'.2 _ (List.mem_singleton.2 rfl)
  have en : name = [101, 114, 114, 111, 114] := (Option.some.inj e1).symm
  subst en
  obtain rfl := Option.some.inj (eRt.symm.trans e2)
  have hm : ty ∈ (List.range Tryz.prog.types.size).filter fun t => Tryz.prog.rowNamed t [101, 114, 114, 111, 114] := List.mem_filter.2 ⟨List.mem_range.2 e3, e4⟩
  rw [eRow] at hm
  obtain rfl := List.mem_singleton.1 hm
  have hh : typeHandle Tryz.prog 57 = .pointer (some ⟨7, 57, none⟩) := by kernel_rfl
  rw [hh] at e5
  unfold EType
  simpa using World.var?_cell gE e5 0

theorem envF {W : World} (h : laidMetH Tryz.prog LaidL W) (hsh : W.ShapedOpen Tryz.prog) : EnvF W := by
  have h1 := laidMetH.filter (fun x => x.1 == "internal/strconv.uint64pow10") h
  have ht : Lib.TabIs Tryz.prog W "internal/strconv.uint64pow10" .u64 Lib.pow10Tab :=
    Lib.tabIs_of_head (rest := []) tab10_named tabType Tryz.underlying213 Tryz.underlying147 wordCells tabCells h1
  have h2 := laidMetH.filter (fun x => x.1 == "strconv.ErrRange" || x.1 == "strconv.ErrSyntax") h
  obtain ⟨a0, a1, s0, s1, c0, c1, t0, t1, hv0, hv1, _, _, _, _, _, _, hne, hb0, hb1⟩ := laid_sentinels2 (r := []) h2 gR gRType gS gSType Tryz.underlying57 errRow Tryz.underlying226 Tryz.underlying228 rfl rfl Tryz.underlying9 errCells strCells1
  refine ⟨⟨⟨ht, lt_of_cell (ht.cell tab10_named 0 (by decide))⟩, ?_, a1, a0, c1, c0, t1, t0, by simpa using World.var?_cell gS hv1 0, by simpa using World.var?_cell gR hv0 0, hne.symm, hb1, hb0⟩, handle_of_laid h⟩
  exact cell_of_shapedOpen_int (t := 3) (zero := #[.int .i64 0]) hsh (by decide +kernel) (by kernel_rfl) rfl (by kernel_rfl) (by kernel_rfl) Tryz.underlying3

/-- A variable of one cell, whole. -/
theorem one_cell {W : World} (hsh : W.ShapedOpen Tryz.prog) {g : Nat} {T : TypeId} {v : Value} (hg : g < Tryz.prog.globals.size) (hz : (((begin Tryz.prog (fun _ _ => 0) default).world.heap[g]?).bind Obj.row?).map (fun x => (x.1.size, x.2)) = some (1, T)) (hc : W.cell? ⟨g, 0, none⟩ = some v) : W.heap[g]? = some (.cells #[v] T (0, 0)) := by
  obtain ⟨⟨zero, t⟩, hq, he⟩ := Option.map_eq_some_iff.1 hz
  simp only [Prod.mk.injEq] at he
  obtain ⟨h1, rfl⟩ := he
  obtain ⟨cs, hb, hs, _⟩ := hsh.1 g zero t hg hq
  rw [h1] at hs
  rw [Lib.cell_of_heap hb] at hc
  obtain ⟨l⟩ := cs
  match l, hs with
  | [c], _ =>
    simp at hc
    rw [hb, hc]
theorem size_of_shapedOpen {P : Program} {w : World} (h : w.ShapedOpen P) {n : Nat} (hn : n < P.globals.size) (hz : (((begin P (fun _ _ => 0) default).world.heap[n]?).bind Obj.row?).isSome = true) : n < w.heap.size := by
  obtain ⟨⟨zero, t⟩, hq⟩ := Option.isSome_iff_exists.1 hz
  obtain ⟨cs, hc, _⟩ := h.1 n zero t hn hq
  exact (Array.getElem?_eq_some_iff.1 hc).1
theorem env {W : World} (h : laidMetH Tryz.prog LaidL W) (hsh : W.ShapedOpen Tryz.prog) : Env18 W := by
  have h2 := laidMetH.filter (fun x => x.1 == "strconv.ErrRange" || x.1 == "strconv.ErrSyntax") h
  obtain ⟨a0, a1, s0, s1, c0, c1, t0, t1, hv0, hv1, k0, _, _, k1, _, _, hne, hb0, hb1⟩ := laid_sentinels2 (r := []) h2 gR gRType gS gSType Tryz.underlying57 errRow Tryz.underlying226 Tryz.underlying228 rfl rfl Tryz.underlying9 errCells strCells1
  have hs0 := World.cell?_spot k0
  have hs1 := World.cell?_spot k1
  obtain ⟨b0, o0, p0⟩ := a0
  obtain ⟨b1, o1, p1⟩ := a1
  simp only at hs0 hs1
  subst hs0 hs1
  refine ⟨envF h hsh, ?_, one_cell hsh (by decide +kernel) (by kernel_rfl) (handle_of_laid h), b1, o1, b0, o0, lt_of_heap hb1, lt_of_heap hb0, one_cell hsh (by decide +kernel) (by kernel_rfl) (by simpa using World.var?_cell gS hv1 0), one_cell hsh (by decide +kernel) (by kernel_rfl) (by simpa using World.var?_cell gR hv0 0)⟩
  have := size_of_shapedOpen (n := 7 - 1) hsh (by decide +kernel) (by kernel_rfl)
  omega

theorem door_met (os : Os) (args : Array Value) : laidMetH Tryz.prog LaidL ((World.doorLaid Tryz.prog 400 os).forCall (fun _ _ => 0) ⟨#[], args, []⟩).memory :=
  laidMetH_of_parts (laidMet_of_run' 8 (by kernel_rfl) (by kernel_rfl)) (by kernel_rfl)

theorem splCells : Tryz.prog.cellsOf 46 = 3 := by kernel_rfl
theorem intCells : Tryz.prog.cellsOf 3 = 1 := by kernel_rfl
theorem strsCells : Tryz.prog.cellsOf 22 = 1 := by kernel_rfl
def Spl.inRange (s : Spl) : Prop := -9223372036854775808 ≤ s.pos ∧ s.pos ≤ 9223372036854775807 ∧ -9223372036854775808 ≤ s.del ∧ s.del ≤ 9223372036854775807

section
variable {H : Type} {enc : TypeId × Value → H} {w : World} {held : Bool}
set_option maxRecDepth 100000 in
theorem open_strs_trod {n : Nat} {v : Value} {x : DataW H × List MemPlace} (hf : DataW.trod enc Tryz.prog w 0 (fun _ => true) held n 22 [v] = some x) :
    ∃ (l : List (List UInt8)) (ao : Option Addr) (cap : Nat), v = .slice ao l.length cap ∧ SlOf IsStr w ao cap l := by
  rcases open_strings Tryz.underlying22 Tryz.underlying9 strCells1 hf with ⟨hcs, _⟩ | ⟨a, len, cap, ss, hcs, _, hl, hm, hz, _, hcell, _⟩
  · simp at hcs
    subst hcs
    exact ⟨[], none, 0, rfl, by simp, by simp [maxLen], fun _ => rfl, fun k x h => by simp at h⟩
  · simp at hcs
    subst hcs
    simp only [if_true] at hz
    refine ⟨(ss.take len).map (·.data.toList), some a, cap, by simp; omega, by simp; omega, hm, by simp, fun k x hk => ?_⟩
    have hkl : k < len := by have := (List.getElem?_eq_some_iff.1 hk).1; simp at this; omega
    have hc0 := hcell 0 (by omega)
    obtain ⟨b, off, rfl, hat⟩ : ∃ b off, a = ⟨b, off, none⟩ ∧ ∀ w' : World, w'.cell? (a.add k) = w'.cell? ⟨b, off + k, none⟩ := by
      obtain ⟨b, off, spot⟩ := a
      have hspot : spot = none := by simpa [Addr.add] using World.cell?_spot hc0
      subst hspot
      exact ⟨b, off, rfl, fun w' => by rw [← Go.WideShapes.add_plain]⟩
    have hc := hcell k (by omega)
    refine ⟨b, off, _, rfl, (hat w) ▸ hc, ?_⟩
    show _ = Value.string ⟨x.toArray⟩
    have hkz : k < ss.length := by omega
    simp only [List.getElem?_map, List.getElem?_take, hkl, if_true, List.getElem?_eq_getElem hkz, Option.map_some, Option.some.injEq] at hk
    rw [List.getD_eq_getElem?_getD, List.getElem?_eq_getElem hkz, ← hk]
    simp
set_option maxRecDepth 100000 in
theorem open_strs {r : Reach} {b0 : Nat} {v : Value} {d : DataW H} {p : List MemPlace} (hv : Value.okWide Tryz.prog w r b0 22 v) (h : DataW.Trod enc Tryz.prog w 0 (fun _ => true) held 22 v d p) :
    ∃ (l : List (List UInt8)) (ao : Option Addr) (cap : Nat), v = .slice ao l.length cap ∧ SlOf IsStr w ao cap l := by
  obtain ⟨a0, len, cap, rfl⟩ := okWide_slice Tryz.underlying22 hv
  obtain ⟨fuel, hf⟩ := h
  exact open_strs_trod (by simpa [Value.cells] using hf)
set_option maxRecDepth 100000 in
theorem open_spl_cells {n : Nat} {c0 c1 c2 : Value} {x : DataW H × List MemPlace} (h : DataW.trod enc Tryz.prog w 0 (fun _ => true) held n 46 [c0, c1, c2] = some x) :
    ∃ (s : Spl) (ao : Option Addr) (cap : Nat), c0 = .int .i64 s.pos ∧ c1 = .int .i64 s.del ∧ c2 = .slice ao s.ins.length cap ∧ SlOf IsStr w ao cap s.ins ∧ s.inRange := by
  obtain ⟨xs, m, _, _, _, hlen, hg⟩ := DataW.trod_struct Tryz.underlying46 h
  have g0 := hg 0 _ rfl
  have g1 := hg 1 _ rfl
  have g2 := hg 2 _ rfl
  match xs, hlen with
  | [y0, y1, y2], _ =>
    simp [intCells, strsCells] at g0 g1 g2
    obtain ⟨n0, e0, _, w0⟩ := DataW.trod_int Tryz.underlying3 g0
    obtain ⟨n1, e1, _, w1⟩ := DataW.trod_int Tryz.underlying3 g1
    obtain ⟨l, ao, cap, e2, hs⟩ := open_strs_trod g2
    simp at e0 e1
    subst e0 e1 e2
    exact ⟨⟨n0, n1, l⟩, ao, cap, rfl, rfl, rfl, hs, (bounds_i64 w0).1, (bounds_i64 w0).2, (bounds_i64 w1).1, (bounds_i64 w1).2⟩
set_option maxRecDepth 100000 in
theorem open_splice {r : Reach} {b0 : Nat} {v : Value} {d : DataW H} {p : List MemPlace} (hv : Value.okWide Tryz.prog w r b0 46 v) (h : DataW.Trod enc Tryz.prog w 0 (fun _ => true) held 46 v d p) :
    ∃ (s : Spl) (ao : Option Addr) (cap : Nat), v = splV s ao cap ∧ SlOf IsStr w ao cap s.ins ∧ s.inRange := by
  obtain ⟨cs, rfl, hsz⟩ := okWide_struct Tryz.underlying46 hv
  rw [splCells] at hsz
  obtain ⟨l⟩ := cs
  match l, hsz with
  | [c0, c1, c2], _ =>
    obtain ⟨fuel, hf⟩ := h
    obtain ⟨s, ao, cap, rfl, rfl, rfl, hs, hr⟩ := open_spl_cells hf
    exact ⟨s, ao, cap, rfl, hs, hr⟩
theorem cells3 {w : World} {a : Addr} {cs : List Value} (h : w.cells? 0 a 3 = some cs) : ∃ c0 c1 c2, cs = [c0, c1, c2] ∧ w.cell? (a.add 0) = some c0 ∧ w.cell? (a.add 1) = some c1 ∧ w.cell? (a.add 2) = some c2 := by
  unfold World.cells? at h
  rw [if_pos (Nat.zero_le _)] at h
  rw [show List.range 3 = [0, 1, 2] from rfl] at h
  simp only [List.mapM_cons, List.mapM_nil, Option.bind_eq_bind, Option.bind_eq_some_iff, Option.pure_def, Option.some.injEq] at h
  obtain ⟨c0, h0, r0, ⟨c1, h1, r1, ⟨c2, h2, r2, rfl, rfl⟩, rfl⟩, rfl⟩ := h
  exact ⟨c0, c1, c2, rfl, h0, h1, h2⟩
theorem add_at {b off k : Nat} : (⟨b, off, none⟩ : Addr).add k = ⟨b, off + k, none⟩ := by unfold Addr.add; split <;> simp_all
set_option maxRecDepth 100000 in
theorem open_splices {r : Reach} {b0 : Nat} {v : Value} {d : DataW H} {p : List MemPlace} (hv : Value.okWide Tryz.prog w r b0 23 v) (h : DataW.Trod enc Tryz.prog w 0 (fun _ => true) held 23 v d p) :
    ∃ (l : List Spl) (ao : Option Addr) (cap : Nat), v = .slice ao l.length cap ∧ SplOf w ao cap l ∧ ∀ s ∈ l, s.inRange := by
  obtain ⟨a0, len, cap, rfl⟩ := okWide_slice Tryz.underlying23 hv
  obtain ⟨fuel, hf⟩ := h
  rcases DataW.trod_slice Tryz.underlying23 hf with ⟨hcs, _⟩ | ⟨a, len', cap', elems, rest, n, _, hcs, _, _, hl, hm, hlen, hel, _, _⟩
  · simp [Value.cells] at hcs
    obtain ⟨rfl, rfl, rfl⟩ := hcs
    exact ⟨[], none, 0, rfl, ⟨by simp, by simp [maxLen], fun _ => rfl, fun k x h => by simp at h⟩, fun s hs => by simp at hs⟩
  · simp [Value.cells] at hcs
    obtain ⟨rfl, rfl, rfl⟩ := hcs
    have each : ∀ k, k < len → ∃ (s : Spl) (ai : Option Addr) (ci : Nat), w.cell? (a.add (k * 3)) = some (.int .i64 s.pos) ∧ w.cell? ((a.add (k * 3)).add 1) = some (.int .i64 s.del) ∧ w.cell? ((a.add (k * 3)).add 2) = some (.slice ai s.ins.length ci) ∧ SlOf IsStr w ai ci s.ins ∧ s.inRange := by
      intro k hk
      have he := hel k hk
      rw [splCells, List.getElem?_eq_getElem (by omega), Option.bind_eq_some_iff] at he
      obtain ⟨cs, hcs, ht⟩ := he
      obtain ⟨c0, c1, c2, rfl, h0, h1, h2⟩ := cells3 hcs
      obtain ⟨s, ai, ci, rfl, rfl, rfl, hs, hr⟩ := open_spl_cells ht
      exact ⟨s, ai, ci, by simpa [Addr.add] using h0, h1, h2, hs, hr⟩
    obtain ⟨f, hf'⟩ : ∃ f : Nat → Spl, ∀ k, k < len → ∃ (ai : Option Addr) (ci : Nat), w.cell? (a.add (k * 3)) = some (.int .i64 (f k).pos) ∧ w.cell? ((a.add (k * 3)).add 1) = some (.int .i64 (f k).del) ∧ w.cell? ((a.add (k * 3)).add 2) = some (.slice ai (f k).ins.length ci) ∧ SlOf IsStr w ai ci (f k).ins ∧ (f k).inRange :=
      ⟨fun k => if h : k < len then (each k h).choose else noSpl, fun k hk => by simp only [dif_pos hk]; exact (each k hk).choose_spec⟩
    refine ⟨(List.range len).map f, some a, cap, by simp, ⟨by simpa using hl, hm, by simp, fun k x hk => ?_⟩, fun s hs => ?_⟩
    · have hkl : k < len := by have := (List.getElem?_eq_some_iff.1 hk).1; simpa using this
      have hx : f k = x := by simpa [List.getElem?_map, List.getElem?_range hkl] using hk
      obtain ⟨ai, ci, c0, c1, c2, hs, _⟩ := hf' k hkl
      rw [hx] at c0 c1 c2 hs
      obtain ⟨b, off, spot⟩ := a
      have hspot : spot = none := by
        obtain ⟨_, _, e0, _⟩ := hf' 0 (by omega)
        simpa [Addr.add] using World.cell?_spot e0
      subst hspot
      simp only [add_at] at c0 c1 c2
      refine ⟨b, off, ai, ci, rfl, ?_, ?_, ?_, hs⟩
      · exact c0
      · exact c1
      · exact c2
    · simp only [List.mem_map, List.mem_range] at hs
      obtain ⟨k, hk, rfl⟩ := hs
      obtain ⟨_, _, _, _, _, _, hr⟩ := hf' k hk
      exact hr
end
end Go.Proofs.YtofllhipjaphfaaGreatDoor
