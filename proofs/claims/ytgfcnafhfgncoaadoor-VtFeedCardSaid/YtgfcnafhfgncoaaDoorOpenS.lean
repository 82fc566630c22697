/- Strings' slices and ints that came in, opened (chapter 13). -/
import Derived.Test.YtgfcnafhfgncoaaDoorEnv13
import Derived.SliceStrings
namespace Go.Proofs.YtgfcnafhfgncoaaDoor
open Go Go.Proofs Go.RowKit Go.Ink Go.ChangeShapes Go.WideShapes Go.ChangeAt Go.Joins Go.Deep
theorem str_cells1 : Tryd.prog.cellsOf 9 = 1 := by kernel_rfl
section
variable {H : Type} {enc : TypeId × Value → H} {w : World} {held : Bool}
set_option maxRecDepth 100000 in
theorem open_strs {r : Reach} {b0 : Nat} {v : Value} {d : DataW H} {p : List MemPlace} (hv : Value.okWide Tryd.prog w r b0 22 v) (h : DataW.Trod enc Tryd.prog w 0 (fun _ => true) held 22 v d p) :
    ∃ (l : List (List UInt8)) (ao : Option Addr) (cap : Nat), v = .slice ao l.length cap ∧ SlOf IsStr w ao cap l := by
  obtain ⟨a0, len, cap, rfl⟩ := okWide_slice Tryd.underlying22 hv
  obtain ⟨fuel, hf⟩ := h
  rcases open_strings Tryd.underlying22 Tryd.underlying9 str_cells1 hf with ⟨hcs, _⟩ | ⟨a, len', cap', ss, hcs, _, hl, hm, hz, _, hcell, _⟩
  · simp [Value.cells] at hcs
    obtain ⟨rfl, rfl, rfl⟩ := hcs
    exact ⟨[], none, 0, rfl, by simp, by simp [maxLen], fun _ => rfl, fun k x h => by simp at h⟩
  · simp [Value.cells] at hcs
    obtain ⟨rfl, rfl, rfl⟩ := hcs
    simp only [if_true] at hz
    refine ⟨(ss.take len).map (·.data.toList), some a, cap, by simp; omega, by simp; omega, hm, by simp, fun k x hk => ?_⟩
    have hkl : k < len := by have := (List.getElem?_eq_some_iff.1 hk).1; simp at this; omega
    have hc0 := hcell 0 (by omega)
    obtain ⟨b, off, rfl, hat⟩ : ∃ b off, a = ⟨b, off, none⟩ ∧ ∀ w' : World, w'.cell? (a.add k) = w'.cell? ⟨b, off + k, none⟩ := by
      obtain ⟨b, off, spot⟩ := a
      have hspot : spot = none := by simpa [Addr.add] using World.cell?_spot hc0
      subst hspot
      exact ⟨b, off, rfl, fun w' => by rw [← Go.WideShapes.add_plain]⟩
    have hc := hcell k (by omega)
    refine ⟨b, off, _, rfl, (hat w) ▸ hc, ?_⟩
    show _ = Value.string ⟨x.toArray⟩
    have hkz : k < ss.length := by omega
    simp only [List.getElem?_map, List.getElem?_take, hkl, if_true, List.getElem?_eq_getElem hkz, Option.map_some, Option.some.injEq] at hk
    rw [List.getD_eq_getElem?_getD, List.getElem?_eq_getElem hkz, ← hk]
    simp
set_option maxRecDepth 100000 in
theorem open_int64 {r : Reach} {b0 : Nat} {v : Value} {d : DataW H} {p : List MemPlace} (hv : Value.okWide Tryd.prog w r b0 3 v) (h : DataW.Trod enc Tryd.prog w 0 (fun _ => true) held 3 v d p) :
    ∃ n : Int, v = .int .i64 n ∧ -9223372036854775808 ≤ n ∧ n ≤ 9223372036854775807 := by
  obtain ⟨n, rfl, _, _, hn⟩ := open_int Tryd.underlying3 hv h
  exact ⟨n, rfl, bounds_i64 hn⟩
end
end Go.Proofs.YtgfcnafhfgncoaaDoor
