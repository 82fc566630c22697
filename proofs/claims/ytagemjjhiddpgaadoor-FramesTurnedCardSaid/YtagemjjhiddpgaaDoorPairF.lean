/- A pair of texts that came in, opened. -/
import Derived.Test.YtagemjjhiddpgaaDoorEnv04
namespace Go.Proofs.YtagemjjhiddpgaaDoor
open Go Go.Proofs Go.RowKit Go.Ink Go.ChangeShapes Go.WideShapes Go.ChangeAt Go.Joins Go.Deep

theorem pairCells : Tryd.prog.cellsOf 38 = 2 := by kernel_rfl
theorem okWide_array {P : Program} {w : World} {r : Reach} {base : Nat} {t : TypeId} {v : Value} {n : Nat} {e : TypeId} (ht : P.underlying t = some (.array n e)) (h : Value.okWide P w r base t v) : ∃ cs, v = .agg cs ∧ cs.size = P.cellsOf t := by
  simp only [Value.okWide, ht] at h
  obtain ⟨cs, h1, h2, _⟩ := h
  exact ⟨cs, h1, h2⟩

set_option maxRecDepth 100000 in
theorem open_pair {H : Type} {enc : TypeId × Value → H} {w : World} {held : Bool} {r : Reach} {b0 : Nat} {v : Value} {d : DataW H} {p : List MemPlace} (hv : Value.okWide Tryd.prog w r b0 38 v) (h : DataW.Trod enc Tryd.prog w 0 (fun _ => true) held 38 v d p) :
    ∃ a b : List UInt8, v = .agg #[.string ⟨a.toArray⟩, .string ⟨b.toArray⟩] ∧ a.length ≤ maxLen ∧ b.length ≤ maxLen := by
  obtain ⟨cs, rfl, hsz⟩ := okWide_array Tryd.underlying38 hv
  rw [pairCells] at hsz
  obtain ⟨l⟩ := cs
  match l, hsz with
  | [c0, c1], _ =>
    obtain ⟨fuel, hf⟩ := h
    obtain ⟨xs, n, _, _, _, hlen, hg⟩ := DataW.trod_array Tryd.underlying38 hf
    have g0 := hg 0 (by omega)
    have g1 := hg 1 (by omega)
    match xs, hlen with
    | [y0, y1], _ =>
      simp [Value.cells, strCells1] at g0 g1
      obtain ⟨s0, e0, _, h0⟩ := DataW.trod_string Tryd.underlying9 g0
      obtain ⟨s1, e1, _, h1⟩ := DataW.trod_string Tryd.underlying9 g1
      simp at e0 e1
      subst e0 e1
      exact ⟨s0.data.toList, s1.data.toList, by simp, by have e : s0.data.toList.length = s0.size := Array.length_toList; rw [e]; exact h0, by have e : s1.data.toList.length = s1.size := Array.length_toList; rw [e]; exact h1⟩
end Go.Proofs.YtagemjjhiddpgaaDoor
