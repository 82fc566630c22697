/- Arrays of numbers that came in, opened. -/
import Derived.Test.YtgfcnafhfgncoaaDoorEnv13
namespace Go.Proofs.YtgfcnafhfgncoaaDoor
open Go Go.Proofs Go.RowKit Go.Ink Go.ChangeShapes Go.WideShapes Go.ChangeAt Go.Joins Go.Deep

theorem pair8Cells : Tryd.prog.cellsOf 45 = 2 := by kernel_rfl
section
variable {H : Type} {enc : TypeId × Value → H} {w : World} {held : Bool}
set_option maxRecDepth 100000 in
theorem open_pair8 {r : Reach} {b0 : Nat} {v : Value} {d : DataW H} {p : List MemPlace} (hv : Value.okWide Tryd.prog w r b0 45 v) (h : DataW.Trod enc Tryd.prog w 0 (fun _ => true) held 45 v d p) :
    ∃ a b : UInt8, v = .agg #[.int .u8 (a.toNat : Int), .int .u8 (b.toNat : Int)] := by
  obtain ⟨cs, rfl, hsz⟩ := okWide_array Tryd.underlying45 hv
  rw [pair8Cells] at hsz
  obtain ⟨l⟩ := cs
  match l, hsz with
  | [c0, c1], _ =>
    obtain ⟨fuel, hf⟩ := h
    obtain ⟨xs, n, _, _, _, hlen, hg⟩ := DataW.trod_array Tryd.underlying45 hf
    have g0 := hg 0 (by omega)
    have g1 := hg 1 (by omega)
    match xs, hlen with
    | [y0, y1], _ =>
      simp [Value.cells, byteCells1] at g0 g1
      obtain ⟨n0, e0, _, h0⟩ := DataW.trod_int Tryd.underlying5 g0
      obtain ⟨n1, e1, _, h1⟩ := DataW.trod_int Tryd.underlying5 g1
      simp at e0 e1
      subst e0 e1
      obtain ⟨a, rfl⟩ := u8_of h0
      obtain ⟨b, rfl⟩ := u8_of h1
      exact ⟨a, b, rfl⟩
end
end Go.Proofs.YtgfcnafhfgncoaaDoor
