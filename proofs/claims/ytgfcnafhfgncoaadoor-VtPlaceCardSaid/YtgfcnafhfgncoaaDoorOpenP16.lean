/- Two numbers of sixteen bits that came in, opened. -/
import Derived.Test.YtgfcnafhfgncoaaDoorOpen13
import Derived.Test.YtgfcnafhfgncoaaDoorOpenW16
namespace Go.Proofs.YtgfcnafhfgncoaaDoor
open Go Go.Proofs Go.RowKit Go.Ink Go.ChangeShapes Go.WideShapes Go.ChangeAt Go.Joins Go.Deep

theorem pair16Cells : Tryd.prog.cellsOf 55 = 2 := by kernel_rfl
theorem wordCells1 : Tryd.prog.cellsOf 46 = 1 := by kernel_rfl
theorem u16_of {n : Int} (h : (Lit.int .u16 n).wf = true) : ∃ k : Nat, n = (k : Int) ∧ k ≤ 65535 := by
  have hb := bounds_u16 h
  obtain ⟨k, rfl⟩ := Int.eq_ofNat_of_zero_le hb.1
  exact ⟨k, rfl, by omega⟩
section
variable {H : Type} {enc : TypeId × Value → H} {w : World} {held : Bool}
set_option maxRecDepth 100000 in
theorem open_pair16 {r : Reach} {b0 : Nat} {v : Value} {d : DataW H} {p : List MemPlace} (hv : Value.okWide Tryd.prog w r b0 55 v) (h : DataW.Trod enc Tryd.prog w 0 (fun _ => true) held 55 v d p) :
    ∃ a b : Nat, v = .agg #[.int .u16 (a : Int), .int .u16 (b : Int)] ∧ a ≤ 65535 ∧ b ≤ 65535 := by
  obtain ⟨cs, rfl, hsz⟩ := okWide_array Tryd.underlying55 hv
  rw [pair16Cells] at hsz
  obtain ⟨l⟩ := cs
  match l, hsz with
  | [c0, c1], _ =>
    obtain ⟨fuel, hf⟩ := h
    obtain ⟨xs, n, _, _, _, hlen, hg⟩ := DataW.trod_array Tryd.underlying55 hf
    have g0 := hg 0 (by omega)
    have g1 := hg 1 (by omega)
    match xs, hlen with
    | [y0, y1], _ =>
      simp [Value.cells, wordCells1] at g0 g1
      obtain ⟨n0, e0, _, h0⟩ := DataW.trod_int Tryd.underlying46 g0
      obtain ⟨n1, e1, _, h1⟩ := DataW.trod_int Tryd.underlying46 g1
      simp at e0 e1
      subst e0 e1
      obtain ⟨a, rfl, ha⟩ := u16_of h0
      obtain ⟨b, rfl, hb⟩ := u16_of h1
      exact ⟨a, b, rfl, ha, hb⟩
end
end Go.Proofs.YtgfcnafhfgncoaaDoor
