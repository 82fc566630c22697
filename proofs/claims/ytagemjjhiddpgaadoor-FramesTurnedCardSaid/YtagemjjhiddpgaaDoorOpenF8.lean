/- A uint8 that came in, opened. -/
import Derived.Test.YtagemjjhiddpgaaDoorEnv04
namespace Go.Proofs.YtagemjjhiddpgaaDoor
open Go Go.Proofs Go.RowKit Go.Ink Go.ChangeShapes Go.WideShapes Go.ChangeAt Go.Joins Go.Deep
section
variable {H : Type} {enc : TypeId × Value → H} {w : World} {held : Bool}
set_option maxRecDepth 100000 in
theorem open_u8 {r : Reach} {b0 : Nat} {v : Value} {d : DataW H} {p : List MemPlace} (hv : Value.okWide Tryd.prog w r b0 5 v) (h : DataW.Trod enc Tryd.prog w 0 (fun _ => true) held 5 v d p) :
    ∃ n : Int, v = .int .u8 n ∧ 0 ≤ n ∧ n ≤ 255 := by
  obtain ⟨n, rfl, _, _, hn⟩ := open_int Tryd.underlying5 hv h
  exact ⟨n, rfl, bounds_u8 hn⟩
end
end Go.Proofs.YtagemjjhiddpgaaDoor
