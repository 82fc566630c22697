/- A uint16 that came in, opened. -/
import Derived.Test.YtagemjjhiddpgaaDoorEnv04
namespace Go.Proofs.YtagemjjhiddpgaaDoor
open Go Go.Proofs Go.RowKit Go.Ink Go.ChangeShapes Go.WideShapes Go.ChangeAt Go.Joins Go.Deep
section
variable {H : Type} {enc : TypeId × Value → H} {w : World} {held : Bool}
set_option maxRecDepth 100000 in
theorem open_u16 {r : Reach} {b0 : Nat} {v : Value} {d : DataW H} {p : List MemPlace} (hv : Value.okWide Tryd.prog w r b0 34 v) (h : DataW.Trod enc Tryd.prog w 0 (fun _ => true) held 34 v d p) :
    ∃ n : Int, v = .int .u16 n ∧ 0 ≤ n ∧ n ≤ 65535 := by
  obtain ⟨n, rfl, _, _, hn⟩ := open_int Tryd.underlying34 hv h
  exact ⟨n, rfl, bounds_u16 hn⟩
end
end Go.Proofs.YtagemjjhiddpgaaDoor
