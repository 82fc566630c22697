/- The digits and semicolons of the law VtOdd, in plain Lean. No program in sight. -/
import Derived.Test.YtgfcnafhfgncoaaDoorVt4
namespace Go.Proofs.YtgfcnafhfgncoaaDoor
open Go

def oddL : List UInt8 := [48, 49, 50, 51, 52, 53, 54, 55, 56, 57, 59]
def oddD (c : UInt8) : UInt8 := oddL.getD (c.toNat % 11) 48
theorem oddD_at (c : UInt8) : oddL[c.toNat % 11]? = some (oddD c) := by
  have h : c.toNat % 11 < oddL.length := Nat.mod_lt _ (by decide)
  unfold oddD
  rw [List.getD_eq_getElem?_getD, List.getElem?_eq_getElem h]; rfl
theorem oddD_par (c : UInt8) : parB (oddD c) = true := by
  have h : ∀ x ∈ oddL, parB x = true := by decide
  exact h _ (List.mem_of_getElem? (oddD_at c))
theorem odd_par (l : List UInt8) : (l.map oddD).all parB = true := by
  rw [List.all_map, List.all_eq_true]
  exact fun x _ => oddD_par x
theorem odd_snoc (l : List UInt8) (k : Nat) {c : UInt8} (h : l[k]? = some c) : (l.take (k + 1)).map oddD = (l.take k).map oddD ++ [oddD c] := by
  rw [List.take_add_one, h]; simp
theorem odd_len (l : List UInt8) (k : Nat) (h : k ≤ l.length) : ((l.take k).map oddD).length = k := by rw [List.length_map, List.length_take]; omega
theorem same_grd {t u : Tm} (h : t.Same u) : u.rows = t.rows ∧ u.cols = t.cols ∧ u.cells = t.cells ∧ u.row = t.row ∧ u.col = t.col := h
end Go.Proofs.YtgfcnafhfgncoaaDoor
