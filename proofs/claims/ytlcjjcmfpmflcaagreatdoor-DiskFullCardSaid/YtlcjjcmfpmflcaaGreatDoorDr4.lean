/- Lines joined, and split again: plain. No program in sight. -/
import Derived.Test.YtlcjjcmfpmflcaaGreatDoorSplt1
import Derived.Test.YtlcjjcmfpmflcaaGreatDoorLawM
import Derived.Test.YtlcjjcmfpmflcaaGreatDoorLin0
set_option linter.unusedVariables false
set_option linter.unusedSimpArgs false
namespace Go.Ink
open Go Go.RowKit

/-- Lines, each with an end. -/
def joinL : List (List UInt8) → List UInt8
  | [] => []
  | x :: l => x ++ 10 :: joinL l
theorem joinL_append : ∀ (a b : List (List UInt8)), joinL (a ++ b) = joinL a ++ joinL b
  | [], b => rfl
  | x :: a, b => by simp [joinL, joinL_append a b]
theorem joinL_snoc (l : List (List UInt8)) (x : List UInt8) : joinL (l ++ [x]) = joinL l ++ x ++ [10] := by simp [joinL_append, joinL]
theorem joinL_take {l : List (List UInt8)} {k : Nat} {x : List UInt8} (h : l[k]? = some x) : joinL (l.take (k + 1)) = joinL (l.take k) ++ x ++ [10] := by
  obtain ⟨hk, rfl⟩ := List.getElem?_eq_some_iff.1 h
  rw [List.take_succ_eq_append_getElem hk, joinL_snoc]
theorem joinL_le {c : Nat} : ∀ (l : List (List UInt8)), (∀ x ∈ l, x.length ≤ c) → (joinL l).length ≤ l.length * (c + 1)
  | [], _ => by simp [joinL]
  | x :: l, h => by
    have h1 := joinL_le l (fun y hy => h y (List.mem_cons_of_mem _ hy))
    have h2 := h x (List.mem_cons_self ..)
    simp only [joinL, List.length_append, List.length_cons, Nat.add_mul] at *
    omega
theorem linesA_ahead : ∀ (x p t : List UInt8), (10 : UInt8) ∉ x → linesA p (x ++ 10 :: t) = (p ++ x, true) :: linesA [] t
  | [], p, t, _ => by simp [linesA]
  | c :: x, p, t, h => by
    have hc : ¬ c = 10 := fun e => h (by rw [e]; exact List.mem_cons_self ..)
    have ih := linesA_ahead x (p ++ [c]) t (fun hm => h (List.mem_cons_of_mem _ hm))
    simp only [List.cons_append, linesA, if_neg hc, ih, List.append_assoc, List.nil_append]
theorem linesA_join : ∀ (l : List (List UInt8)), (∀ x ∈ l, (10 : UInt8) ∉ x) → linesA [] (joinL l) = l.map fun x => (x, true)
  | [], _ => rfl
  | x :: l, h => by
    rw [joinL, linesA_ahead x [] _ (h x (List.mem_cons_self ..)), linesA_join l (fun y hy => h y (List.mem_cons_of_mem _ hy))]
    rfl
theorem joinL_nil_iff {l : List (List UInt8)} : joinL l = [] ↔ l = [] := by
  cases l <;> simp [joinL]
end Go.Ink
