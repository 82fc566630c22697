/- The first place where a test says yes. No program in sight. -/
import Derived.Test.YthcdhfgoaaiciaaGreatDoorBase
set_option linter.unusedVariables false
set_option linter.unusedSimpArgs false
namespace Go.Proofs.YthcdhfgoaaiciaaGreatDoor
open Go Go.Proofs Go.RowKit Go.Ink

def idxI (o : Option Nat) : Int := match o with | some i => i | none => -1
theorem findIdx_at {α : Type} {p : α → Bool} {l : List α} {k : Nat} {x : α} (hk : l[k]? = some x) (hx : p x = true) (hno : ∀ (j : Nat) y, j < k → l[j]? = some y → p y = false) : l.findIdx? p = some k := by
  rw [List.findIdx?_eq_some_iff_getElem]
  obtain ⟨hlt, he⟩ := List.getElem?_eq_some_iff.1 hk
  refine ⟨hlt, by rw [he]; exact hx, fun j hj => ?_⟩
  simp [hno j _ hj (List.getElem?_eq_getElem (by omega))]
theorem findIdx_no {α : Type} {p : α → Bool} {l : List α} {k : Nat} (hk : l.length ≤ k) (hno : ∀ (j : Nat) y, j < k → l[j]? = some y → p y = false) : l.findIdx? p = none := by
  rw [List.findIdx?_eq_none_iff]
  intro x hx
  obtain ⟨i, hi, rfl⟩ := List.mem_iff_getElem.1 hx
  exact hno i _ (by omega) (List.getElem?_eq_getElem hi)
def Hno {α : Type} (p : α → Bool) (l : List α) (k : Nat) : Prop := ∀ (j : Nat) y, j < k → l[j]? = some y → p y = false
theorem Hno.next {α : Type} {p : α → Bool} {l : List α} {k : Nat} {x : α} (h : Hno p l k) (hk : l[k]? = some x) (hx : p x = false) : Hno p l (k + 1) := by
  intro j y hj hy
  by_cases e : j = k
  · subst e; rw [hk] at hy; cases hy; exact hx
  · exact h j y (by omega) hy

theorem idxI_any {α : Type} (p : α → Bool) (l : List α) : decide (0 ≤ idxI (l.findIdx? p)) = l.any p := by
  cases h : l.findIdx? p with
  | none => rw [List.findIdx?_eq_none_iff] at h; simp only [idxI]; symm; simp; intro x hx; simpa using h x hx
  | some i =>
    rw [List.findIdx?_eq_some_iff_getElem] at h
    obtain ⟨hi, hp, _⟩ := h
    simp only [idxI]
    symm
    simp only [Int.natCast_nonneg, decide_true, List.any_eq_true]
    exact ⟨_, List.getElem_mem hi, hp⟩

end Go.Proofs.YthcdhfgoaaiciaaGreatDoor
