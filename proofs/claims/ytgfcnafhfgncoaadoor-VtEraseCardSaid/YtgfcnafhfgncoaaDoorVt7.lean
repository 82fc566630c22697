/- Erasing cell by cell, in plain Lean. No program in sight. -/
import Derived.Test.YtgfcnafhfgncoaaDoorVt3
namespace Go.Proofs.YtgfcnafhfgncoaaDoor
open Go

/-- Is the cell ahead of (i, j)? -/
def aheadB (i j r c : Nat) : Bool := decide (r < i) || (decide (r = i) && decide (c < j))
/-- What is erased when all cells ahead of (i, j) have been looked at. -/
def partW (t : Tm) (k i j : Nat) : List (List UInt8) := t.cells.mapIdx fun r l => l.mapIdx fun c x => if aheadB i j r c && eraseC k r c t.row t.col then 32 else x
theorem part_len (t : Tm) (k i j : Nat) : (partW t k i j).length = t.cells.length := by unfold partW; simp
theorem part_at (t : Tm) (k i j r : Nat) : (partW t k i j)[r]? = (t.cells[r]?).map fun l => l.mapIdx fun c x => if aheadB i j r c && eraseC k r c t.row t.col then 32 else x := by
  unfold partW; rw [List.getElem?_mapIdx]
theorem part_row_len (t : Tm) (hg : t.Good) (k i j r : Nat) {l : List UInt8} (h : (partW t k i j)[r]? = some l) : l.length = t.cols := by
  rw [part_at] at h
  cases hc : t.cells[r]? with
  | none => rw [hc] at h; cases h
  | some l0 =>
    rw [hc] at h
    injection h with h
    subst h
    rw [List.length_mapIdx]
    exact hg.each l0 (List.mem_of_getElem? hc)
/-- Two such grids are one, if they are cell by cell. -/
theorem part_eq (t : Tm) (hg : t.Good) (k i j i' j' : Nat) (h : ∀ r c, r < t.rows → c < t.cols → (aheadB i j r c && eraseC k r c t.row t.col) = (aheadB i' j' r c && eraseC k r c t.row t.col)) : partW t k i j = partW t k i' j' := by
  refine List.ext_getElem? fun r => ?_
  rw [part_at, part_at]
  cases hc : t.cells[r]? with
  | none => rfl
  | some l =>
    have hr : r < t.rows := by rw [← hg.many]; exact (List.getElem?_eq_some_iff.1 hc).1
    have hl := hg.each l (List.mem_of_getElem? hc)
    simp only [Option.map_some]
    refine congrArg some (List.ext_getElem? fun c => ?_)
    rw [List.getElem?_mapIdx, List.getElem?_mapIdx]
    by_cases hcl : c < l.length
    · rw [h r c hr (by omega)]
    · rw [List.getElem?_eq_none (by omega)]; rfl
theorem part_none (t : Tm) (k : Nat) : partW t k 0 0 = t.cells := by
  refine List.ext_getElem? fun r => ?_
  rw [part_at]
  cases hc : t.cells[r]? with
  | none => rfl
  | some l =>
    simp only [Option.map_some]
    rw [mapIdx_keep l (fun c => aheadB 0 0 r c && eraseC k r c t.row t.col) (fun c _ => by simp [aheadB])]
theorem part_all (t : Tm) (hg : t.Good) (k : Nat) : partW t k t.rows 0 = eraseW t k := by
  unfold eraseW
  refine List.ext_getElem? fun r => ?_
  rw [part_at, List.getElem?_mapIdx]
  cases hc : t.cells[r]? with
  | none => rfl
  | some l =>
    have hr : r < t.rows := by rw [← hg.many]; exact (List.getElem?_eq_some_iff.1 hc).1
    have e : ∀ c, aheadB t.rows 0 r c = true := fun c => by unfold aheadB; simp [hr]
    simp only [Option.map_some, e, Bool.true_and]
theorem part_row (t : Tm) (hg : t.Good) (k i : Nat) : partW t k i t.cols = partW t k (i + 1) 0 :=
  part_eq t hg k _ _ _ _ fun r c _ hc => by
    have : aheadB i t.cols r c = aheadB (i + 1) 0 r c := by unfold aheadB; rw [Bool.eq_iff_iff]; simp; omega
    rw [this]
theorem part_stay (t : Tm) (hg : t.Good) (k i j : Nat) (h : eraseC k i j t.row t.col = false) : partW t k i (j + 1) = partW t k i j :=
  part_eq t hg k _ _ _ _ fun r c _ _ => by
    by_cases e : r = i ∧ c = j
    · rw [e.1, e.2, h, Bool.and_false, Bool.and_false]
    · have : aheadB i (j + 1) r c = aheadB i j r c := by unfold aheadB; rw [Bool.eq_iff_iff]; simp; omega
      rw [this]
theorem part_set (t : Tm) (k i j : Nat) (h : eraseC k i j t.row t.col = true) {l : List UInt8} (hl : (partW t k i j)[i]? = some l) : partW t k i (j + 1) = (partW t k i j).set i (l.set j 32) := by
  refine List.ext_getElem? fun r => ?_
  by_cases e : i = r
  · subst e
    rw [List.getElem?_set_self (List.getElem?_eq_some_iff.1 hl).1]
    rw [part_at] at hl ⊢
    cases hc : t.cells[i]? with
    | none => rw [hc] at hl; cases hl
    | some l0 =>
      rw [hc] at hl
      injection hl with hl
      subst hl
      simp only [Option.map_some]
      refine congrArg some (List.ext_getElem? fun c => ?_)
      by_cases ec : j = c
      · subst ec
        rw [List.getElem?_mapIdx, List.getElem?_set]
        rw [if_pos rfl, List.length_mapIdx]
        have ea : aheadB i (j + 1) i j = true := by simp [aheadB]
        by_cases hj : j < l0.length
        · rw [if_pos hj, List.getElem?_eq_getElem hj, ea, h]; rfl
        · rw [if_neg hj, List.getElem?_eq_none (by omega)]; rfl
      · rw [List.getElem?_set_ne ec, List.getElem?_mapIdx, List.getElem?_mapIdx]
        have : aheadB i (j + 1) i c = aheadB i j i c := by unfold aheadB; rw [Bool.eq_iff_iff]; simp; omega
        rw [this]
  · rw [List.getElem?_set_ne e, part_at, part_at]
    have : ∀ c, aheadB i (j + 1) r c = aheadB i j r c := fun c => by unfold aheadB; rw [Bool.eq_iff_iff]; simp; omega
    simp only [this]
end Go.Proofs.YtgfcnafhfgncoaaDoor
