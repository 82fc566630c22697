/- What paint.Diff answers, as a function of the two grids, and how long it is. -/
import Derived.Test.YtcgaaadcbhkfoaaGreatDoorPaint3
import Derived.Test.YtcgaaadcbhkfoaaGreatDoorCheck
namespace Go.Proofs.YtcgaaadcbhkfoaaGreatDoor
open Go Go.Proofs Go.RowKit Go.Ink

theorem lastTo_le (f t : List UInt8) (a : Nat) : ∀ k, lastTo f t a k ≤ k
  | 0 => Nat.le_refl _
  | k + 1 => by unfold lastTo; split; have := lastTo_le f t a k; omega; omega
theorem rowS_len (at' : Int) (f t : List UInt8) : (rowS at' f t).length ≤ t.length + 15 := by
  have h1 := goS_le at' (firstD f t)
  unfold rowS
  split
  · simp
  · split
    · simp; omega
    · simp; omega
/-- What Diff writes for the first k rows. -/
def rowsTo (f t : List (List UInt8)) : Nat → List UInt8
  | 0 => []
  | k + 1 => rowsTo f t k ++ rowS k (f.getD k []) (t.getD k [])
def diffBody (f t : Grd) : List UInt8 :=
  rowsTo f.cells t.cells t.cells.length ++ if decide (0 < (rowsTo f.cells t.cells t.cells.length).length) || (f.row != t.row) || (f.col != t.col) then goS t.row t.col else []
def diffOk (f t : Grd) : Bool := t.ok && f.ok && !(f.rows != t.rows) && !(f.cols != t.cols)
def diffS (f t : Grd) : List UInt8 := if diffOk f t then diffBody f t else []
theorem Grd.ok_rows {g : Grd} (h : g.ok = true) : (g.cells.length : Int) = g.rows ∧ 2 ≤ g.rows ∧ g.rows ≤ 60 ∧ 8 ≤ g.cols ∧ g.cols ≤ 132 ∧ 0 ≤ g.row ∧ g.row < g.rows ∧ 0 ≤ g.col ∧ g.col < g.cols := by
  unfold Grd.ok sizedB inB at h
  simp at h
  omega
theorem Grd.ok_row {g : Grd} (h : g.ok = true) {k : Nat} {l : List UInt8} (hk : g.cells[k]? = some l) : (l.length : Int) = g.cols ∧ ∀ c ∈ l, 32 ≤ c ∧ c ≤ 126 := by
  unfold Grd.ok at h
  simp only [Bool.and_eq_true, Bool.not_eq_true', List.any_eq_false] at h
  have h1 := h.2 l (List.mem_of_getElem? hk)
  unfold wrongB at h1
  simp only [Bool.or_eq_true, not_or, bne_iff_ne, ne_eq, Decidable.not_not, List.any_eq_true, not_exists, not_and] at h1
  refine ⟨h1.1, fun c hc => ?_⟩
  have := h1.2 c hc
  unfold oddB at this
  simp only [Bool.or_eq_true, decide_eq_true_eq, not_or, UInt8.not_lt] at this
  exact ⟨this.1, this.2⟩
theorem rowsTo_len {f t : List (List UInt8)} {n : Nat} (ht : ∀ (k : Nat) (l : List UInt8), t[k]? = some l → l.length ≤ n) : ∀ k, (rowsTo f t k).length ≤ k * (n + 15)
  | 0 => by simp [rowsTo]
  | k + 1 => by
    have h1 := rowsTo_len (f := f) ht k
    have h2 := rowS_len k (f.getD k []) (t.getD k [])
    have h3 : (t.getD k []).length ≤ n := by
      rw [List.getD_eq_getElem?_getD]
      cases h : t[k]? with
      | none => simp
      | some l => exact ht k l h
    simp only [rowsTo, List.length_append, Nat.succ_mul]
    omega
theorem rowsTo_le {f t : Grd} (ht : t.ok = true) (k : Nat) (hk : k ≤ t.cells.length) : (rowsTo f.cells t.cells k).length ≤ 8820 := by
  have h1 := Grd.ok_rows ht
  have h2 := rowsTo_len (f := f.cells) (t := t.cells) (n := 132) (fun k l h => by have := (Grd.ok_row ht h).1; omega) k
  have : k * (132 + 15) ≤ 60 * (132 + 15) := Nat.mul_le_mul_right _ (by omega)
  omega
end Go.Proofs.YtcgaaadcbhkfoaaGreatDoor
