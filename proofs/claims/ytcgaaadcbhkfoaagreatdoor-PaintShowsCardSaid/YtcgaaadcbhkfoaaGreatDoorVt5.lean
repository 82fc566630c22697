/- The reference's erasing, and what both terminals make of a byte, in plain Lean (chapter 13). No program in sight. -/
import Derived.Test.YtcgaaadcbhkfoaaGreatDoorVt4
namespace Go.Proofs.YtcgaaadcbhkfoaaGreatDoor
open Go

/-- Cells that are wiped where f says so. -/
def wipeF (cells : List (List UInt8)) (f : Nat → Nat → Bool) : List (List UInt8) := cells.mapIdx fun i l => l.mapIdx fun j c => if f i j then 32 else c
theorem wipeF_at (cells : List (List UInt8)) (f : Nat → Nat → Bool) (i j : Nat) : ((wipeF cells f)[i]?.bind fun l => l[j]?) = (cells[i]?.bind fun l => l[j]?).map fun c => if f i j then 32 else c := by
  unfold wipeF
  rw [List.getElem?_mapIdx]
  cases cells[i]? with
  | none => rfl
  | some l =>
    simp only [Option.map_some, Option.bind_some]
    rw [List.getElem?_mapIdx]
theorem wipeF_len (cells : List (List UInt8)) (f : Nat → Nat → Bool) : (wipeF cells f).length = cells.length := by unfold wipeF; simp
theorem wipeF_congr {cells : List (List UInt8)} {f g : Nat → Nat → Bool} (n : Nat) (hn : ∀ l ∈ cells, l.length = n) (h : ∀ i j, i < cells.length → j < n → f i j = g i j) : wipeF cells f = wipeF cells g := by
  unfold wipeF
  refine List.ext_getElem? fun i => ?_
  rw [List.getElem?_mapIdx, List.getElem?_mapIdx]
  by_cases hi : i < cells.length
  · rw [List.getElem?_eq_getElem hi]
    simp only [Option.map_some, Option.some.injEq]
    have hl := hn _ (List.getElem_mem hi)
    refine List.ext_getElem? fun j => ?_
    rw [List.getElem?_mapIdx, List.getElem?_mapIdx]
    by_cases hj : j < cells[i].length
    · rw [List.getElem?_eq_getElem hj, h i j hi (by omega)]
    · rw [List.getElem?_eq_none (by omega)]; rfl
  · rw [List.getElem?_eq_none (by omega)]; rfl
theorem eraseW_eq (t : Tm) (k : Nat) : eraseW t k = wipeF t.cells fun i j => eraseC k i j t.row t.col := rfl
/-- Cells from one up to another one, row by row. -/
def inR (cols a b i j : Nat) : Bool := decide (a ≤ i * cols + j) && decide (i * cols + j < b)
theorem wipeF_none (cells : List (List UInt8)) (f : Nat → Nat → Bool) (h : ∀ i j, f i j = false) : wipeF cells f = cells := by
  unfold wipeF
  refine List.ext_getElem? fun i => ?_
  rw [List.getElem?_mapIdx]
  cases hc : cells[i]? with
  | none => rfl
  | some l =>
    simp only [Option.map_some]
    rw [mapIdx_keep _ _ (fun j _ => h i j)]
theorem row_lt {cols i k j : Nat} (h : i < k) (hj : j < cols) : i * cols + j < k * cols := by
  have : (i + 1) * cols ≤ k * cols := Nat.mul_le_mul_right _ h
  rw [Nat.add_mul, Nat.one_mul] at this
  omega
theorem row_le {cols i k j : Nat} (h : k < i) : k * cols + cols ≤ i * cols + j := by
  have : (k + 1) * cols ≤ i * cols := Nat.mul_le_mul_right _ h
  rw [Nat.add_mul, Nat.one_mul] at this
  omega
/-- The reference's four ways to erase are the chapter's. -/
theorem erase_J0 (t : Tm) (hg : t.Good) : wipeF t.cells (inR t.cols (t.row * t.cols + t.col) (t.rows * t.cols)) = eraseW t 0 := by
  rw [eraseW_eq]
  refine wipeF_congr t.cols hg.each fun i j hi hj => ?_
  have hm := hg.many
  have hc := hg.col
  have h1 := row_lt (cols := t.cols) (j := j) (show i < t.rows by omega) hj
  unfold inR eraseC
  rcases Nat.lt_trichotomy i t.row with h | h | h
  · have := row_lt (cols := t.cols) (j := j) h hj
    rw [Bool.eq_iff_iff]; simp; omega
  · subst h
    rw [Bool.eq_iff_iff]; simp; omega
  · have := row_le (cols := t.cols) (j := j) h
    rw [Bool.eq_iff_iff]; simp; omega
theorem erase_J2 (t : Tm) (hg : t.Good) : wipeF t.cells (inR t.cols 0 (t.rows * t.cols)) = eraseW t 2 := by
  rw [eraseW_eq]
  refine wipeF_congr t.cols hg.each fun i j hi hj => ?_
  have hm := hg.many
  have h1 := row_lt (cols := t.cols) (j := j) (show i < t.rows by omega) hj
  unfold inR eraseC
  rw [Bool.eq_iff_iff]; simp; omega
theorem erase_K0 (t : Tm) (hg : t.Good) : wipeF t.cells (inR t.cols (t.row * t.cols + t.col) (t.row * t.cols + t.cols)) = eraseW t 3 := by
  rw [eraseW_eq]
  refine wipeF_congr t.cols hg.each fun i j hi hj => ?_
  have hc := hg.col
  unfold inR eraseC
  rcases Nat.lt_trichotomy i t.row with h | h | h
  · have := row_lt (cols := t.cols) (j := j) h hj
    rw [Bool.eq_iff_iff]; simp; omega
  · subst h
    rw [Bool.eq_iff_iff]; simp; omega
  · have := row_le (cols := t.cols) (j := j) h
    rw [Bool.eq_iff_iff]; simp; omega
theorem erase_K2 (t : Tm) (hg : t.Good) : wipeF t.cells (inR t.cols (t.row * t.cols) (t.row * t.cols + t.cols)) = eraseW t 5 := by
  rw [eraseW_eq]
  refine wipeF_congr t.cols hg.each fun i j hi hj => ?_
  unfold inR eraseC
  rcases Nat.lt_trichotomy i t.row with h | h | h
  · have := row_lt (cols := t.cols) (j := j) h hj
    rw [Bool.eq_iff_iff]; simp; omega
  · subst h
    rw [Bool.eq_iff_iff]; simp; omega
  · have := row_le (cols := t.cols) (j := j) h
    rw [Bool.eq_iff_iff]; simp; omega
/-- What erase leaves, in these words. -/
theorem erase_is (t : Tm) (hg : t.Good) (below : Bool) (how : Int) : t.erase below how = { t with cells := if how = 0 then (if below then eraseW t 0 else eraseW t 3) else if how = 2 then (if below then eraseW t 2 else eraseW t 5) else t.cells } := by
  have hc := hg.col
  by_cases h0 : how = 0
  · subst h0
    unfold Tm.erase
    rw [if_neg (by omega), if_neg (by omega), if_pos rfl]
    cases below with
    | true =>
      rw [erase_rows t hg true t.col (by omega) 0 (fun j _ => by simp [eraseC]) (fun i j h => by simp [eraseC]; omega) (fun i j h => by simp [eraseC]; omega)]
      simp
    | false =>
      rw [erase_rows t hg false t.col (by omega) 3 (fun j _ => by simp [eraseC]) (fun i j h => by simp [eraseC]; omega) (fun i j h => by simp [eraseC]; omega)]
      simp
  · by_cases h2 : how = 2
    · subst h2
      unfold Tm.erase
      rw [if_neg (by omega), if_neg (show ¬ (2 : Int) = 0 by decide), if_pos rfl]
      cases below with
      | true => rw [if_pos ⟨rfl, rfl⟩, if_pos rfl, erase_all, if_pos rfl]
      | false =>
        rw [if_neg (by simp), if_neg (by simp)]
        rw [erase_rows t hg false 0 (by omega) 5 (fun j _ => by simp [eraseC]) (fun i j h => by simp [eraseC]; omega) (fun i j h => by simp [eraseC]; omega)]
        simp
    · unfold Tm.erase
      rw [if_pos ⟨h0, h2⟩, if_neg h0, if_neg h2]
/-- One cell more is wiped. -/
theorem wipeF_next (cells : List (List UInt8)) (cols a k : Nat) (hn : ∀ l ∈ cells, l.length = cols) (hc : 0 < cols) (hk : k < cells.length * cols) (hak : a ≤ k) :
    wipeF cells (inR cols a (k + 1)) = (wipeF cells (inR cols a k)).set (k / cols) (((wipeF cells (inR cols a k)).getD (k / cols) []).set (k % cols) 32) := by
  have hi : k / cols < cells.length := Nat.div_lt_of_lt_mul (by rw [Nat.mul_comm]; exact hk)
  have hj : k % cols < cols := Nat.mod_lt _ hc
  have hkk : k / cols * cols + k % cols = k := by rw [Nat.mul_comm]; exact Nat.div_add_mod k cols
  refine List.ext_getElem? fun i => ?_
  have hL : (wipeF cells (inR cols a k))[k / cols]? = some (cells[k / cols].mapIdx fun j c => if inR cols a k (k / cols) j then 32 else c) := by
    unfold wipeF; rw [List.getElem?_mapIdx, List.getElem?_eq_getElem hi]; rfl
  rw [List.getD_eq_getElem?_getD, hL, Option.getD_some]
  by_cases e : k / cols = i
  · subst e
    rw [List.getElem?_set_self (by rw [wipeF_len]; exact hi)]
    unfold wipeF
    rw [List.getElem?_mapIdx, List.getElem?_eq_getElem hi]
    simp only [Option.map_some, Option.some.injEq]
    have hl := hn _ (List.getElem_mem hi)
    refine List.ext_getElem? fun j => ?_
    rw [List.getElem?_mapIdx]
    by_cases ej : k % cols = j
    · subst ej
      rw [List.getElem?_set_self (by rw [List.length_mapIdx]; omega), List.getElem?_eq_getElem (by omega)]
      simp only [Option.map_some]
      rw [if_pos]
      unfold inR
      rw [hkk]; simp; omega
    · rw [List.getElem?_set_ne ej, List.getElem?_mapIdx]
      by_cases hjl : j < cells[k / cols].length
      · rw [List.getElem?_eq_getElem hjl]
        simp only [Option.map_some]
        have : inR cols a (k + 1) (k / cols) j = inR cols a k (k / cols) j := by
          unfold inR
          rw [Bool.eq_iff_iff]; simp; omega
        rw [this]
      · rw [List.getElem?_eq_none (by omega)]; rfl
  · rw [List.getElem?_set_ne e]
    unfold wipeF
    rw [List.getElem?_mapIdx, List.getElem?_mapIdx]
    by_cases hil : i < cells.length
    · rw [List.getElem?_eq_getElem hil]
      simp only [Option.map_some, Option.some.injEq]
      have hl := hn _ (List.getElem_mem hil)
      refine List.ext_getElem? fun j => ?_
      rw [List.getElem?_mapIdx, List.getElem?_mapIdx]
      by_cases hjl : j < cells[i].length
      · rw [List.getElem?_eq_getElem hjl]
        simp only [Option.map_some]
        have hne : i * cols + j ≠ k := by
          intro h
          apply e
          rw [← h, Nat.mul_comm, Nat.mul_add_div hc, Nat.div_eq_of_lt (by omega), Nat.add_zero]
        have : inR cols a (k + 1) i j = inR cols a k i j := by
          unfold inR
          rw [Bool.eq_iff_iff]; simp; omega
        rw [this]
      · rw [List.getElem?_eq_none (by omega)]; rfl
    · rw [List.getElem?_eq_none (by omega)]; rfl
end Go.Proofs.YtcgaaadcbhkfoaaGreatDoor
