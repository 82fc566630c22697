/- A terminal, in plain Lean (chapter 13). No program in sight. -/
import Derived.Lib.ItoaNum
namespace Go.Proofs.YtcgaaadcbhkfoaaGreatDoor
open Go

/-- What is shown, and what of an escape is there: esc 0: none has begun; 1: behind 27; 2: behind the bracket. -/
structure Tm where
  rows : Nat
  cols : Nat
  cells : List (List UInt8)
  row : Nat
  col : Nat
  esc : Nat
  par : List UInt8
def blankL (n : Nat) : List UInt8 := List.replicate n 32
def Tm.start (rows cols : Nat) : Tm := ⟨rows, cols, List.replicate rows (blankL cols), 0, 0, 0, []⟩
def Tm.down (t : Tm) : Tm := if t.row + 1 < t.rows then { t with row := t.row + 1 } else { t with cells := t.cells.drop 1 ++ [blankL t.cols] }
def Tm.putAt (t : Tm) (c : UInt8) : List (List UInt8) := t.cells.set t.row ((t.cells.getD t.row []).set t.col c)
/-- A byte that is no part of an escape. -/
def Tm.plain (t : Tm) (c : UInt8) : Tm :=
  if c = 13 then { t with col := 0 } else if c = 8 then { t with col := t.col - 1 } else if c = 10 then t.down
  else if 32 ≤ c ∧ c ≤ 126 then { t with cells := t.putAt c, col := min (t.col + 1) (t.cols - 1) } else t
/-- The numbers of parameters; -1: one that is missing. -/
def numsT : List UInt8 → Int → Option (List Int)
  | [], cur => some [cur]
  | c :: s, cur => if c = 59 then (numsT s (-1)).map (cur :: ·) else if 48 ≤ c ∧ c ≤ 57 then numsT s (min (max cur 0 * 10 + ((c.toNat : Int) - 48)) 9999) else none
/-- A row from a place on is blank. -/
def wipeFrom (l : List UInt8) (k : Nat) : List UInt8 := l.take k ++ blankL (l.length - k)
/-- Cells that are erased: of the row (below: and of all rows behind it), from the cursor on (0), or all (2). -/
def Tm.erase (t : Tm) (below : Bool) (how : Int) : Tm :=
  if how ≠ 0 ∧ how ≠ 2 then t
  else if below = true ∧ how = 2 then { t with cells := t.cells.map fun l => blankL l.length }
  else { t with cells := (t.cells.set t.row (wipeFrom (t.cells.getD t.row []) (if how = 2 then 0 else t.col))).take (t.row + 1) ++ (if below = true then (t.cells.drop (t.row + 1)).map fun l => blankL l.length else t.cells.drop (t.row + 1)) }
def Tm.command (t : Tm) (c : UInt8) (l : List Int) : Tm :=
  if 2 < l.length ∨ (1 < l.length ∧ c ≠ 72) then t
  else
    let a := l.getD 0 (-1)
    let n := (max a 1).toNat
    let m := (max (l.getD 1 (-1)) 1).toNat
    if c = 72 then { t with row := min n t.rows - 1, col := min m t.cols - 1 }
    else if c = 65 then { t with row := t.row - n }
    else if c = 66 then { t with row := min (t.row + n) (t.rows - 1) }
    else if c = 67 then { t with col := min (t.col + n) (t.cols - 1) }
    else if c = 68 then { t with col := t.col - n }
    else if c = 74 then t.erase true (max a 0)
    else if c = 75 then t.erase false (max a 0)
    else t
def Tm.byte (t : Tm) (c : UInt8) : Tm :=
  if c = 27 then { t with esc := 1, par := [] }
  else if t.esc = 0 then t.plain c
  else if t.esc = 1 then { t with esc := if c = 91 then 2 else 0 }
  else if 32 ≤ c ∧ c ≤ 63 then { t with par := t.par ++ [c] }
  else if 64 ≤ c ∧ c ≤ 126 then (match numsT t.par (-1) with
    | none => { t with esc := 0 }
    | some l => ({ t with esc := 0 } : Tm).command c l)
  else { t with esc := 0 }
def Tm.feed (t : Tm) (s : List UInt8) : Tm := s.foldl Tm.byte t
theorem Tm.feed_append (t : Tm) (a b : List UInt8) : t.feed (a ++ b) = (t.feed a).feed b := by unfold Tm.feed; rw [List.foldl_append]

/-- What a terminal that shows something is. -/
structure Tm.Good (t : Tm) : Prop where
  rows : 2 ≤ t.rows ∧ t.rows ≤ 60
  cols : 8 ≤ t.cols ∧ t.cols ≤ 132
  many : t.cells.length = t.rows
  each : ∀ l ∈ t.cells, l.length = t.cols
  cell : ∀ l ∈ t.cells, ∀ c ∈ l, 32 ≤ c ∧ c ≤ 126
  row : t.row < t.rows
  col : t.col < t.cols
theorem Tm.Good.start {rows cols : Nat} (h1 : 2 ≤ rows ∧ rows ≤ 60) (h2 : 8 ≤ cols ∧ cols ≤ 132) : (Tm.start rows cols).Good := by
  refine ⟨h1, h2, by simp [Tm.start], fun l hl => ?_, fun l hl c hc => ?_, by simp only [Tm.start]; omega, by simp only [Tm.start]; omega⟩
  · simp only [Tm.start, List.mem_replicate] at hl ⊢
    rw [hl.2]; simp [blankL]
  · simp only [Tm.start, List.mem_replicate] at hl
    rw [hl.2] at hc
    simp only [blankL, List.mem_replicate] at hc
    rw [hc.2]
    exact ⟨by decide, by decide⟩
theorem blankL_cell {n : Nat} {c : UInt8} (h : c ∈ blankL n) : 32 ≤ c ∧ c ≤ 126 := by
  simp only [blankL, List.mem_replicate] at h
  rw [h.2]; exact ⟨by decide, by decide⟩
theorem Tm.Good.down {t : Tm} (h : t.Good) : t.down.Good := by
  unfold Tm.down
  split
  · rename_i hr
    exact ⟨h.rows, h.cols, h.many, h.each, h.cell, hr, h.col⟩
  · refine ⟨h.rows, h.cols, ?_, ?_, ?_, h.row, h.col⟩
    · simp only [List.length_append, List.length_drop, List.length_singleton]
      have := h.many; have := h.rows; omega
    · intro l hl
      simp only [List.mem_append, List.mem_singleton] at hl
      rcases hl with hl | rfl
      · exact h.each l (List.mem_of_mem_drop hl)
      · simp [blankL]
    · intro l hl c hc
      simp only [List.mem_append, List.mem_singleton] at hl
      rcases hl with hl | rfl
      · exact h.cell l (List.mem_of_mem_drop hl) c hc
      · exact blankL_cell hc
/-- Rows that are set to others of the same length. -/
theorem Tm.Good.set {t : Tm} (h : t.Good) (k : Nat) (l : List UInt8) (h1 : l.length = t.cols) (h2 : ∀ c ∈ l, 32 ≤ c ∧ c ≤ 126) : ({ t with cells := t.cells.set k l } : Tm).Good := by
  refine ⟨h.rows, h.cols, by simp [h.many], fun x hx => ?_, fun x hx c hc => ?_, h.row, h.col⟩
  · rcases List.mem_or_eq_of_mem_set hx with hx | rfl
    · exact h.each x hx
    · exact h1
  · rcases List.mem_or_eq_of_mem_set hx with hx | rfl
    · exact h.cell x hx c hc
    · exact h2 c hc
theorem Tm.Good.at {t : Tm} (h : t.Good) {l : List UInt8} (h1 : t.cells.getD t.row [] = l) : l ∈ t.cells := by
  rw [← h1, List.getD_eq_getElem?_getD, List.getElem?_eq_getElem (by have := h.many; have := h.row; omega)]
  exact List.getElem_mem _
theorem Tm.Good.plain {t : Tm} (h : t.Good) (c : UInt8) : (t.plain c).Good := by
  unfold Tm.plain
  have hc := h.cols
  split
  · exact ⟨h.rows, h.cols, h.many, h.each, h.cell, h.row, by simp only; omega⟩
  · split
    · exact ⟨h.rows, h.cols, h.many, h.each, h.cell, h.row, by have := h.col; simp only; omega⟩
    · split
      · exact h.down
      · split
        · rename_i hp
          have hm := h.at rfl
          have h1 := h.set t.row ((t.cells.getD t.row []).set t.col c) (by rw [List.length_set]; exact h.each _ hm) (fun d hd => by
            rcases List.mem_or_eq_of_mem_set hd with hd | rfl
            · exact h.cell _ hm d hd
            · exact hp)
          exact ⟨h1.rows, h1.cols, h1.many, h1.each, h1.cell, h1.row, by simp only; omega⟩
        · exact h
theorem wipeFrom_len (l : List UInt8) (k : Nat) : (wipeFrom l k).length = l.length := by
  unfold wipeFrom blankL
  rw [List.length_append, List.length_take, List.length_replicate]; omega
theorem wipeFrom_cell {l : List UInt8} {k : Nat} (h : ∀ c ∈ l, 32 ≤ c ∧ c ≤ 126) : ∀ c ∈ wipeFrom l k, 32 ≤ c ∧ c ≤ 126 := by
  intro c hc
  unfold wipeFrom at hc
  rcases List.mem_append.1 hc with hc | hc
  · exact h c (List.mem_of_mem_take hc)
  · exact blankL_cell hc
theorem Tm.Good.erase {t : Tm} (h : t.Good) (below : Bool) (how : Int) : (t.erase below how).Good := by
  unfold Tm.erase
  split
  · exact h
  · split
    · refine ⟨h.rows, h.cols, by simp [h.many], fun l hl => ?_, fun l hl c hc => ?_, h.row, h.col⟩
      · simp only [List.mem_map] at hl
        obtain ⟨x, hx, rfl⟩ := hl
        simp only [blankL, List.length_replicate]
        exact h.each x hx
      · simp only [List.mem_map] at hl
        obtain ⟨x, hx, rfl⟩ := hl
        exact blankL_cell hc
    · have hm := h.at rfl
      have h1 := h.set t.row (wipeFrom (t.cells.getD t.row []) (if how = 2 then 0 else t.col)) (by rw [wipeFrom_len]; exact h.each _ hm) (wipeFrom_cell (h.cell _ hm))
      have hmany := h.many
      have hrow := h.row
      refine ⟨h.rows, h.cols, ?_, fun l hl => ?_, fun l hl c hc => ?_, h.row, h.col⟩
      · simp only [List.length_append, List.length_take, List.length_set]
        split <;> simp only [List.length_map, List.length_drop] <;> omega
      · rcases List.mem_append.1 hl with hl | hl
        · exact h1.each l (List.mem_of_mem_take hl)
        · split at hl
          · simp only [List.mem_map] at hl
            obtain ⟨x, hx, rfl⟩ := hl
            simp only [blankL, List.length_replicate]
            exact h.each x (List.mem_of_mem_drop hx)
          · exact h.each l (List.mem_of_mem_drop hl)
      · rcases List.mem_append.1 hl with hl | hl
        · exact h1.cell l (List.mem_of_mem_take hl) c hc
        · split at hl
          · simp only [List.mem_map] at hl
            obtain ⟨x, hx, rfl⟩ := hl
            exact blankL_cell hc
          · exact h.cell l (List.mem_of_mem_drop hl) c hc
theorem Tm.Good.move {t : Tm} (h : t.Good) {r c : Nat} (hr : r < t.rows) (hc : c < t.cols) : ({ t with row := r, col := c } : Tm).Good := ⟨h.rows, h.cols, h.many, h.each, h.cell, hr, hc⟩
theorem Tm.Good.esc {t : Tm} (h : t.Good) (e : Nat) (p : List UInt8) : ({ t with esc := e, par := p } : Tm).Good := ⟨h.rows, h.cols, h.many, h.each, h.cell, h.row, h.col⟩
theorem Tm.Good.command {t : Tm} (h : t.Good) (c : UInt8) (l : List Int) : (t.command c l).Good := by
  have h1 := h.rows
  have h2 := h.cols
  have h3 := h.row
  have h4 := h.col
  unfold Tm.command
  split
  · exact h
  · simp only
    repeat' split
    · exact h.move (by omega) (by omega)
    · exact h.move (by omega) h4
    · exact h.move (by omega) h4
    · exact h.move h3 (by omega)
    · exact h.move h3 (by omega)
    · exact h.erase _ _
    · exact h.erase _ _
    · exact h
theorem Tm.Good.byte {t : Tm} (h : t.Good) (c : UInt8) : (t.byte c).Good := by
  unfold Tm.byte
  repeat' split
  · exact h.esc _ _
  · exact h.plain c
  · exact h.esc _ t.par
  · exact h.esc _ t.par
  · exact h.esc t.esc _
  · exact h.esc _ t.par
  · exact (h.esc 0 t.par).command c _
  · exact h.esc _ t.par
theorem Tm.Good.feed {t : Tm} (h : t.Good) (s : List UInt8) : (t.feed s).Good := by
  induction s generalizing t with
  | nil => exact h
  | cons c s ih => exact ih (h.byte c)
end Go.Proofs.YtcgaaadcbhkfoaaGreatDoor
