/- What a table of pieces comes to, in plain Lean. No program in sight. -/
import Derived.Test.YtlcjjcmfpmflcaaGreatDoorSpl1
set_option linter.unusedVariables false
set_option linter.unusedSimpArgs false
namespace Go.Proofs.YtlcjjcmfpmflcaaGreatDoor
open Go

/-- The pieces of the lines behind the first fr ones, up to the first to ones; pos lines stand ahead. -/
def partsS : List (List Line) → Int → Int → Int → List (List Line)
  | [], _, _, _ => []
  | p :: ps, fr, to, pos => (if max (fr - pos) 0 < min (to - pos) (p.length : Int) then [(p.drop (max (fr - pos) 0).toNat).take ((min (to - pos) (p.length : Int)).toNat - (max (fr - pos) 0).toNat)] else []) ++ partsS ps fr to (pos + p.length)

theorem partsS_flat : ∀ (ps : List (List Line)) (fr to pos : Int), (partsS ps fr to pos).flatten = (ps.flatten.drop (max (fr - pos) 0).toNat).take ((to - pos).toNat - (max (fr - pos) 0).toNat)
  | [], fr, to, pos => by simp [partsS]
  | p :: ps, fr, to, pos => by
    unfold partsS
    rw [List.flatten_append, partsS_flat ps fr to (pos + p.length), List.flatten_cons]
    generalize ps.flatten = q
    obtain ⟨a, ha⟩ : ∃ a : Nat, a = (max (fr - pos) 0).toNat := ⟨_, rfl⟩
    obtain ⟨b, hb⟩ : ∃ b : Nat, b = (to - pos).toNat := ⟨_, rfl⟩
    have e1 : (max (fr - (pos + p.length)) 0).toNat = a - p.length := by omega
    have e2 : (to - (pos + p.length)).toNat = b - p.length := by omega
    have e3 : (max (fr - pos) 0).toNat = a := ha.symm
    have e4 : (to - pos).toNat = b := hb.symm
    rw [e1, e2, e3, e4]
    by_cases h : max (fr - pos) 0 < min (to - pos) (p.length : Int)
    · have e5 : (min (to - pos) (p.length : Int)).toNat = min b p.length := by omega
      rw [if_pos h, e5, List.flatten_cons, List.flatten_nil, List.append_nil]
      have h1 : a ≤ p.length := by omega
      rw [show a - p.length = 0 by omega, List.drop_zero, List.drop_append_of_le_length h1, List.take_append, List.length_drop]
      congr 1
      · by_cases hbp : b ≤ p.length
        · rw [Nat.min_eq_left hbp]
        · rw [List.take_of_length_le (by rw [List.length_drop]; omega), List.take_of_length_le (by rw [List.length_drop]; omega)]
      · congr 1; omega
    · rw [if_neg h, List.flatten_nil, List.nil_append, List.drop_append, List.take_append]
      have : (p.drop a).take (b - a) = [] := by
        rcases Nat.lt_or_ge a p.length with h1 | h1
        · have : b ≤ a := by omega
          rw [show b - a = 0 by omega, List.take_zero]
        · rw [List.drop_eq_nil_of_le h1, List.take_nil]
      rw [this, List.nil_append, List.length_drop]
      congr 1
      omega

/-- The pieces of a table: those that are not empty. -/
def ofS (l : List (List Line)) : List (List Line) := l.filter fun p => decide (0 < p.length)
theorem ofS_flat : ∀ l : List (List Line), (ofS l).flatten = l.flatten
  | [] => rfl
  | p :: l => by
    unfold ofS
    rw [List.filter_cons]
    split
    · rw [List.flatten_cons, List.flatten_cons]; congr 1; exact ofS_flat l
    · rename_i h
      have : p = [] := List.eq_nil_of_length_eq_zero (by simpa using h)
      subst this
      rw [List.flatten_cons, List.nil_append]; exact ofS_flat l
/-- How many lines. -/
def manyS : List (List Line) → Nat
  | [] => 0
  | p :: l => p.length + manyS l
theorem manyS_flat : ∀ l : List (List Line), manyS l = l.flatten.length
  | [] => rfl
  | p :: l => by unfold manyS; rw [manyS_flat l, List.flatten_cons, List.length_append]

/-- The error of a splice in a table. -/
def tabErr (many : Nat) (s : Spl) : Int :=
  if s.pos < 0 ∨ s.del < 0 ∨ (many : Int) < s.pos ∨ (many : Int) - s.pos < s.del ∨ checkL s.ins = 2 then 2 else if checkL s.ins ≠ 0 ∨ 2000 < (many : Int) - s.del + s.ins.length then 3 else 0
def tabSpl (ps : List (List Line)) (s : Spl) : List (List Line) := ofS (partsS ps 0 s.pos 0 ++ [s.ins] ++ partsS ps (s.pos + s.del) (manyS ps) 0)
theorem tabErr_iff (l : List Line) (s : Spl) : tabErr l.length s = 0 ↔ (doneS l s).2 = 0 := by
  constructor
  · intro h
    unfold tabErr at h
    split at h
    · cases h
    · rename_i h1
      split at h
      · cases h
      · rename_i h2
        simp only [not_or, Decidable.not_not] at h1 h2
        have hc : checkS s = 0 := by unfold checkS; rw [if_neg (by omega)]; exact h2.1
        rw [doneS_of hc (by omega) (by omega)]
  · intro h
    obtain ⟨h1, h2, h3, h4, h5, _⟩ := doneS_ok h
    obtain ⟨_, _, h6⟩ := checkS_ok h1
    unfold tabErr
    rw [if_neg (by rw [h6]; omega), if_neg (by rw [h6]; omega)]
theorem tabSpl_flat {ps : List (List Line)} {s : Spl} (h : (doneS ps.flatten s).2 = 0) : (tabSpl ps s).flatten = (doneS ps.flatten s).1 := by
  obtain ⟨h1, h2, h3, h4, h5, h6⟩ := doneS_ok h
  unfold tabSpl
  rw [ofS_flat, List.flatten_append, List.flatten_append, partsS_flat, partsS_flat, h6, manyS_flat]
  generalize ps.flatten = l at *
  simp only [List.flatten_cons, List.flatten_nil, List.append_nil]
  rw [show (max (0 - (0 : Int)) 0).toNat = 0 by omega, List.drop_zero, show (s.pos - 0).toNat - 0 = s.pos.toNat by omega]
  rw [show (max (s.pos + s.del - 0) 0).toNat = s.pos.toNat + s.del.toNat by omega, show ((l.length : Int) - 0).toNat - (s.pos.toNat + s.del.toNat) = l.length - (s.pos.toNat + s.del.toNat) by omega]
  rw [List.take_of_length_le (l := l.drop _) (by rw [List.length_drop]; omega)]
theorem parts_all (ps : List (List Line)) : (partsS ps 0 (manyS ps) 0).flatten = ps.flatten := by
  rw [partsS_flat, manyS_flat]
  rw [show (max (0 - (0 : Int)) 0).toNat = 0 by omega, List.drop_zero]
  exact List.take_of_length_le (by omega)

/-- The table that all these splices lead to: those that may be done. -/
def tabFold : List (List Line) → List Spl → List (List Line)
  | ps, [] => ps
  | ps, s :: r => if (doneS ps.flatten s).2 = 0 then tabFold (tabSpl ps s) r else tabFold ps r
end Go.Proofs.YtlcjjcmfpmflcaaGreatDoor
