/- A text's lines, one by one: plain. No program in sight. -/
import Derived.Lib.Bytealg
set_option linter.unusedVariables false
set_option linter.unusedSimpArgs false
namespace Go.Ink
open Go

/-- Its lines, and whether each has an end; p stands ahead. -/
def linesA : List UInt8 → List UInt8 → List (List UInt8 × Bool)
  | p, [] => if p = [] then [] else [(p, false)]
  | p, x :: l => if x = 10 then (p, true) :: linesA [] l else linesA (p ++ [x]) l
def cutL (t : List UInt8) : List UInt8 × List UInt8 × Bool :=
  if Lib.indexByte t 10 < 0 then (t, [], false) else (t.take (Lib.indexByte t 10).toNat, t.drop ((Lib.indexByte t 10).toNat + 1), true)
theorem linesA_cut : ∀ (t p : List UInt8), linesA p t = if Lib.indexByte t 10 < 0 then (if p ++ t = [] then [] else [(p ++ t, false)]) else (p ++ t.take (Lib.indexByte t 10).toNat, true) :: linesA [] (t.drop ((Lib.indexByte t 10).toNat + 1))
  | [], p => by simp [linesA, Lib.indexByte]
  | x :: l, p => by
    have hix : Lib.indexByte (x :: l) 10 = (if (x == 10) = true then 0 else if (Lib.indexByte l 10 == -1) = true then -1 else Lib.indexByte l 10 + 1) := rfl
    by_cases hx : x = 10
    · have e : Lib.indexByte (x :: l) 10 = 0 := by rw [hix]; simp [hx]
      rw [e]
      simp [linesA, hx]
    · have hb : (x == 10) = false := by simpa using hx
      have hge := Lib.indexByte_ge l 10
      have ih := linesA_cut l (p ++ [x])
      have el : linesA p (x :: l) = linesA (p ++ [x]) l := by simp [linesA, hx]
      rw [el, ih]
      by_cases hm : Lib.indexByte l 10 = -1
      · have e : Lib.indexByte (x :: l) 10 = -1 := by rw [hix, hm]; simp [hb]
        rw [e, hm]
        simp
      · have e : Lib.indexByte (x :: l) 10 = Lib.indexByte l 10 + 1 := by rw [hix]; simp [hb, hm]
        rw [e]
        have h0 : ¬ Lib.indexByte l 10 < 0 := by omega
        have h1 : ¬ Lib.indexByte l 10 + 1 < 0 := by omega
        have e : (Lib.indexByte l 10 + 1).toNat = (Lib.indexByte l 10).toNat + 1 := by omega
        rw [if_neg h0, if_neg h1, e]
        simp
theorem linesA_next {t : List UInt8} (h : t ≠ []) : linesA [] t = ((cutL t).1, (cutL t).2.2) :: linesA [] (cutL t).2.1 := by
  rw [linesA_cut]
  unfold cutL
  split
  · simp [h, linesA]
  · simp
theorem cutL_shorter {t : List UInt8} (h : t ≠ []) : (cutL t).2.1.length < t.length := by
  have hp : 0 < t.length := List.length_pos_iff.2 h
  unfold cutL
  split
  · simpa using hp
  · simp; omega
theorem indexByte_lt : ∀ (t : List UInt8) (c : UInt8), Lib.indexByte t c < t.length
  | [], _ => by simp [Lib.indexByte]
  | x :: l, c => by
    have ih := indexByte_lt l c
    unfold Lib.indexByte
    rw [List.length_cons]
    split
    · omega
    · split <;> omega
theorem linesA_len : ∀ (t p : List UInt8), (linesA p t).length ≤ t.length + (if p = [] then 0 else 1)
  | [], p => by
    simp only [linesA]
    split <;> simp
  | x :: l, p => by
    simp only [linesA]
    split
    · have := linesA_len l []
      simp only [if_pos, List.length_cons] at this ⊢
      omega
    · have := linesA_len l (p ++ [x])
      simp only [List.length_cons] at this ⊢
      have h2 : (if p ++ [x] = [] then 0 else 1) = 1 := by simp
      rw [h2] at this
      omega
/-- The ended flag behind k lines. -/
def endedK (L : List (List UInt8 × Bool)) : Nat → Bool
  | 0 => true
  | k + 1 => (L.getD k ([], false)).2
end Go.Ink
