/- What chapter 15's splices come to, in plain Lean; the laws over lists. No program in sight. -/
import Derived.Lib.ItoaNum
set_option linter.unusedVariables false
set_option linter.unusedSimpArgs false
namespace Go.Proofs.YtlcjjcmfpmflcaaGreatDoor
open Go

abbrev Line := List UInt8
/-- lines.Check -/
def checkL (l : List Line) : Int := if l.any (fun t => t.contains 10) = true then 2 else if 2000 < l.length ∨ l.any (fun t => decide (1000 < t.length)) = true then 3 else 0
structure Spl where
  pos : Int
  del : Int
  ins : List Line
def checkS (s : Spl) : Int := if s.pos < 0 ∨ s.del < 0 then 2 else checkL s.ins
/-- What comes of one splice, the lines being such as may be. -/
def doneS (l : List Line) (s : Spl) : List Line × Int :=
  if checkS s ≠ 0 then ([], checkS s) else if (l.length : Int) < s.pos ∨ (l.length : Int) - s.pos < s.del then ([], 2)
  else if 2000 < (l.length : Int) - s.del + s.ins.length then ([], 3) else (l.take s.pos.toNat ++ s.ins ++ l.drop (s.pos.toNat + s.del.toNat), 0)
def foldS : List Line → List Spl → List Line × Int
  | l, [] => (l, 0)
  | l, s :: r => if (doneS l s).2 ≠ 0 then ([], (doneS l s).2) else foldS (doneS l s).1 r
def allS (l : List Line) (list : List Spl) : List Line × Int := if checkL l ≠ 0 then ([], checkL l) else foldS l list
def applyS (l : List Line) (s : Spl) : List Line × Int := if checkL l ≠ 0 then ([], checkL l) else doneS l s
def noSpl : Spl := ⟨0, 0, []⟩
def invS (l : List Line) (s : Spl) : Spl × Int := if (applyS l s).2 ≠ 0 then (noSpl, (applyS l s).2) else (⟨s.pos, s.ins.length, (l.drop s.pos.toNat).take s.del.toNat⟩, 0)

theorem checkL_ok {l : List Line} : checkL l = 0 ↔ (∀ t ∈ l, (10 : UInt8) ∉ t) ∧ l.length ≤ 2000 ∧ ∀ t ∈ l, t.length ≤ 1000 := by
  unfold checkL
  constructor
  · intro h
    split at h
    · cases h
    · rename_i h1
      split at h
      · cases h
      · rename_i h2
        rw [not_or] at h2
        simp only [List.any_eq_true, List.contains_iff_mem, decide_eq_true_iff, not_exists, not_and] at h1 h2
        exact ⟨fun t ht => h1 t ht, by omega, fun t ht => by have := h2.2 t ht; omega⟩
  · rintro ⟨h1, h2, h3⟩
    rw [if_neg, if_neg]
    · rw [not_or]
      refine ⟨by omega, ?_⟩
      simp only [List.any_eq_true, decide_eq_true_iff, not_exists, not_and]
      intro t ht; have := h3 t ht; omega
    · simp only [List.any_eq_true, List.contains_iff_mem, not_exists, not_and]
      exact fun t ht => h1 t ht
theorem checkL_cases (l : List Line) : checkL l = 0 ∨ checkL l = 2 ∨ checkL l = 3 := by
  unfold checkL; split
  · exact .inr (.inl rfl)
  · split
    · exact .inr (.inr rfl)
    · exact .inl rfl
theorem checkS_cases (s : Spl) : checkS s = 0 ∨ checkS s = 2 ∨ checkS s = 3 := by
  unfold checkS; split
  · exact .inr (.inl rfl)
  · exact checkL_cases _
theorem checkS_ok {s : Spl} (h : checkS s = 0) : 0 ≤ s.pos ∧ 0 ≤ s.del ∧ checkL s.ins = 0 := by
  unfold checkS at h
  split at h
  · cases h
  · exact ⟨by omega, by omega, h⟩
theorem doneS_cases (l : List Line) (s : Spl) : (doneS l s).2 = 0 ∨ (doneS l s).2 = 2 ∨ (doneS l s).2 = 3 := by
  unfold doneS
  split
  · exact checkS_cases s
  · split
    · exact .inr (.inl rfl)
    · split
      · exact .inr (.inr rfl)
      · exact .inl rfl
/-- A splice that may be done. -/
theorem doneS_ok {l : List Line} {s : Spl} (h : (doneS l s).2 = 0) : checkS s = 0 ∧ 0 ≤ s.pos ∧ 0 ≤ s.del ∧ s.pos.toNat + s.del.toNat ≤ l.length ∧ l.length - s.del.toNat + s.ins.length ≤ 2000 ∧ (doneS l s).1 = l.take s.pos.toNat ++ s.ins ++ l.drop (s.pos.toNat + s.del.toNat) := by
  have h' := h
  unfold doneS at h'
  split at h'
  · rename_i h1; exact absurd h' h1
  · rename_i h1
    rw [Decidable.not_not] at h1
    obtain ⟨k1, k2, k3⟩ := checkS_ok h1
    split at h'
    · cases h'
    · rename_i h2
      split at h'
      · cases h'
      · rename_i h3
        refine ⟨h1, k1, k2, by omega, by omega, ?_⟩
        unfold doneS
        rw [if_neg (by rw [h1]; simp), if_neg h2, if_neg h3]
theorem doneS_of {l : List Line} {s : Spl} (h1 : checkS s = 0) (h2 : s.pos.toNat + s.del.toNat ≤ l.length) (h3 : l.length - s.del.toNat + s.ins.length ≤ 2000) : doneS l s = (l.take s.pos.toNat ++ s.ins ++ l.drop (s.pos.toNat + s.del.toNat), 0) := by
  obtain ⟨k1, k2, _⟩ := checkS_ok h1
  unfold doneS
  rw [if_neg (by rw [h1]; simp), if_neg (by omega), if_neg (by omega)]
theorem doneS_no {l : List Line} {s : Spl} (h : (doneS l s).2 ≠ 0) : (doneS l s).1 = [] := by
  unfold doneS at h ⊢
  split
  · rfl
  · split
    · rfl
    · split
      · rfl
      · rename_i h1 h2 h3
        rw [if_neg h1, if_neg h2, if_neg h3] at h
        exact absurd rfl h
/-- What comes of it may be, too. -/
theorem doneS_may {l : List Line} {s : Spl} (hl : checkL l = 0) (h : (doneS l s).2 = 0) : checkL (doneS l s).1 = 0 := by
  obtain ⟨h1, h2, h3, h4, h5, h6⟩ := doneS_ok h
  obtain ⟨_, _, k3⟩ := checkS_ok h1
  rw [checkL_ok] at hl k3 ⊢
  rw [h6]
  refine ⟨fun t ht => ?_, by simp only [List.length_append, List.length_take, List.length_drop]; omega, fun t ht => ?_⟩
  · simp only [List.mem_append] at ht
    rcases ht with (ht | ht) | ht
    · exact hl.1 t (List.mem_of_mem_take ht)
    · exact k3.1 t ht
    · exact hl.1 t (List.mem_of_mem_drop ht)
  · simp only [List.mem_append] at ht
    rcases ht with (ht | ht) | ht
    · exact hl.2.2 t (List.mem_of_mem_take ht)
    · exact k3.2.2 t ht
    · exact hl.2.2 t (List.mem_of_mem_drop ht)
theorem foldS_cases : ∀ (list : List Spl) (l : List Line), (foldS l list).2 = 0 ∨ (foldS l list).2 = 2 ∨ (foldS l list).2 = 3
  | [], l => .inl rfl
  | s :: r, l => by
    unfold foldS
    split
    · exact doneS_cases l s
    · exact foldS_cases r _
theorem foldS_no : ∀ {list : List Spl} {l : List Line}, (foldS l list).2 ≠ 0 → (foldS l list).1 = []
  | [], l, h => absurd rfl h
  | s :: r, l, h => by
    unfold foldS at h ⊢
    split
    · rfl
    · rename_i h1
      rw [if_neg h1] at h
      exact foldS_no h
theorem foldS_may : ∀ {list : List Spl} {l : List Line}, checkL l = 0 → (foldS l list).2 = 0 → checkL (foldS l list).1 = 0
  | [], l, hl, _ => hl
  | s :: r, l, hl, h => by
    unfold foldS at h ⊢
    split
    · rename_i h1; rw [if_pos h1] at h; exact absurd h h1
    · rename_i h1
      rw [if_neg h1] at h
      rw [Decidable.not_not] at h1
      exact foldS_may (doneS_may hl h1) h
theorem foldS_append : ∀ (a b : List Spl) (l : List Line), foldS l (a ++ b) = if (foldS l a).2 ≠ 0 then ([], (foldS l a).2) else foldS (foldS l a).1 b
  | [], b, l => by simp [foldS]
  | s :: a, b, l => by
    simp only [List.cons_append, foldS]
    split
    · rename_i h; simp [h]
    · exact foldS_append a b _
theorem foldS_snoc (a : List Spl) (s : Spl) (l : List Line) : foldS l (a ++ [s]) = if (foldS l a).2 ≠ 0 then ([], (foldS l a).2) else doneS (foldS l a).1 s := by
  rw [foldS_append]
  split
  · rfl
  · simp only [foldS]
    split
    · rename_i h
      rw [← doneS_no h]
    · rename_i h
      rw [Decidable.not_not] at h
      exact Prod.ext rfl h.symm
theorem applyS_all (l : List Line) (s : Spl) : applyS l s = allS l [s] := by
  unfold applyS allS
  split
  · rfl
  · simp only [foldS]
    split
    · rename_i h; rw [← doneS_no h]
    · rename_i h
      rw [Decidable.not_not] at h
      exact Prod.ext rfl h
theorem allS_cases (l : List Line) (list : List Spl) : (allS l list).2 = 0 ∨ (allS l list).2 = 2 ∨ (allS l list).2 = 3 := by
  unfold allS; split
  · exact checkL_cases l
  · exact foldS_cases _ _
theorem allS_no {l : List Line} {list : List Spl} (h : (allS l list).2 ≠ 0) : (allS l list).1 = [] := by
  unfold allS at h ⊢
  split
  · rfl
  · rename_i h1; rw [if_neg h1] at h; exact foldS_no h
theorem applyS_no {l : List Line} {s : Spl} (h : (applyS l s).2 ≠ 0) : (applyS l s).1 = [] := by rw [applyS_all] at h ⊢; exact allS_no h
theorem allS_may {l : List Line} {list : List Spl} (h : (allS l list).2 = 0) : checkL l = 0 ∧ checkL (allS l list).1 = 0 := by
  unfold allS at h ⊢
  split at h
  · rename_i h1; exact absurd h h1
  · rename_i h1
    rw [Decidable.not_not] at h1
    rw [if_neg (by rw [h1]; simp)]
    exact ⟨h1, foldS_may h1 h⟩

/-- The document's answer: each step asks anew whether the lines may be. -/
def refFold : List Line → List Spl → List Line × Int
  | l, [] => (l, 0)
  | l, s :: r => if (applyS l s).2 ≠ 0 then ([], (applyS l s).2) else refFold (applyS l s).1 r
theorem applyS_of {l : List Line} (h : checkL l = 0) (s : Spl) : applyS l s = doneS l s := by unfold applyS; rw [if_neg (by rw [h]; simp)]
theorem refFold_eq : ∀ (list : List Spl) (l : List Line), checkL l = 0 → refFold l list = foldS l list
  | [], l, _ => rfl
  | s :: r, l, h => by
    unfold refFold foldS
    rw [applyS_of h]
    split
    · rfl
    · rename_i h1
      rw [Decidable.not_not] at h1
      exact refFold_eq r _ (doneS_may h h1)

/-- Done, and undone. -/
theorem inv_back {l : List Line} {s : Spl} (hl : checkL l = 0) (h : (doneS l s).2 = 0) :
    doneS (doneS l s).1 ⟨s.pos, s.ins.length, (l.drop s.pos.toNat).take s.del.toNat⟩ = (l, 0) := by
  obtain ⟨h1, h2, h3, h4, h5, h6⟩ := doneS_ok h
  have hl' := hl
  rw [checkL_ok] at hl'
  have hlen : (doneS l s).1.length = l.length - s.del.toNat + s.ins.length := by
    rw [h6]; simp only [List.length_append, List.length_take, List.length_drop]; omega
  have hc : checkS ⟨s.pos, s.ins.length, (l.drop s.pos.toNat).take s.del.toNat⟩ = 0 := by
    unfold checkS
    rw [if_neg (by simp only; omega)]
    simp only
    rw [checkL_ok]
    refine ⟨fun t ht => hl'.1 t (List.mem_of_mem_drop (List.mem_of_mem_take ht)), ?_, fun t ht => hl'.2.2 t (List.mem_of_mem_drop (List.mem_of_mem_take ht))⟩
    rw [List.length_take, List.length_drop]; omega
  rw [doneS_of hc (by simp only [Int.toNat_natCast]; omega) (by simp only [Int.toNat_natCast, List.length_take, List.length_drop]; omega)]
  simp only [Int.toNat_natCast]
  congr 1
  rw [h6]
  have e1 : (l.take s.pos.toNat ++ s.ins ++ l.drop (s.pos.toNat + s.del.toNat)).take s.pos.toNat = l.take s.pos.toNat := by
    rw [List.append_assoc, List.take_append_of_le_length (by rw [List.length_take]; omega), List.take_take, Nat.min_self]
  have e2 : (l.take s.pos.toNat ++ s.ins ++ l.drop (s.pos.toNat + s.del.toNat)).drop (s.pos.toNat + s.ins.length) = l.drop (s.pos.toNat + s.del.toNat) := by
    have : (l.take s.pos.toNat ++ s.ins).length = s.pos.toNat + s.ins.length := by rw [List.length_append, List.length_take]; omega
    rw [← this, List.drop_left]
  rw [e1, e2, List.append_assoc]
  have e3 : (l.drop s.pos.toNat).take s.del.toNat ++ l.drop (s.pos.toNat + s.del.toNat) = l.drop s.pos.toNat := by
    rw [← List.drop_drop, List.take_append_drop]
  rw [e3, List.take_append_drop]

/-! ### The stage's theorem -/

/-- What the first loop comes to: the lines, and the inverses, the last one first. -/
def fwd : List Line → List Spl → List Spl → List Line × List Spl
  | l, [], back => (l, back)
  | l, s :: r, back => if (doneS l s).2 ≠ 0 then fwd l r back else fwd (doneS l s).1 r ((invS l s).1 :: back)
/-- What the second loop comes to. -/
def bwd : List Line → List Spl → List Spl → List Line × List Spl
  | l, [], again => (l, again)
  | l, s :: r, again => bwd (doneS l s).1 r ((invS l s).1 :: again)
/-- All of a row of splices may be done, one behind the other. -/
def mayAll : List Line → List Spl → Prop
  | _, [] => True
  | l, s :: r => (doneS l s).2 = 0 ∧ mayAll (doneS l s).1 r
theorem mayAll_fold : ∀ {list : List Spl} {l : List Line}, mayAll l list → (foldS l list).2 = 0
  | [], _, _ => rfl
  | s :: r, l, h => by
    unfold foldS
    rw [if_neg (by rw [h.1]; simp)]
    exact mayAll_fold h.2
theorem invS_of {l : List Line} {s : Spl} (hl : checkL l = 0) (h : (doneS l s).2 = 0) : invS l s = (⟨s.pos, s.ins.length, (l.drop s.pos.toNat).take s.del.toNat⟩, 0) := by
  unfold invS
  rw [applyS_of hl, if_neg (by rw [h]; simp)]
/-- The invariant of the first loop: what is to be undone may be, and leads to the first lines. -/
theorem fwd_back : ∀ (list : List Spl) (l : List Line) (back : List Spl) (l0 : List Line), checkL l = 0 → mayAll l back → (foldS l back).1 = l0 →
    checkL (fwd l list back).1 = 0 ∧ mayAll (fwd l list back).1 (fwd l list back).2 ∧ (foldS (fwd l list back).1 (fwd l list back).2).1 = l0
  | [], l, back, l0, h1, h2, h3 => ⟨h1, h2, h3⟩
  | s :: r, l, back, l0, h1, h2, h3 => by
    unfold fwd
    split
    · exact fwd_back r l back l0 h1 h2 h3
    · rename_i hd
      rw [Decidable.not_not] at hd
      have hb := inv_back h1 hd
      rw [invS_of h1 hd]
      refine fwd_back r _ _ l0 (doneS_may h1 hd) ⟨by simp only [hb], by simp only [hb]; exact h2⟩ ?_
      simp only [foldS, hb]
      exact h3
theorem bwd_again : ∀ (list : List Spl) (l : List Line) (again : List Spl) (e : List Line), checkL l = 0 → mayAll l list → mayAll l again → (foldS l again).1 = e →
    checkL (bwd l list again).1 = 0 ∧ (bwd l list again).1 = (foldS l list).1 ∧ mayAll (bwd l list again).1 (bwd l list again).2 ∧ (foldS (bwd l list again).1 (bwd l list again).2).1 = e
  | [], l, again, e, h1, _, h2, h3 => ⟨h1, rfl, h2, h3⟩
  | s :: r, l, again, e, h1, hm, h2, h3 => by
    unfold bwd
    have hb := inv_back h1 hm.1
    rw [invS_of h1 hm.1]
    have := bwd_again r (doneS l s).1 (⟨s.pos, s.ins.length, (l.drop s.pos.toNat).take s.del.toNat⟩ :: again) e (doneS_may h1 hm.1) hm.2 ⟨by simp only [hb], by simp only [hb]; exact h2⟩ (by simp only [foldS, hb]; exact h3)
    refine ⟨this.1, ?_, this.2.2⟩
    rw [this.2.1]
    conv => rhs; unfold foldS
    rw [if_neg (by rw [hm.1]; simp)]

end Go.Proofs.YtlcjjcmfpmflcaaGreatDoor
