/- The numbers of an escape's parameters, two ways, in plain Lean (chapter 13). No program in sight. -/
import Derived.Test.YtcgaaadcbhkfoaaGreatDoorVt1
import Derived.Lib.AtoiAll
import Derived.Lib.Split
import Derived.Lib.SplitLaws
namespace Go.Proofs.YtcgaaadcbhkfoaaGreatDoor
open Go

/-- The stretches between semicolons. -/
def segs : List UInt8 → List (List UInt8)
  | [] => [[]]
  | c :: s => if c = 59 then [] :: segs s else match segs s with
    | [] => [[c]]
    | d :: l => (c :: d) :: l
def digB (c : UInt8) : Bool := decide (48 ≤ c.toNat) && decide (c.toNat ≤ 57)
def valD : List UInt8 → Nat → Nat
  | [], a => a
  | c :: l, a => valD l (a * 10 + (c.toNat - 48))
/-- A stretch without its zeros ahead. -/
def noZero (l : List UInt8) : List UInt8 := l.dropWhile (· == 48)
/-- A stretch's number as the program reads it. -/
def segV (d : List UInt8) : Int := if d = [] then -1 else min (valD ((noZero d).take 5) 0 : Int) 9999
def numsP (s : List UInt8) : Option (List Int) := if (segs s).all (fun d => d.all digB) then some ((segs s).map segV) else none

theorem segs_ne : ∀ s, segs s ≠ []
  | [] => by simp [segs]
  | c :: s => by
    unfold segs
    split
    · simp
    · split <;> simp
/-- One stretch from the left, saturated. -/
def satD : List UInt8 → Int → Int
  | [], a => a
  | c :: l, a => satD l (min (max a 0 * 10 + ((c.toNat : Int) - 48)) 9999)
theorem numsT_segs : ∀ (s : List UInt8) (a : Int), numsT s a = (match segs s with
    | [] => none
    | d :: l => if d.all digB && l.all (fun d => d.all digB) then some (satD d a :: l.map fun d => satD d (-1)) else none)
  | [], a => by simp [numsT, segs, satD]
  | c :: s, a => by
    unfold numsT segs
    by_cases h59 : c = 59
    · rw [if_pos h59, if_pos h59, numsT_segs s (-1)]
      cases hs : segs s with
      | nil => exact absurd hs (segs_ne s)
      | cons d l =>
        simp only [List.all_nil, List.all_cons, Bool.true_and, List.map_cons, satD]
        split <;> rfl
    · rw [if_neg h59, if_neg h59]
      cases hs : segs s with
      | nil => exact absurd hs (segs_ne s)
      | cons d l =>
        simp only
        by_cases hd : 48 ≤ c ∧ c ≤ 57
        · have hdb : digB c = true := by
            unfold digB
            have h1 := UInt8.le_iff_toNat_le.1 hd.1
            have h2 := UInt8.le_iff_toNat_le.1 hd.2
            have e1 : (48 : UInt8).toNat = 48 := rfl
            have e2 : (57 : UInt8).toNat = 57 := rfl
            simp; omega
          rw [if_pos hd, numsT_segs s _, hs]
          simp only [List.all_cons, hdb, Bool.true_and, satD]
        · have hdb : digB c = false := by
            unfold digB
            cases hb : (decide (48 ≤ c.toNat) && decide (c.toNat ≤ 57)) with
            | false => rfl
            | true =>
              simp only [Bool.and_eq_true, decide_eq_true_eq] at hb
              exact absurd ⟨UInt8.le_iff_toNat_le.2 hb.1, UInt8.le_iff_toNat_le.2 hb.2⟩ hd
          rw [if_neg hd]
          simp only [List.all_cons, hdb, Bool.false_and, Bool.false_eq_true, if_false]

theorem digB_iff {c : UInt8} : digB c = true ↔ 48 ≤ c.toNat ∧ c.toNat ≤ 57 := by unfold digB; simp
/-- Saturated all along, or at the end. -/
theorem satD_val : ∀ (l : List UInt8) (a : Nat), l.all digB = true → satD l (min (a : Int) 9999) = min (valD l a : Int) 9999
  | [], a, _ => rfl
  | c :: l, a, h => by
    simp only [List.all_cons, Bool.and_eq_true] at h
    have hc := digB_iff.1 h.1
    unfold satD valD
    have e : min (max (min (a : Int) 9999) 0 * 10 + ((c.toNat : Int) - 48)) 9999 = min ((a * 10 + (c.toNat - 48) : Nat) : Int) 9999 := by omega
    rw [e, satD_val l _ h.2]
theorem satD_first (d : List UInt8) (hd : d.all digB = true) : satD d (-1) = if d = [] then -1 else min (valD d 0 : Int) 9999 := by
  cases d with
  | nil => rfl
  | cons c l =>
    rw [if_neg (by simp)]
    have h := satD_val (c :: l) 0 hd
    rw [← h]
    unfold satD
    congr 1
theorem valD_zero : ∀ (l : List UInt8), valD (noZero l) 0 = valD l 0
  | [] => rfl
  | c :: l => by
    unfold noZero
    rw [List.dropWhile_cons]
    by_cases h : c = 48
    · subst h
      simp only [beq_self_eq_true, if_true]
      have := valD_zero l
      unfold noZero at this
      rw [this]; rfl
    · rw [if_neg (by simpa using h)]
theorem valD_append : ∀ (a b : List UInt8) (x : Nat), valD (a ++ b) x = valD b (valD a x)
  | [], b, x => rfl
  | c :: a, b, x => by simp only [List.cons_append, valD, valD_append a b]
theorem valD_ge : ∀ (l : List UInt8) (a : Nat), a ≤ valD l a
  | [], a => Nat.le_refl _
  | c :: l, a => by have := valD_ge l (a * 10 + (c.toNat - 48)); unfold valD; omega
theorem valD_pow : ∀ (l : List UInt8) (a : Nat), a * 10 ^ l.length ≤ valD l a
  | [], a => by simp [valD]
  | c :: l, a => by
    have := valD_pow l (a * 10 + (c.toNat - 48))
    unfold valD
    rw [List.length_cons, Nat.pow_succ]
    have h2 : a * (10 ^ l.length * 10) = a * 10 * 10 ^ l.length := by rw [Nat.mul_comm (10 ^ l.length) 10, Nat.mul_assoc]
    have h3 : a * 10 * 10 ^ l.length ≤ (a * 10 + (c.toNat - 48)) * 10 ^ l.length := Nat.mul_le_mul_right _ (by omega)
    omega
theorem valD_lt : ∀ (l : List UInt8) (a : Nat), l.all digB = true → valD l a < (a + 1) * 10 ^ l.length
  | [], a, _ => by simp [valD]
  | c :: l, a, h => by
    simp only [List.all_cons, Bool.and_eq_true] at h
    have hc := digB_iff.1 h.1
    have := valD_lt l (a * 10 + (c.toNat - 48)) h.2
    unfold valD
    rw [List.length_cons, Nat.pow_succ]
    have h2 : (a + 1) * (10 ^ l.length * 10) = (a + 1) * 10 * 10 ^ l.length := by rw [Nat.mul_comm (10 ^ l.length) 10, Nat.mul_assoc]
    have h3 : (a * 10 + (c.toNat - 48) + 1) * 10 ^ l.length ≤ (a + 1) * 10 * 10 ^ l.length := Nat.mul_le_mul_right _ (by omega)
    omega
theorem noZero_head {l : List UInt8} {c : UInt8} {r : List UInt8} (h : noZero l = c :: r) : c ≠ 48 := by
  have := List.dropWhile_cons_of_neg (p := (· == (48 : UInt8))) (a := c) (l := r)
  intro e
  have h1 : (noZero l).head? = some c := by rw [h]; rfl
  unfold noZero at h1
  have := List.head?_dropWhile_not (p := (· == (48 : UInt8))) l
  rw [h1] at this
  simp [e] at this
theorem noZero_all {l : List UInt8} (h : l.all digB = true) : (noZero l).all digB = true := by
  rw [List.all_eq_true] at *
  exact fun x hx => h x ((List.dropWhile_sublist _).subset hx)
theorem segV_sat (d : List UInt8) (hd : d.all digB = true) : segV d = satD d (-1) := by
  rw [satD_first d hd]
  unfold segV
  by_cases h0 : d = []
  · rw [if_pos h0, if_pos h0]
  · rw [if_neg h0, if_neg h0, ← valD_zero d]
    have hz := noZero_all hd
    generalize hzz : noZero d = z at *
    rcases Nat.lt_or_ge 5 z.length with h5 | h5
    · obtain ⟨c, r, rfl⟩ : ∃ c r, z = c :: r := by
        cases z with
        | nil => simp at h5
        | cons c r => exact ⟨c, r, rfl⟩
      have hc0 := noZero_head hzz
      simp only [List.all_cons, Bool.and_eq_true] at hz
      have hc := digB_iff.1 hz.1
      have hc1 : 49 ≤ c.toNat := by
        rcases Nat.lt_or_ge c.toNat 49 with h | h
        · exact absurd (UInt8.toNat_inj.1 (show c.toNat = (48 : UInt8).toNat by show c.toNat = 48; omega)) hc0
        · exact h
      have e1 : valD ((c :: r).take 5) 0 = valD (r.take 4) (c.toNat - 48) := by simp [valD]
      have e2 : valD (c :: r) 0 = valD r (c.toNat - 48) := by simp [valD]
      have h1 := valD_pow (r.take 4) (c.toNat - 48)
      have h4 : (r.take 4).length = 4 := by rw [List.length_take]; simp at h5; omega
      rw [h4] at h1
      have h2 : valD r (c.toNat - 48) = valD (r.drop 4) (valD (r.take 4) (c.toNat - 48)) := by rw [← valD_append, List.take_append_drop]
      have h3 := valD_ge (r.drop 4) (valD (r.take 4) (c.toNat - 48))
      rw [e1, e2, h2]
      have h6 : 10000 ≤ valD (r.take 4) (c.toNat - 48) := by
        have : 1 * 10 ^ 4 ≤ (c.toNat - 48) * 10 ^ 4 := Nat.mul_le_mul_right _ (by omega)
        omega
      omega
    · rw [List.take_of_length_le h5]
theorem numsP_eq (s : List UInt8) : numsT s (-1) = numsP s := by
  rw [numsT_segs]
  unfold numsP
  cases hs : segs s with
  | nil => exact absurd hs (segs_ne s)
  | cons d l =>
    simp only [List.all_cons, List.map_cons]
    split
    · rename_i h
      simp only [Bool.and_eq_true] at h
      rw [segV_sat d h.1]
      congr 2
      refine List.map_congr_left fun x hx => ?_
      rw [segV_sat x (List.all_eq_true.1 h.2 x hx)]
    · rfl
/-- What Atoi makes of at most five digits behind a zero. -/
theorem parse_val : ∀ (l : List UInt8) (a : Nat), l.all digB = true → (a + 1) * 10 ^ l.length ≤ 10000000 → Lib.parseUint10 a l = .ok (valD l a)
  | [], a, _, _ => rfl
  | c :: l, a, h, hb => by
    simp only [List.all_cons, Bool.and_eq_true] at h
    have hc := digB_iff.1 h.1
    rw [List.length_cons, Nat.pow_succ] at hb
    have h2 : (a + 1) * (10 ^ l.length * 10) = (a + 1) * 10 * 10 ^ l.length := by rw [Nat.mul_comm (10 ^ l.length) 10, Nat.mul_assoc]
    have h3 : (a * 10 + (c.toNat - 48) + 1) * 10 ^ l.length ≤ (a + 1) * 10 * 10 ^ l.length := Nat.mul_le_mul_right _ (by omega)
    have h4 : 1 ≤ 10 ^ l.length := Nat.one_le_pow _ _ (by omega)
    have h5 : (a + 1) * 10 ≤ (a + 1) * 10 * 10 ^ l.length := Nat.le_mul_of_pos_right _ h4
    unfold Lib.parseUint10 valD
    rw [if_pos hc, if_neg (by omega), if_neg (by omega)]
    exact parse_val l _ h.2 (by omega)
theorem atoi_val (l : List UInt8) (h : l.all digB = true) (hl : l.length ≤ 5) : Lib.atoiAll (48 :: l) = .ok (valD l 0 : Int) := by
  have hp : Lib.parseUint10 0 (48 :: l) = .ok (valD (48 :: l) 0) := parse_val (48 :: l) 0 (by simp only [List.all_cons, h]; decide) (by
    rw [List.length_cons, Nat.zero_add, Nat.one_mul]
    exact Nat.le_trans (Nat.pow_le_pow_right (by omega) (show l.length + 1 ≤ 6 by omega)) (by decide))
  have hlt := valD_lt l 0 h
  have h5 : 10 ^ l.length ≤ 10 ^ 5 := Nat.pow_le_pow_right (by omega) hl
  have e : valD (48 :: l) 0 = valD l 0 := rfl
  rw [e] at hp
  have h48 : (48 : UInt8).toNat = 48 := rfl
  unfold Lib.atoiAll
  simp only [h48, show ¬ (48 = 43 ∨ 48 = 45) from by omega, if_false, Lib.parseMag, hp, reduceCtorEq]
  simp
  omega
end Go.Proofs.YtcgaaadcbhkfoaaGreatDoor
