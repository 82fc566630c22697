/- What the number texts say, in plain Lean: put, get, and the seven laws over lists of bytes. No program in sight. -/
import Derived.Lib.ItoaNum
import Derived.Lib.AtoiAll
namespace Go.Proofs.YthgjomihopijeaaGreatDoor
open Go Go.Lib

theorem dig_toNat (k : Nat) (h : k < 10) : (UInt8.ofNat (48 + k)).toNat = 48 + k := by
  simp; omega

theorem parse_dec (u : Nat) : ∀ (r : List UInt8), u < 9223372036854775808 → parseUint10 0 (decDigits u ++ r) = parseUint10 u r := by
  induction u using Nat.strongRecOn with
  | _ u ih =>
    intro r hu
    rw [decDigits]
    split
    · rename_i h
      simp only [List.cons_append, List.nil_append, parseUint10, dig_toNat _ h]
      rw [if_pos (by omega), if_neg (by omega), if_neg (by omega)]
      congr 1; omega
    · rename_i h
      rw [List.append_assoc, ih (u / 10) (by omega) _ (by omega)]
      simp only [List.cons_append, List.nil_append, parseUint10, dig_toNat (u % 10) (by omega)]
      rw [if_pos (by omega), if_neg (by omega), if_neg (by omega)]
      congr 1; omega

theorem dec_bytes (u : Nat) : ∀ c ∈ decDigits u, 48 ≤ c.toNat ∧ c.toNat ≤ 57 := by
  induction u using Nat.strongRecOn with
  | _ u ih =>
    intro c hc
    rw [decDigits] at hc
    split at hc
    · rename_i h
      simp only [List.mem_singleton] at hc
      subst hc; rw [dig_toNat _ h]; omega
    · rename_i h
      rw [List.mem_append] at hc
      rcases hc with hc | hc
      · exact ih _ (by omega) _ hc
      · simp only [List.mem_singleton] at hc
        subst hc; rw [dig_toNat _ (by omega)]; omega

theorem dec_ne (u : Nat) : decDigits u ≠ [] := by
  rw [decDigits]; split <;> simp

theorem itoa_dec (n : Int) (h : 0 ≤ n) : itoa n = decDigits n.toNat := by
  unfold itoa; rw [if_neg (by omega)]

theorem itoa_bytes (n : Int) (h : 0 ≤ n) : ∀ c ∈ itoa n, 48 ≤ c.toNat ∧ c.toNat ≤ 57 := by
  rw [itoa_dec n h]; exact dec_bytes _

theorem atoi_itoa (n : Int) (h0 : 0 ≤ n) (h1 : n ≤ 9223372036854775807) : atoiAll (itoa n) = .ok n := by
  rw [itoa_dec n h0]
  have hp := parse_dec n.toNat [] (by omega)
  rw [List.append_nil] at hp
  have hb := dec_bytes n.toNat
  have hn := dec_ne n.toNat
  cases hl : decDigits n.toNat with
  | nil => exact absurd hl hn
  | cons c r =>
    rw [hl] at hp hb
    have hc := hb c (by simp)
    unfold atoiAll
    simp only
    rw [if_neg (by omega)]
    unfold parseMag
    rw [if_neg (by simp), hp]
    simp only [parseUint10]
    rw [if_neg (by omega), if_neg (by omega), if_neg (by omega)]
    congr 1; omega

/-- Up to the colon, which is among the first twenty bytes. -/
def digits (s : List UInt8) : Option (List UInt8) := if 58 ∈ s.take 20 then some ((s.take 20).takeWhile (· != 58)) else none

def putN (n : Int) : List UInt8 := if n < 0 then [] else itoa n ++ [58]

/-- The number at the beginning. -/
def getN (s : List UInt8) : Option Int :=
  match digits s with
  | none => none
  | some d => match atoiAll d with
    | .ok n => if n < 0 ∨ itoa n ≠ d then none else some n
    | _ => none

theorem takeWhile_split (l : List UInt8) (h : 58 ∈ l) : ∃ r, l = l.takeWhile (· != 58) ++ 58 :: r := by
  induction l with
  | nil => simp at h
  | cons c l ih =>
    by_cases hc : c = 58
    · subst hc; exact ⟨l, by simp⟩
    · rw [List.mem_cons] at h
      obtain ⟨r, hr⟩ := ih (h.resolve_left (fun e => hc e.symm))
      refine ⟨r, ?_⟩
      rw [List.takeWhile_cons, if_pos (by simpa using hc), List.cons_append, ← hr]

theorem takeWhile_of (d r : List UInt8) (h : 58 ∉ d) : (d ++ 58 :: r).takeWhile (· != 58) = d := by
  induction d with
  | nil => simp
  | cons c d ih =>
    rw [List.mem_cons, not_or] at h
    rw [List.cons_append, List.takeWhile_cons, if_pos (by simpa using fun e => h.1 e.symm), ih h.2]

theorem digits_some {s d : List UInt8} (h : digits s = some d) : ∃ r, s = d ++ 58 :: r := by
  unfold digits at h
  split at h
  · rename_i hm
    injection h with h
    obtain ⟨r, hr⟩ := takeWhile_split _ hm
    rw [h] at hr
    exact ⟨r ++ s.drop 20, by rw [← List.cons_append, ← List.append_assoc, ← hr, List.take_append_drop]⟩
  · cases h

theorem digits_of (d r : List UInt8) (h : 58 ∉ d) (hl : d.length ≤ 19) : digits (d ++ 58 :: r) = some d := by
  have e : (d ++ 58 :: r).take 20 = d ++ 58 :: r.take (19 - d.length) := by
    rw [List.take_append, List.take_of_length_le (by omega)]
    congr 1
    rw [show 20 - d.length = (19 - d.length) + 1 by omega, List.take_succ_cons]
  unfold digits
  rw [e, if_pos (by simp), takeWhile_of _ _ h]

theorem nDigs_le : ∀ (k u : Nat), u < 10 ^ (k + 1) → nDigits u ≤ k + 1
  | 0, u, h => by rw [nDigits_small (by simpa using h)]; omega
  | k + 1, u, h => by
    by_cases hs : u < 10
    · rw [nDigits_small hs]; omega
    · rw [nDigits_big hs]
      have := nDigs_le k (u / 10) (by rw [Nat.pow_succ] at h; omega)
      omega

theorem itoa_len19 (n : Int) (h0 : 0 ≤ n) (h1 : n ≤ 9223372036854775807) : (itoa n).length ≤ 19 := by
  rw [itoa_dec n h0, decDigits_length]
  exact nDigs_le 18 _ (by simp only [Nat.reduceAdd, Nat.reducePow]; omega)

theorem itoa_no_colon (n : Int) (h0 : 0 ≤ n) : (58 : UInt8) ∉ itoa n := by
  intro h
  have := itoa_bytes n h0 58 h
  simp at this

theorem atoi_range {l : List UInt8} {n : Int} (h : atoiAll l = .ok n) : -9223372036854775808 ≤ n ∧ n ≤ 9223372036854775807 := by
  unfold atoiAll at h
  split at h
  · cases h
  · simp only at h
    split at h
    · cases h
    · cases h
    · split at h
      · cases h
      · split at h
        · cases h
        · injection h with h
          subst h
          split <;> omega

/-- What is got is what was put. -/
theorem getN_iff (s : List UInt8) (n : Int) : getN s = some n ↔ 0 ≤ n ∧ n ≤ 9223372036854775807 ∧ ∃ r, s = putN n ++ r := by
  constructor
  · intro h
    unfold getN at h
    split at h
    · cases h
    · rename_i d hd
      split at h
      · rename_i v hv
        split at h
        · cases h
        · rename_i hk
          rw [not_or, Decidable.not_not] at hk
          injection h with h
          subst h
          obtain ⟨r, hr⟩ := digits_some hd
          refine ⟨by omega, (atoi_range hv).2, r, ?_⟩
          unfold putN
          rw [if_neg hk.1, hk.2, hr]; simp
      · cases h
  · rintro ⟨h0, h1, r, rfl⟩
    unfold getN putN
    rw [if_neg (by omega), List.append_assoc, List.cons_append, List.nil_append, digits_of _ _ (itoa_no_colon n h0) (itoa_len19 n h0 h1)]
    simp only [atoi_itoa n h0 h1]
    rw [if_neg (by simp; omega)]

theorem putN_inj {a b : Int} {r q : List UInt8} (ha : 0 ≤ a) (ha1 : a ≤ 9223372036854775807) (hb : 0 ≤ b) (hb1 : b ≤ 9223372036854775807) (h : putN a ++ r = putN b ++ q) : a = b ∧ r = q := by
  have h1 := (getN_iff (putN a ++ r) a).2 ⟨ha, ha1, r, rfl⟩
  have h2 := (getN_iff (putN a ++ r) b).2 ⟨hb, hb1, q, h⟩
  rw [h1] at h2
  injection h2 with h2
  subst h2
  exact ⟨rfl, List.append_cancel_left h⟩

/-! ### Texts and lists, at the beginning of the bytes, with what is left over -/

def maxI : Int := 9223372036854775807

def putT (t : List UInt8) : List UInt8 := putN t.length ++ t

def getT (s : List UInt8) : Option (List UInt8 × List UInt8) :=
  match getN s with
  | none => none
  | some n => let r := s.drop (putN n).length
    if r.length < n then none else some (r.take n.toNat, r.drop n.toNat)

def putTs : List (List UInt8) → List UInt8
  | [] => []
  | t :: l => putT t ++ putTs l

def putL (l : List (List UInt8)) : List UInt8 := putN l.length ++ putTs l

def getTs : Nat → List UInt8 → Option (List (List UInt8) × List UInt8)
  | 0, s => some ([], s)
  | k + 1, s => match getT s with
    | none => none
    | some (t, r) => match getTs k r with
      | none => none
      | some (l, q) => some (t :: l, q)

def getL (s : List UInt8) : Option (List (List UInt8) × List UInt8) :=
  match getN s with
  | none => none
  | some n => let r := s.drop (putN n).length
    if r.length < n then none else getTs n.toNat r

theorem getT_iff (s t r : List UInt8) (hs : s.length ≤ 9223372036854775807) : getT s = some (t, r) ↔ s = putT t ++ r := by
  constructor
  · intro h
    unfold getT at h
    split at h
    · cases h
    · rename_i n hn
      obtain ⟨h0, h1, q, rfl⟩ := (getN_iff s n).1 hn
      simp only [List.drop_left] at h
      split at h
      · cases h
      · rename_i hl
        injection h with h
        injection h with ha hb
        have hlen : (t.length : Int) = n := by rw [← ha, List.length_take]; omega
        unfold putT
        rw [hlen, List.append_assoc, ← ha, ← hb, List.take_append_drop]
  · rintro rfl
    have hl : (t.length : Int) ≤ 9223372036854775807 := by
      unfold putT at hs; simp only [List.length_append] at hs; omega
    have hn := (getN_iff (putT t ++ r) t.length).2 ⟨by omega, hl, t ++ r, by unfold putT; rw [List.append_assoc]⟩
    unfold getT
    simp only [hn]
    unfold putT
    rw [List.append_assoc, List.drop_left]
    rw [if_neg (by simp only [List.length_append]; omega)]
    simp

theorem getTs_iff : ∀ (k : Nat) (s : List UInt8) (l : List (List UInt8)) (r : List UInt8), s.length ≤ 9223372036854775807 → (getTs k s = some (l, r) ↔ l.length = k ∧ s = putTs l ++ r)
  | 0, s, l, r, hs => by
    unfold getTs
    constructor
    · intro h
      injection h with h
      injection h with h1 h2
      subst h1 h2
      exact ⟨rfl, rfl⟩
    · rintro ⟨h, rfl⟩
      rw [List.length_eq_zero_iff] at h
      subst h; rfl
  | k + 1, s, l, r, hs => by
    constructor
    · intro h
      unfold getTs at h
      split at h
      · cases h
      · rename_i t q ht
        have hq := (getT_iff s t q hs).1 ht
        split at h
        · cases h
        · rename_i m z hz
          injection h with h
          injection h with h1 h2
          subst h1 h2
          obtain ⟨e1, e2⟩ := (getTs_iff k q m z (by rw [hq, List.length_append] at hs; omega)).1 hz
          exact ⟨by simp [e1], by unfold putTs; rw [hq, e2, List.append_assoc]⟩
    · rintro ⟨h, rfl⟩
      cases l with
      | nil => simp at h
      | cons t l =>
        unfold putTs at hs ⊢
        rw [List.append_assoc] at hs ⊢
        unfold getTs
        rw [(getT_iff _ t (putTs l ++ r) hs).2 rfl]
        simp only
        rw [(getTs_iff k _ l r (by rw [List.length_append] at hs; omega)).2 ⟨by simpa using h, rfl⟩]

theorem putT_pos (t : List UInt8) : 1 ≤ (putT t).length := by
  unfold putT putN; rw [if_neg (by omega)]; simp; omega

theorem putTs_len : ∀ (l : List (List UInt8)), l.length ≤ (putTs l).length
  | [] => by simp
  | t :: l => by
    have := putTs_len l
    have := putT_pos t
    unfold putTs; simp only [List.length_cons, List.length_append]; omega

theorem getL_iff (s : List UInt8) (l : List (List UInt8)) (r : List UInt8) (hs : s.length ≤ 9223372036854775807) : getL s = some (l, r) ↔ s = putL l ++ r := by
  constructor
  · intro h
    unfold getL at h
    split at h
    · cases h
    · rename_i n hn
      obtain ⟨h0, h1, q, rfl⟩ := (getN_iff s n).1 hn
      simp only [List.drop_left] at h
      split at h
      · cases h
      · obtain ⟨e1, e2⟩ := (getTs_iff _ _ _ _ (by rw [List.length_append] at hs; omega)).1 h
        unfold putL
        rw [show (l.length : Int) = n by omega, e2, List.append_assoc]
  · rintro rfl
    have hp := putTs_len l
    have hl : (l.length : Int) ≤ 9223372036854775807 := by
      unfold putL at hs; simp only [List.length_append] at hs; omega
    have hn := (getN_iff (putL l ++ r) l.length).2 ⟨by omega, hl, putTs l ++ r, by unfold putL; rw [List.append_assoc]⟩
    unfold getL
    simp only [hn]
    unfold putL at hs ⊢
    rw [List.append_assoc] at hs ⊢
    rw [List.drop_left]
    rw [if_neg (by simp only [List.length_append]; omega)]
    exact (getTs_iff _ _ _ _ (by rw [List.length_append] at hs; omega)).2 ⟨by omega, rfl⟩

/-- Of what is cut off nothing is got. -/
theorem getN_cut (n : Int) (h0 : 0 ≤ n) (i : Nat) (hi : i < (putN n).length) : getN ((putN n).take i) = none := by
  cases h : getN ((putN n).take i) with
  | none => rfl
  | some m =>
    exfalso
    obtain ⟨m0, m1, r, hr⟩ := (getN_iff _ m).1 h
    have hc : (58 : UInt8) ∈ (putN n).take i := by
      rw [hr]; unfold putN; rw [if_neg (by omega)]; simp
    have hk : putN n = itoa n ++ [58] := by unfold putN; rw [if_neg (by omega)]
    rw [hk] at hc hi
    rw [List.length_append, List.length_singleton] at hi
    rw [List.take_append_of_le_length (by omega)] at hc
    exact itoa_no_colon n h0 (List.mem_of_mem_take hc)

theorem getT_cut (t : List UInt8) (hs : (putT t).length ≤ 9223372036854775807) (i : Nat) (hi : i < (putT t).length) : getT ((putT t).take i) = none := by
  cases h : getT ((putT t).take i) with
  | none => rfl
  | some m =>
    exfalso
    obtain ⟨u, r⟩ := m
    have e := (getT_iff _ u r (by rw [List.length_take]; omega)).1 h
    have e2 : putT t = putT u ++ (r ++ (putT t).drop i) := by rw [← List.append_assoc, ← e, List.take_append_drop]
    have a := (getT_iff _ u _ hs).2 e2
    have b := (getT_iff _ t [] hs).2 (by simp)
    rw [a] at b
    injection b with b
    injection b with _ b
    have := congrArg List.length b
    simp only [List.length_append, List.length_drop, List.length_nil] at this
    omega

theorem getL_cut (l : List (List UInt8)) (hs : (putL l).length ≤ 9223372036854775807) (i : Nat) (hi : i < (putL l).length) : getL ((putL l).take i) = none := by
  cases h : getL ((putL l).take i) with
  | none => rfl
  | some m =>
    exfalso
    obtain ⟨u, r⟩ := m
    have e := (getL_iff _ u r (by rw [List.length_take]; omega)).1 h
    have e2 : putL l = putL u ++ (r ++ (putL l).drop i) := by rw [← List.append_assoc, ← e, List.take_append_drop]
    have a := (getL_iff _ u _ hs).2 e2
    have b := (getL_iff _ l [] hs).2 (by simp)
    rw [a] at b
    injection b with b
    injection b with _ b
    have := congrArg List.length b
    simp only [List.length_append, List.length_drop, List.length_nil] at this
    omega

/-- Of two lists that are unlike neither one's bytes, with anything behind them, are the other one's. -/
theorem putL_apart (a b : List (List UInt8)) (x y : List UInt8) (hs : (putL a ++ x).length ≤ 9223372036854775807) (h : putL a ++ x = putL b ++ y) : a = b ∧ x = y := by
  have h1 := (getL_iff _ a x hs).2 rfl
  have h2 := (getL_iff _ b y hs).2 h
  rw [h1] at h2
  injection h2 with h2
  injection h2 with e1 e2
  exact ⟨e1, e2⟩

theorem putL_inj (a b : List (List UInt8)) (hs : (putL a).length ≤ 9223372036854775807) : putL a = putL b ↔ a = b := by
  constructor
  · intro h
    exact (putL_apart a b [] [] (by simpa using hs) (by simpa using h)).1
  · rintro rfl; rfl

/-! ### The document's answer, by definition: at most nineteen digits are read, and the number's bytes must stand there -/

def refAcc : Nat → Int → List UInt8 → Option Int
  | 0, n, _ => some n
  | _ + 1, n, [] => some n
  | k + 1, n, c :: r =>
    if 48 ≤ c.toNat ∧ c.toNat ≤ 57 then
      if (9223372036854775807 - ((c.toNat : Int) - 48)) / 10 < n then none else refAcc k (n * 10 + ((c.toNat : Int) - 48)) r
    else some n

def refN (s : List UInt8) : Option Int :=
  match refAcc 19 0 s with
  | none => none
  | some n => if s.take (putN n).length = putN n then some n else none

theorem refAcc_range : ∀ (k : Nat) (n m : Int) (s : List UInt8), 0 ≤ n → n ≤ 9223372036854775807 → refAcc k n s = some m → 0 ≤ m ∧ m ≤ 9223372036854775807
  | 0, n, m, s, h0, h1, h => by
    simp only [refAcc] at h; injection h with h; omega
  | k + 1, n, m, [], h0, h1, h => by
    simp only [refAcc] at h; injection h with h; omega
  | k + 1, n, m, c :: r, h0, h1, h => by
    simp only [refAcc] at h
    split at h
    · split at h
      · cases h
      · exact refAcc_range k _ m r (by omega) (by omega) h
    · injection h with h; omega

theorem refAcc_dec (u : Nat) : ∀ (k : Nat) (r : List UInt8), u < 9223372036854775808 → refAcc (k + (decDigits u).length) 0 (decDigits u ++ r) = refAcc k u r := by
  induction u using Nat.strongRecOn with
  | _ u ih =>
    intro k r hu
    rw [decDigits]
    split
    · rename_i h
      simp only [List.cons_append, List.nil_append, List.length_singleton, refAcc, dig_toNat _ h]
      rw [if_pos (by omega), if_neg (by omega)]
      congr 1; omega
    · rename_i h
      rw [List.append_assoc, List.length_append, List.length_singleton, show k + ((decDigits (u / 10)).length + 1) = (k + 1) + (decDigits (u / 10)).length by omega, ih (u / 10) (by omega) _ _ (by omega)]
      simp only [List.cons_append, List.nil_append, refAcc, dig_toNat (u % 10) (by omega)]
      rw [if_pos (by omega), if_neg (by omega)]
      congr 1; omega

theorem refAcc_stop (k : Nat) (n : Int) (r : List UInt8) : refAcc k n (58 :: r) = some n := by
  cases k with
  | zero => rfl
  | succ k => simp [refAcc]

theorem refN_eq (s : List UInt8) : refN s = getN s := by
  have key : ∀ n, refN s = some n ↔ getN s = some n := by
    intro n
    rw [getN_iff]
    constructor
    · intro h
      unfold refN at h
      split at h
      · cases h
      · rename_i m hm
        split at h
        · rename_i hp
          injection h with h
          subst h
          have hr := refAcc_range 19 0 m s (by omega) (by omega) hm
          exact ⟨hr.1, hr.2, s.drop (putN m).length, by conv => lhs; rw [← List.take_append_drop (putN m).length s, hp]⟩
        · cases h
    · rintro ⟨h0, h1, r, rfl⟩
      have hl := itoa_len19 n h0 h1
      have e : putN n ++ r = decDigits n.toNat ++ 58 :: r := by
        unfold putN; rw [if_neg (by omega), itoa_dec n h0]; simp
      rw [itoa_dec n h0] at hl
      have ha : refAcc 19 0 (putN n ++ r) = some n := by
        rw [e, show 19 = (19 - (decDigits n.toNat).length) + (decDigits n.toNat).length by omega, refAcc_dec _ _ _ (by omega), refAcc_stop]
        congr 1; omega
      unfold refN
      rw [ha]
      simp
  cases h : refN s with
  | none =>
    cases h2 : getN s with
    | none => rfl
    | some n => rw [(key n).2 h2] at h; cases h
  | some n => rw [(key n).1 h]

/-! ### Lengths -/

theorem putN_le (n : Int) (h1 : n ≤ 9223372036854775807) : (putN n).length ≤ 20 := by
  unfold putN
  split
  · simp
  · have := itoa_len19 n (by omega) h1
    simp only [List.length_append, List.length_singleton]; omega

theorem putN_pos (n : Int) (h0 : 0 ≤ n) : 2 ≤ (putN n).length := by
  unfold putN
  rw [if_neg (by omega), itoa_dec n h0]
  have : 0 < (decDigits n.toNat).length := List.length_pos_iff.2 (dec_ne _)
  simp only [List.length_append, List.length_singleton]; omega

def totalT : List (List UInt8) → Nat
  | [] => 0
  | t :: l => t.length + totalT l

theorem putT_le (t : List UInt8) (h : (t.length : Int) ≤ 9223372036854775807) : (putT t).length ≤ t.length + 20 := by
  have := putN_le t.length h
  unfold putT; rw [List.length_append]; omega

theorem putTs_le : ∀ (l : List (List UInt8)), (totalT l : Int) ≤ 9223372036854775807 → (putTs l).length ≤ totalT l + 20 * l.length
  | [], _ => by simp [putTs]
  | t :: l, h => by
    unfold totalT at h ⊢
    have h1 := putTs_le l (by omega)
    have h2 := putT_le t (by omega)
    unfold putTs
    simp only [List.length_append, List.length_cons]; omega

theorem putL_le (l : List (List UInt8)) (h : (totalT l : Int) ≤ 9223372036854775807) (hl : (l.length : Int) ≤ 9223372036854775807) : (putL l).length ≤ totalT l + 20 * l.length + 20 := by
  have h1 := putTs_le l h
  have h2 := putN_le l.length hl
  unfold putL; rw [List.length_append]; omega

/-- At a place: the number and where it ends. -/
def getAt (s : List UInt8) (i : Int) : Option (Int × Int) :=
  if i < 0 ∨ (s.length : Int) < i then none else (getN (s.drop i.toNat)).map fun n => (n, i + (putN n).length)

def getTAt (s : List UInt8) (i : Int) : Option (List UInt8 × Int) :=
  match getAt s i with
  | none => none
  | some (n, j) => if (s.length : Int) - j < n then none else some ((s.drop j.toNat).take n.toNat, j + n)

def getTsAt (s : List UInt8) : Nat → Int → Option (List (List UInt8) × Int)
  | 0, j => some ([], j)
  | k + 1, j => match getTAt s j with
    | none => none
    | some (t, i) => match getTsAt s k i with
      | none => none
      | some (l, q) => some (t :: l, q)

def getLAt (s : List UInt8) (i : Int) : Option (List (List UInt8) × Int) :=
  match getAt s i with
  | none => none
  | some (n, j) => if (s.length : Int) - j < n then none else getTsAt s n.toNat j

theorem getAt_eq (s : List UInt8) (i : Nat) (hi : i ≤ s.length) : getAt s i = (getN (s.drop i)).map fun n => (n, (i : Int) + (putN n).length) := by
  unfold getAt; rw [if_neg (by omega)]; simp

/-- The number stands within the bytes. -/
theorem getAt_some {s : List UInt8} {i : Int} {n j : Int} (h : getAt s i = some (n, j)) : 0 ≤ i ∧ 0 ≤ n ∧ n ≤ 9223372036854775807 ∧ i + 2 ≤ j ∧ j ≤ s.length ∧ j = i + (putN n).length ∧ s.drop i.toNat = putN n ++ s.drop j.toNat := by
  unfold getAt at h
  split at h
  · cases h
  · rename_i hk
    rw [Option.map_eq_some_iff] at h
    obtain ⟨m, hm, he⟩ := h
    injection he with h1 h2
    subst h1
    obtain ⟨h0, h1, r, hr⟩ := (getN_iff _ m).1 hm
    have hp := putN_pos m h0
    have hlen := congrArg List.length hr
    rw [List.length_drop, List.length_append] at hlen
    refine ⟨by omega, h0, h1, by omega, by omega, h2.symm, ?_⟩
    rw [show j.toNat = i.toNat + (putN m).length by omega, ← List.drop_drop, hr, List.drop_left]

theorem getTAt_eq (s : List UInt8) (i : Nat) (hi : i ≤ s.length) : getTAt s i = (getT (s.drop i)).map fun x => (x.1, (i : Int) + (putT x.1).length) := by
  unfold getTAt getT
  rw [getAt_eq s i hi]
  cases h : getN (s.drop i) with
  | none => rfl
  | some n =>
    obtain ⟨h0, h1, r, hr⟩ := (getN_iff _ n).1 h
    have hlen := congrArg List.length hr
    rw [List.length_drop, List.length_append] at hlen
    simp only [Option.map_some, List.drop_drop, List.length_drop]
    by_cases hk : (s.length : Int) - ((i : Int) + (putN n).length) < n
    · rw [if_pos hk, if_pos (by omega)]; rfl
    · rw [if_neg hk, if_neg (by omega)]
      simp only [Option.map_some]
      have e : ((i : Int) + (putN n).length).toNat = i + (putN n).length := by omega
      rw [e]
      congr 2
      unfold putT
      rw [List.length_append, List.length_take, List.length_drop]
      rw [show ((min n.toNat (s.length - (i + (putN n).length)) : Nat) : Int) = n by omega]
      omega

theorem getT_some {s t r : List UInt8} (hs : s.length ≤ 9223372036854775807) (h : getT s = some (t, r)) : r = s.drop (putT t).length ∧ (putT t).length ≤ s.length := by
  have e := (getT_iff s t r hs).1 h
  subst e
  simp

theorem getTsAt_eq (s : List UInt8) (hs : s.length ≤ 9223372036854775807) : ∀ (k i : Nat), i ≤ s.length → getTsAt s k i = (getTs k (s.drop i)).map fun x => (x.1, (i : Int) + (putTs x.1).length)
  | 0, i, hi => by simp [getTsAt, getTs, putTs]
  | k + 1, i, hi => by
    unfold getTsAt getTs
    rw [getTAt_eq s i hi]
    cases h : getT (s.drop i) with
    | none => rfl
    | some x =>
      obtain ⟨t, r⟩ := x
      obtain ⟨hr, hl⟩ := getT_some (by rw [List.length_drop]; omega) h
      rw [List.length_drop] at hl
      simp only [Option.map_some]
      have := getTsAt_eq s hs k (i + (putT t).length) (by omega)
      rw [Int.natCast_add] at this
      rw [this, hr, List.drop_drop]
      cases h2 : getTs k (s.drop (i + (putT t).length)) with
      | none => rfl
      | some y =>
        simp only [Option.map_some]
        congr 2
        simp only [putTs, List.length_append]
        omega

theorem getLAt_eq (s : List UInt8) (hs : s.length ≤ 9223372036854775807) (i : Nat) (hi : i ≤ s.length) : getLAt s i = (getL (s.drop i)).map fun x => (x.1, (i : Int) + (putL x.1).length) := by
  unfold getLAt getL
  rw [getAt_eq s i hi]
  cases h : getN (s.drop i) with
  | none => rfl
  | some n =>
    obtain ⟨h0, h1, r, hr⟩ := (getN_iff _ n).1 h
    have hlen := congrArg List.length hr
    rw [List.length_drop, List.length_append] at hlen
    simp only [Option.map_some, List.drop_drop, List.length_drop]
    by_cases hk : (s.length : Int) - ((i : Int) + (putN n).length) < n
    · rw [if_pos hk, if_pos (by omega)]; rfl
    · rw [if_neg hk, if_neg (by omega)]
      have e := getTsAt_eq s hs n.toNat (i + (putN n).length) (by omega)
      rw [Int.natCast_add] at e
      rw [e]
      cases h2 : getTs n.toNat (s.drop (i + (putN n).length)) with
      | none => rfl
      | some y =>
        obtain ⟨l, q⟩ := y
        have hq := (getTs_iff n.toNat _ l q (by rw [List.length_drop]; omega)).1 h2
        simp only [Option.map_some]
        congr 2
        simp only [putL, List.length_append]
        rw [show (l.length : Int) = n by omega]
        omega

/-! ### The laws, at places -/

theorem getAt_back (a b : List UInt8) (n : Int) (h0 : 0 ≤ n) (h1 : n ≤ 9223372036854775807) : getAt (a ++ putN n ++ b) a.length = some (n, (a.length : Int) + (putN n).length) := by
  rw [List.append_assoc, getAt_eq _ _ (by simp), List.drop_left, (getN_iff _ n).2 ⟨h0, h1, b, rfl⟩]
  rfl

theorem getTAt_back (a b t : List UInt8) (hs : (a ++ putT t ++ b).length ≤ 9223372036854775807) : getTAt (a ++ putT t ++ b) a.length = some (t, (a.length : Int) + (putT t).length) := by
  rw [List.append_assoc] at hs ⊢
  rw [getTAt_eq _ _ (by simp), List.drop_left, (getT_iff _ t b (by rw [List.length_append] at hs; omega)).2 rfl]
  rfl

theorem getLAt_back (a b : List UInt8) (l : List (List UInt8)) (hs : (a ++ putL l ++ b).length ≤ 9223372036854775807) : getLAt (a ++ putL l ++ b) a.length = some (l, (a.length : Int) + (putL l).length) := by
  rw [List.append_assoc] at hs ⊢
  rw [getLAt_eq _ hs _ (by simp), List.drop_left, (getL_iff _ l b (by rw [List.length_append] at hs; omega)).2 rfl]
  rfl

theorem getAt_bound {s : List UInt8} {i : Int} {x : Int × Int} (h : getAt s i = some x) : 0 ≤ i ∧ i ≤ s.length := by
  obtain ⟨n, j⟩ := x
  have := getAt_some h
  omega

theorem getTAt_way {s t : List UInt8} {i j : Int} (hs : s.length ≤ 9223372036854775807) (h : getTAt s i = some (t, j)) : ∃ n k, getAt s i = some (n, k) ∧ k ≤ j ∧ j ≤ s.length ∧ j = i + (putT t).length ∧ (s.drop i.toNat).take (j - i).toNat = putT t := by
  have h' := h
  unfold getTAt at h'
  split at h'
  · cases h'
  · rename_i n k hk
    have hb := getAt_some hk
    split at h'
    · cases h'
    · injection h' with h'
      injection h' with e1 e2
      have hi : i = ((i.toNat : Nat) : Int) := by omega
      rw [hi, getTAt_eq s _ (by omega), Option.map_eq_some_iff] at h
      obtain ⟨⟨u, r⟩, hu, he⟩ := h
      injection he with a1 a2
      dsimp only at a1 a2
      subst a1
      have e := (getT_iff _ u r (by rw [List.length_drop]; omega)).1 hu
      refine ⟨n, k, hk, by omega, by omega, by omega, ?_⟩
      rw [e, show (j - i).toNat = (putT u).length by omega, List.take_left]

theorem getLAt_way {s : List UInt8} {l : List (List UInt8)} {i j : Int} (hs : s.length ≤ 9223372036854775807) (h : getLAt s i = some (l, j)) : ∃ n k, getAt s i = some (n, k) ∧ k ≤ j ∧ j ≤ s.length ∧ j = i + (putL l).length ∧ (s.drop i.toNat).take (j - i).toNat = putL l := by
  have h' := h
  unfold getLAt at h'
  split at h'
  · cases h'
  · rename_i n k hk
    have hb := getAt_some hk
    have hi : i = ((i.toNat : Nat) : Int) := by omega
    rw [hi, getLAt_eq s hs _ (by omega), Option.map_eq_some_iff] at h
    obtain ⟨⟨u, r⟩, hu, he⟩ := h
    injection he with a1 a2
    dsimp only at a1 a2
    subst a1
    have e := (getL_iff _ u r (by rw [List.length_drop]; omega)).1 hu
    have hlen := congrArg List.length e
    rw [List.length_drop, List.length_append] at hlen
    have e' := e
    rw [hb.2.2.2.2.2.2] at e'
    have hn : n = u.length := by
      have : putN n ++ s.drop k.toNat = putN u.length ++ (putTs u ++ r) := by
        rw [e']; unfold putL; rw [List.append_assoc]
      have hp := putTs_len u
      have hq : (putTs u).length ≤ (putL u).length := by unfold putL; rw [List.length_append]; omega
      exact (putN_inj hb.2.1 hb.2.2.1 (by omega) (by omega) this).1
    refine ⟨n, k, hk, ?_, by omega, by omega, ?_⟩
    · have : (putN n).length ≤ (putL u).length := by unfold putL; rw [hn, List.length_append]; omega
      omega
    · rw [e, show (j - i).toNat = (putL u).length by omega, List.take_left]

/-! ### The reference's GetList has no test of how many there can be -/

def refLAt (s : List UInt8) (i : Int) : Option (List (List UInt8) × Int) :=
  match getAt s i with
  | none => none
  | some (n, j) => getTsAt s n.toNat j

theorem getTs_short {k : Nat} {s : List UInt8} (hs : s.length ≤ 9223372036854775807) (h : s.length < k) : getTs k s = none := by
  cases e : getTs k s with
  | none => rfl
  | some x =>
    obtain ⟨l, r⟩ := x
    obtain ⟨e1, e2⟩ := (getTs_iff k s l r hs).1 e
    have h1 := putTs_len l
    have h2 := congrArg List.length e2
    rw [List.length_append] at h2
    omega

theorem refLAt_eq (s : List UInt8) (hs : s.length ≤ 9223372036854775807) (i : Int) : refLAt s i = getLAt s i := by
  unfold refLAt getLAt
  cases h : getAt s i with
  | none => rfl
  | some x =>
    obtain ⟨n, j⟩ := x
    have hb := getAt_some h
    simp only
    split
    · rename_i hk
      have hj : j = ((j.toNat : Nat) : Int) := by omega
      rw [hj, getTsAt_eq s hs n.toNat j.toNat (by omega), getTs_short (by rw [List.length_drop]; omega) (by rw [List.length_drop]; omega)]
      rfl
    · rfl

end Go.Proofs.YthgjomihopijeaaGreatDoor
