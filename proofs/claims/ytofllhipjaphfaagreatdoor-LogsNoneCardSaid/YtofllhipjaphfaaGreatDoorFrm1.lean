/- Frames, in plain Lean (chapter 04). No program in sight. -/
import Derived.Test.YtofllhipjaphfaaGreatDoorSum1
import Derived.Test.YtofllhipjaphfaaGreatDoorNums1
namespace Go.Proofs.YtofllhipjaphfaaGreatDoor
open Go

def tailB (p : List UInt8) : List UInt8 := hex8 (sumN p) ++ [10]
def frameB (p : List UInt8) : List UInt8 := putT p ++ tailB p
def maxFrame : Nat := 4194304
def frameS (p : List UInt8) : List UInt8 × Int := if p.length ≤ maxFrame then (frameB p, 0) else ([], 3)
/-- The payload of the frame that stands at a place, and the place behind it. -/
def nextS (s : List UInt8) (i : Int) : Option (List UInt8 × Int) :=
  match getTAt s i with
  | none => none
  | some (p, j) => if p.length ≤ maxFrame ∧ j + 9 ≤ s.length ∧ (s.drop j.toNat).take 9 = tailB p then some (p, j + 9) else none
theorem tailB_len (p : List UInt8) : (tailB p).length = 9 := rfl
theorem frameB_len (p : List UInt8) : (frameB p).length = (putT p).length + 9 := by unfold frameB; rw [List.length_append, tailB_len]
theorem frameB_ge (p : List UInt8) : 11 ≤ (frameB p).length := by
  rw [frameB_len]
  have := putN_pos p.length (by omega)
  unfold putT
  rw [List.length_append]; omega
theorem putT_apart {p q x y : List UInt8} (hs : (putT p ++ x).length ≤ 9223372036854775807) (h : putT p ++ x = putT q ++ y) : p = q ∧ x = y := by
  have h1 := (getT_iff (putT p ++ x) p x hs).2 rfl
  have h2 := (getT_iff (putT p ++ x) q y hs).2 h
  rw [h1] at h2
  simp only [Option.some.injEq, Prod.mk.injEq] at h2
  exact h2
theorem frameB_apart {p q x y : List UInt8} (hs : (frameB p ++ x).length ≤ 9223372036854775807) (h : frameB p ++ x = frameB q ++ y) : p = q ∧ x = y := by
  unfold frameB at h hs
  rw [List.append_assoc, List.append_assoc] at h
  rw [List.append_assoc] at hs
  obtain ⟨rfl, h⟩ := putT_apart hs h
  exact ⟨rfl, List.append_cancel_left h⟩

/-- Where a frame stands. -/
theorem nextS_iff {s : List UInt8} (hs : s.length ≤ 9223372036854775807) {i : Nat} (hi : i ≤ s.length) (p : List UInt8) (j : Int) :
    nextS s i = some (p, j) ↔ p.length ≤ maxFrame ∧ j = (i : Int) + (frameB p).length ∧ ∃ r, s.drop i = frameB p ++ r := by
  unfold nextS
  rw [getTAt_eq s i hi]
  have hd : (s.drop i).length ≤ 9223372036854775807 := by rw [List.length_drop]; omega
  constructor
  · intro h
    cases hg : getT (s.drop i) with
    | none => rw [hg] at h; simp at h
    | some x =>
      obtain ⟨t, r⟩ := x
      rw [hg] at h
      simp only [Option.map_some] at h
      split at h
      · rename_i hc
        simp only [Option.some.injEq, Prod.mk.injEq] at h
        obtain ⟨rfl, rfl⟩ := h
        obtain ⟨h1, h2, h3⟩ := hc
        have hsp := (getT_iff (s.drop i) t r hd).1 hg
        refine ⟨h1, by rw [frameB_len]; omega, ?_⟩
        have hr : s.drop (i + (putT t).length) = r := by rw [← List.drop_drop, hsp, List.drop_left]
        rw [show ((i : Int) + ((putT t).length : Int)).toNat = i + (putT t).length by omega, hr] at h3
        refine ⟨r.drop 9, ?_⟩
        unfold frameB
        rw [hsp, List.append_assoc, ← h3, List.take_append_drop]
      · cases h
  · rintro ⟨h1, rfl, r, hr⟩
    unfold frameB at hr
    rw [List.append_assoc] at hr
    have hg := (getT_iff (s.drop i) p (tailB p ++ r) hd).2 hr
    rw [hg]
    simp only [Option.map_some]
    have hl : (putT p).length + 9 ≤ s.length - i := by
      have := congrArg List.length hr
      rw [List.length_drop, List.length_append, List.length_append, tailB_len] at this; omega
    have hr2 : s.drop (i + (putT p).length) = tailB p ++ r := by rw [← List.drop_drop, hr, List.drop_left]
    rw [if_pos ⟨h1, by omega, by rw [show ((i : Int) + ((putT p).length : Int)).toNat = i + (putT p).length by omega, hr2, ← tailB_len p, List.take_left]⟩]
    rw [frameB_len]
    simp only [Option.some.injEq, Prod.mk.injEq, true_and]
    omega
theorem nextS_at {s : List UInt8} {i j : Int} {p : List UInt8} (h : nextS s i = some (p, j)) : 0 ≤ i ∧ i ≤ s.length := by
  unfold nextS at h
  cases hg : getTAt s i with
  | none => rw [hg] at h; cases h
  | some x =>
    unfold getTAt at hg
    split at hg
    · cases hg
    · rename_i hx
      exact getAt_bound hx

/-! ### All frames from the beginning on -/
def framesB (l : List (List UInt8)) : List UInt8 := (l.map frameB).flatten
theorem framesB_append (a b : List (List UInt8)) : framesB (a ++ b) = framesB a ++ framesB b := by unfold framesB; rw [List.map_append, List.flatten_append]
theorem framesB_cons (p : List UInt8) (l : List (List UInt8)) : framesB (p :: l) = frameB p ++ framesB l := rfl
def wholeF (s : List UInt8) : Nat → Int → List (List UInt8) × Int
  | 0, i => ([], i)
  | n + 1, i => match nextS s i with
    | none => ([], i)
    | some (p, j) => (p :: (wholeF s n j).1, (wholeF s n j).2)
/-- The payloads from a place on, and where they end. -/
def wholeR (s : List UInt8) (i : Int) : List (List UInt8) × Int := wholeF s (s.length + 1 - i.toNat) i
def wholeS (s : List UInt8) : List (List UInt8) × Int := wholeR s 0
theorem nextS_in {s : List UInt8} (hs : s.length ≤ 9223372036854775807) {i j : Int} {p : List UInt8} (h : nextS s i = some (p, j)) : 0 ≤ i ∧ i + 11 ≤ j ∧ j ≤ s.length := by
  obtain ⟨h1, h2⟩ := nextS_at h
  obtain ⟨k, rfl⟩ := Int.eq_ofNat_of_zero_le h1
  have hk : k ≤ s.length := by omega
  obtain ⟨h3, rfl, r, hr⟩ := (nextS_iff hs hk p j).1 h
  have hl := congrArg List.length hr
  rw [List.length_drop, List.length_append] at hl
  have := frameB_ge p
  omega
theorem wholeF_fuel {s : List UInt8} (hs : s.length ≤ 9223372036854775807) : ∀ (n m : Nat) (i : Int), 0 ≤ i → s.length < n + i.toNat → s.length < m + i.toNat → wholeF s n i = wholeF s m i
  | 0, m, i, h0, h1, h2 => by
    cases m with
    | zero => rfl
    | succ m =>
      unfold wholeF
      cases h : nextS s i with
      | none => rfl
      | some x => have := nextS_in hs h; omega
  | n + 1, m, i, h0, h1, h2 => by
    cases m with
    | zero =>
      unfold wholeF
      cases h : nextS s i with
      | none => rfl
      | some x => have := nextS_in hs h; omega
    | succ m =>
      unfold wholeF
      cases h : nextS s i with
      | none => rfl
      | some x =>
        obtain ⟨p, j⟩ := x
        have := nextS_in hs h
        simp only [wholeF_fuel hs n m j (by omega) (by omega) (by omega)]
theorem wholeR_eq {s : List UInt8} (hs : s.length ≤ 9223372036854775807) (i : Int) (h0 : 0 ≤ i) : wholeR s i = (match nextS s i with
    | none => ([], i)
    | some (p, j) => (p :: (wholeR s j).1, (wholeR s j).2)) := by
  cases h : nextS s i with
  | none =>
    unfold wholeR
    cases hn : s.length + 1 - i.toNat with
    | zero => rfl
    | succ n => unfold wholeF; rw [h]
  | some x =>
    obtain ⟨p, j⟩ := x
    have hj := nextS_in hs h
    unfold wholeR
    obtain ⟨n, hn⟩ : ∃ n, s.length + 1 - i.toNat = n + 1 := ⟨s.length - i.toNat, by omega⟩
    rw [hn, wholeF, h]
    simp only
    rw [wholeF_fuel hs n (s.length + 1 - j.toNat) j (by omega) (by omega) (by omega)]
/-- What stands from a place on: frames, and behind them something that does not begin with one. -/
theorem wholeR_way {s : List UInt8} (hs : s.length ≤ 9223372036854775807) : ∀ (n : Nat) (i : Nat), s.length + 1 - i ≤ n → i ≤ s.length →
    ∃ e : Nat, (wholeR s i).2 = e ∧ i ≤ e ∧ e ≤ s.length ∧ e = i + (framesB (wholeR s i).1).length ∧ s.drop i = framesB (wholeR s i).1 ++ s.drop e ∧ (∀ p ∈ (wholeR s i).1, p.length ≤ maxFrame) ∧ nextS s e = none
  | 0, i, hn, hi => by omega
  | n + 1, i, hn, hi => by
    rw [wholeR_eq hs i (by omega)]
    cases h : nextS s (i : Int) with
    | none => exact ⟨i, rfl, Nat.le_refl _, hi, rfl, rfl, by simp, h⟩
    | some x =>
      obtain ⟨p, j⟩ := x
      have hj := nextS_in hs h
      obtain ⟨h1, rfl, r, hr⟩ := (nextS_iff hs hi p j).1 h
      have hg := frameB_ge p
      obtain ⟨e, he, h2, h3, h4, h5, h6, h7⟩ := wholeR_way hs n (i + (frameB p).length) (by omega) (by omega)
      rw [Int.natCast_add] at he h4 h5 h6
      have hd : s.drop (i + (frameB p).length) = r := by rw [← List.drop_drop, hr, List.drop_left]
      refine ⟨e, he, by omega, h3, ?_, ?_, ?_, h7⟩
      · simp only [framesB_cons, List.length_append]; omega
      · simp only [framesB_cons]
        rw [List.append_assoc, ← h5, hd, hr]
      · intro q hq
        rcases List.mem_cons.1 hq with rfl | hq
        · exact h1
        · exact h6 q hq
theorem wholeR_of {s : List UInt8} (hs : s.length ≤ 9223372036854775807) : ∀ (l : List (List UInt8)) (i : Nat) (r : List UInt8), i ≤ s.length → (∀ p ∈ l, p.length ≤ maxFrame) → s.drop i = framesB l ++ r →
    wholeR s i = (l ++ (wholeR s ((i : Int) + (framesB l).length)).1, (wholeR s ((i : Int) + (framesB l).length)).2)
  | [], i, r, _, _, _ => by simp [framesB]
  | p :: l, i, r, hi, hl, h => by
    rw [framesB_cons, List.append_assoc] at h
    have hn := (nextS_iff hs hi p ((i : Int) + (frameB p).length)).2 ⟨hl p (by simp), rfl, _, h⟩
    have hle := (nextS_in hs hn).2.2
    have hd : s.drop (i + (frameB p).length) = framesB l ++ r := by rw [← List.drop_drop, h, List.drop_left]
    have ih := wholeR_of hs l (i + (frameB p).length) r (by omega) (fun q hq => hl q (by simp [hq])) hd
    rw [wholeR_eq hs i (by omega), hn]
    simp only
    rw [Int.natCast_add] at ih
    rw [ih, framesB_cons, List.length_append, Int.natCast_add]
    simp only [List.cons_append, Int.add_assoc]
end Go.Proofs.YtofllhipjaphfaaGreatDoor
