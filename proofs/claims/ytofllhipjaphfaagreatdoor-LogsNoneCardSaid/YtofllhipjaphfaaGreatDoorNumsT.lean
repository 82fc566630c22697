/- The walk of nums.GetText. -/
import Derived.Test.YtofllhipjaphfaaGreatDoorNums3
namespace Go.Proofs.YtofllhipjaphfaaGreatDoor
open Go Go.Proofs Go.RowKit Go.Ink

theorem putTs_append : ∀ (a b : List (List UInt8)), putTs (a ++ b) = putTs a ++ putTs b
  | [], b => rfl
  | t :: a, b => by simp only [List.cons_append, putTs, putTs_append a b, List.append_assoc]
theorem putTs_snoc {l : List (List UInt8)} {k : Nat} {t : List UInt8} (h : l[k]? = some t) : putTs (l.take (k + 1)) = putTs (l.take k) ++ putT t := by
  obtain ⟨hk, rfl⟩ := List.getElem?_eq_some_iff.1 h
  rw [List.take_succ_eq_append_getElem hk, putTs_append]
  simp [putTs]
theorem putTs_take_le (l : List (List UInt8)) (k : Nat) : (putTs (l.take k)).length ≤ (putTs l).length := by
  have h : putTs l = putTs (l.take k) ++ putTs (l.drop k) := by rw [← putTs_append, List.take_append_drop]
  rw [h, List.length_append]; omega
theorem putT_le_putTs {l : List (List UInt8)} {k : Nat} {t : List UInt8} (h : l[k]? = some t) : t.length ≤ (putTs l).length := by
  have h1 := putTs_take_le l (k + 1)
  rw [putTs_snoc h, List.length_append] at h1
  unfold putT at h1
  rw [List.length_append] at h1; omega

theorem getTsAt_snoc (s : List UInt8) : ∀ (k : Nat) (j : Int), getTsAt s (k + 1) j = (match getTsAt s k j with
    | none => none
    | some (l, q) => match getTAt s q with
      | none => none
      | some (t, i) => some (l ++ [t], i))
  | 0, j => by
    simp only [getTsAt]
    cases getTAt s j with
    | none => rfl
    | some x => rfl
  | k + 1, j => by
    rw [getTsAt]
    conv => rhs; rw [getTsAt]
    cases h : getTAt s j with
    | none => rfl
    | some x =>
      obtain ⟨t, i⟩ := x
      simp only
      rw [getTsAt_snoc s k i]
      cases getTsAt s k i with
      | none => rfl
      | some y =>
        obtain ⟨l, q⟩ := y
        simp only
        cases getTAt s q with
        | none => rfl
        | some z => rfl
theorem getTsAt_none {s : List UInt8} {j : Int} {k : Nat} (h : getTsAt s k j = none) : ∀ n, k ≤ n → getTsAt s n j = none := by
  intro n hn
  induction n with
  | zero => obtain rfl : k = 0 := by omega
            exact h
  | succ n ih =>
    by_cases e : k = n + 1
    · subst e; exact h
    · rw [getTsAt_snoc, ih (by omega)]
theorem getTsAt_len {s : List UInt8} : ∀ {k : Nat} {j q : Int} {l : List (List UInt8)}, getTsAt s k j = some (l, q) → l.length = k
  | 0, j, q, l, h => by simp only [getTsAt, Option.some.injEq, Prod.mk.injEq] at h; rw [← h.1]; rfl
  | k + 1, j, q, l, h => by
    rw [getTsAt_snoc] at h
    split at h
    · cases h
    · rename_i l' q' hl
      split at h
      · cases h
      · simp only [Option.some.injEq, Prod.mk.injEq] at h
        rw [← h.1, List.length_append, getTsAt_len hl]; rfl
theorem getTAt_in {s t : List UInt8} {i j : Int} (h : getTAt s i = some (t, j)) : 0 ≤ i ∧ i + 2 ≤ j ∧ j ≤ s.length ∧ t.length ≤ s.length := by
  unfold getTAt at h
  split at h
  · cases h
  · rename_i n k hk
    have hb := getAt_some hk
    split at h
    · cases h
    · injection h with h
      injection h with e1 e2
      refine ⟨by omega, by omega, by omega, ?_⟩
      rw [← e1, List.length_take, List.length_drop]; omega
theorem getTsAt_in {s : List UInt8} : ∀ {k : Nat} {j q : Int} {l : List (List UInt8)}, getTsAt s k j = some (l, q) → 0 ≤ j → j ≤ s.length → j + 2 * k ≤ q ∧ q ≤ s.length
  | 0, j, q, l, h, _, _ => by simp only [getTsAt, Option.some.injEq, Prod.mk.injEq] at h; omega
  | k + 1, j, q, l, h, h0, h1 => by
    rw [getTsAt_snoc] at h
    split at h
    · cases h
    · rename_i l' q' hl
      have := getTsAt_in hl h0 h1
      split at h
      · cases h
      · rename_i t i ht
        simp only [Option.some.injEq, Prod.mk.injEq] at h
        have h2 := getTAt_in ht
        omega

def getTV : Option (List UInt8 × Int) → Value
  | none => .tuple #[.string ⟨#[]⟩, .int .i64 0, .bool false]
  | some (t, j) => .tuple #[.string ⟨t.toArray⟩, .int .i64 j, .bool true]

theorem extract_mk (s : List UInt8) (a b : Nat) : (⟨s.toArray⟩ : ByteArray).extract a b = ⟨((s.drop a).take (b - a)).toArray⟩ := by
  apply ByteArray.ext
  simp only [ByteArray.data_extract, List.extract_toArray, List.extract_eq_take_drop]

theorem getText_any (s : List UInt8) (i : Int) (w : World) (hs : s.length ≤ maxLen) (he : Env w) :
    Calls Tryz.prog 83 #[.string ⟨s.toArray⟩, .int .i64 i] w fun e w' => e = .returned (getTV (getTAt s i)) ∧ Below w.heap.size w w' := by
  have HE := Lib.hid he; clear he
  have hg := get_any s i w hs HE.out
  unfold maxLen at hs
  unfold getTAt
  cases hga : getAt s i with
  | none =>
    simp only [hga, getV] at hg
    have HG := Lib.hid hg; clear hg hga
    go_enter Tryz.func83, Tryz.ntmps83
    go_wp2_with fail
    refine HG.out.mono ?_
    rintro e w1 ⟨rfl, hb⟩
    have HB := Lib.hid hb; clear hb
    go_wp2_with fail
    go_returns
    exact ⟨rfl, HB.out⟩
  | some x =>
    obtain ⟨n, j⟩ := x
    have hin := getAt_some hga
    simp only [hga, getV] at hg
    obtain ⟨N, rfl⟩ := Int.eq_ofNat_of_zero_le hin.2.1
    obtain ⟨J, rfl⟩ := Int.eq_ofNat_of_zero_le (show 0 ≤ j by omega)
    have hJ : J ≤ s.length := by omega
    have hN : N ≤ 9223372036854775807 := by omega
    clear hin hga
    have HG := Lib.hid hg; clear hg
    simp only [Int.toNat_natCast]
    by_cases hlt : (s.length : Int) - (J : Int) < (N : Int)
    · rw [if_pos hlt]
      go_enter Tryz.func83, Tryz.ntmps83
      go_wp2_with fail
      refine HG.out.mono ?_
      rintro e w1 ⟨rfl, hb⟩
      have HB := Lib.hid hb; clear hb
      go_wp2_with fail
      go_returns
      exact ⟨rfl, HB.out⟩
    · rw [if_neg hlt]
      have h1 : J + N ≤ s.length := by omega
      have HX := Lib.hid (show (⟨s.toArray⟩ : ByteArray).extract J (J + N) = ⟨((s.drop J).take N).toArray⟩ by rw [extract_mk]; congr 3; omega)
      go_enter Tryz.func83, Tryz.ntmps83
      go_wp2_with fail
      refine HG.out.mono ?_
      rintro e w1 ⟨rfl, hb⟩
      have HB := Lib.hid hb; clear hb
      go_wp2_with fail
      go_returns
      refine ⟨?_, HB.out⟩
      rw [getTV, ← HX.out]
      rfl

end Go.Proofs.YtofllhipjaphfaaGreatDoor
