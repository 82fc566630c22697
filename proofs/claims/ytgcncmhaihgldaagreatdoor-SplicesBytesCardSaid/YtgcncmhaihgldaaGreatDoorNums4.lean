/- The walks of nums.GetText, PutList and GetList. -/
import Derived.Test.YtgcncmhaihgldaaGreatDoorNums3
import Derived.Test.YtgcncmhaihgldaaGreatDoorLaw0
namespace Go.Proofs.YtgcncmhaihgldaaGreatDoor
open Go Go.Proofs Go.RowKit Go.Ink

theorem putTs_append : ∀ (a b : List (List UInt8)), putTs (a ++ b) = putTs a ++ putTs b
  | [], b => rfl
  | t :: a, b => by simp only [List.cons_append, putTs, putTs_append a b, List.append_assoc]
theorem putTs_snoc {l : List (List UInt8)} {k : Nat} {t : List UInt8} (h : l[k]? = some t) : putTs (l.take (k + 1)) = putTs (l.take k) ++ putT t := by
  obtain ⟨hk, rfl⟩ := List.getElem?_eq_some_iff.1 h
  rw [List.take_succ_eq_append_getElem hk, putTs_append]
  simp [putTs]
theorem putTs_take_le (l : List (List UInt8)) (k : Nat) : (putTs (l.take k)).length ≤ (putTs l).length := by
  have h : putTs l = putTs (l.take k) ++ putTs (l.drop k) := by rw [← putTs_append, List.take_append_drop]
  rw [h, List.length_append]; omega
theorem putT_le_putTs {l : List (List UInt8)} {k : Nat} {t : List UInt8} (h : l[k]? = some t) : t.length ≤ (putTs l).length := by
  have h1 := putTs_take_le l (k + 1)
  rw [putTs_snoc h, List.length_append] at h1
  unfold putT at h1
  rw [List.length_append] at h1; omega

theorem getTsAt_snoc (s : List UInt8) : ∀ (k : Nat) (j : Int), getTsAt s (k + 1) j = (match getTsAt s k j with
    | none => none
    | some (l, q) => match getTAt s q with
      | none => none
      | some (t, i) => some (l ++ [t], i))
  | 0, j => by
    simp only [getTsAt]
    cases getTAt s j with
    | none => rfl
    | some x => rfl
  | k + 1, j => by
    rw [getTsAt]
    conv => rhs; rw [getTsAt]
    cases h : getTAt s j with
    | none => rfl
    | some x =>
      obtain ⟨t, i⟩ := x
      simp only
      rw [getTsAt_snoc s k i]
      cases getTsAt s k i with
      | none => rfl
      | some y =>
        obtain ⟨l, q⟩ := y
        simp only
        cases getTAt s q with
        | none => rfl
        | some z => rfl
theorem getTsAt_none {s : List UInt8} {j : Int} {k : Nat} (h : getTsAt s k j = none) : ∀ n, k ≤ n → getTsAt s n j = none := by
  intro n hn
  induction n with
  | zero => obtain rfl : k = 0 := by omega
            exact h
  | succ n ih =>
    by_cases e : k = n + 1
    · subst e; exact h
    · rw [getTsAt_snoc, ih (by omega)]
theorem getTsAt_len {s : List UInt8} : ∀ {k : Nat} {j q : Int} {l : List (List UInt8)}, getTsAt s k j = some (l, q) → l.length = k
  | 0, j, q, l, h => by simp only [getTsAt, Option.some.injEq, Prod.mk.injEq] at h; rw [← h.1]; rfl
  | k + 1, j, q, l, h => by
    rw [getTsAt_snoc] at h
    split at h
    · cases h
    · rename_i l' q' hl
      split at h
      · cases h
      · simp only [Option.some.injEq, Prod.mk.injEq] at h
        rw [← h.1, List.length_append, getTsAt_len hl]; rfl
theorem getTAt_in {s t : List UInt8} {i j : Int} (h : getTAt s i = some (t, j)) : 0 ≤ i ∧ i + 2 ≤ j ∧ j ≤ s.length ∧ t.length ≤ s.length := by
  unfold getTAt at h
  split at h
  · cases h
  · rename_i n k hk
    have hb := getAt_some hk
    split at h
    · cases h
    · injection h with h
      injection h with e1 e2
      refine ⟨by omega, by omega, by omega, ?_⟩
      rw [← e1, List.length_take, List.length_drop]; omega
theorem getTsAt_in {s : List UInt8} : ∀ {k : Nat} {j q : Int} {l : List (List UInt8)}, getTsAt s k j = some (l, q) → 0 ≤ j → j ≤ s.length → j + 2 * k ≤ q ∧ q ≤ s.length
  | 0, j, q, l, h, _, _ => by simp only [getTsAt, Option.some.injEq, Prod.mk.injEq] at h; omega
  | k + 1, j, q, l, h, h0, h1 => by
    rw [getTsAt_snoc] at h
    split at h
    · cases h
    · rename_i l' q' hl
      have := getTsAt_in hl h0 h1
      split at h
      · cases h
      · rename_i t i ht
        simp only [Option.some.injEq, Prod.mk.injEq] at h
        have h2 := getTAt_in ht
        omega

def getTV : Option (List UInt8 × Int) → Value
  | none => .tuple #[.string ⟨#[]⟩, .int .i64 0, .bool false]
  | some (t, j) => .tuple #[.string ⟨t.toArray⟩, .int .i64 j, .bool true]

theorem extract_mk (s : List UInt8) (a b : Nat) : (⟨s.toArray⟩ : ByteArray).extract a b = ⟨((s.drop a).take (b - a)).toArray⟩ := by
  apply ByteArray.ext
  simp only [ByteArray.data_extract, List.extract_toArray, List.extract_eq_take_drop]

theorem getText_any (s : List UInt8) (i : Int) (w : World) (hs : s.length ≤ maxLen) (he : Env w) :
    Calls Tryz.prog 35 #[.string ⟨s.toArray⟩, .int .i64 i] w fun e w' => e = .returned (getTV (getTAt s i)) ∧ Below w.heap.size w w' := by
  have HE := Lib.hid he; clear he
  have hg := get_any s i w hs HE.out
  unfold maxLen at hs
  unfold getTAt
  cases hga : getAt s i with
  | none =>
    simp only [hga, getV] at hg
    have HG := Lib.hid hg; clear hg hga
    go_enter Tryz.func35, Tryz.ntmps35
    go_wp2_with fail
    refine HG.out.mono ?_
    rintro e w1 ⟨rfl, hb⟩
    have HB := Lib.hid hb; clear hb
    go_wp2_with fail
    go_returns
    exact ⟨rfl, HB.out⟩
  | some x =>
    obtain ⟨n, j⟩ := x
    have hin := getAt_some hga
    simp only [hga, getV] at hg
    obtain ⟨N, rfl⟩ := Int.eq_ofNat_of_zero_le hin.2.1
    obtain ⟨J, rfl⟩ := Int.eq_ofNat_of_zero_le (show 0 ≤ j by omega)
    have hJ : J ≤ s.length := by omega
    have hN : N ≤ 9223372036854775807 := by omega
    clear hin hga
    have HG := Lib.hid hg; clear hg
    simp only [Int.toNat_natCast]
    by_cases hlt : (s.length : Int) - (J : Int) < (N : Int)
    · rw [if_pos hlt]
      go_enter Tryz.func35, Tryz.ntmps35
      go_wp2_with fail
      refine HG.out.mono ?_
      rintro e w1 ⟨rfl, hb⟩
      have HB := Lib.hid hb; clear hb
      go_wp2_with fail
      go_returns
      exact ⟨rfl, HB.out⟩
    · rw [if_neg hlt]
      have h1 : J + N ≤ s.length := by omega
      have HX := Lib.hid (show (⟨s.toArray⟩ : ByteArray).extract J (J + N) = ⟨((s.drop J).take N).toArray⟩ by rw [extract_mk]; congr 3; omega)
      go_enter Tryz.func35, Tryz.ntmps35
      go_wp2_with fail
      refine HG.out.mono ?_
      rintro e w1 ⟨rfl, hb⟩
      have HB := Lib.hid hb; clear hb
      go_wp2_with fail
      go_returns
      refine ⟨?_, HB.out⟩
      rw [getTV, ← HX.out]
      rfl

set_option maxHeartbeats 1000000 in
theorem putList_any (l : List (List UInt8)) (ao : Option Addr) (cap : Nat) (w : World) (hl : SlOf IsStr w ao cap l) (hsz : (putL l).length ≤ 140737488355328) (h10 : Tab10 w) :
    Calls Tryz.prog 14 #[.slice ao l.length cap] w fun e w' => e = .returned (.string ⟨(putL l).toArray⟩) ∧ Below w.heap.size w w' := by
  have HS := Lib.hid hl
  have H10 := Lib.hid h10
  have hc : l.length ≤ 9223372036854775807 := Nat.le_trans hl.1 hl.2.1
  clear hl h10
  have hpl : putL l = putN l.length ++ putTs l := rfl
  have hll : (putN (l.length : Int)).length + (putTs l).length ≤ 140737488355328 := by rw [hpl, List.length_append] at hsz; exact hsz
  have HPL := Lib.hid hpl; clear hpl hsz
  have HP := Lib.hid (fun w ht => put_any (l.length : Int) w (by omega) (by omega) ht)
  generalize putN (l.length : Int) = A at *
  have HBN := Lib.hid (bdr_new (w := w))
  have HBA := Lib.hid (show Below w.heap.size w (w.alloc (.cells #[.pointer none, .slice none 0 0] 53 (0, 0))) from (Below.refl _ _).alloc (Nat.le_refl _) _)
  go_enter Tryz.func14, Tryz.ntmps14
  go_wp2_with fail
  refine (HP.out _ (H10.out.later HBA.out)).mono ?_
  rintro e w1 ⟨rfl, hb⟩
  have HBd1 := Lib.hid (HBN.out.later hb)
  have HB1 := Lib.hid (HBA.out.trans (hb.mono HBA.out.size)); clear hb
  go_wp2_with fail
  refine (writeString_any _ _ _ _ _ HBd1.out (by rw [size_mk]; simp; omega) HB1.out.size).mono ?_
  rintro e w2 ⟨rfl, hbd, hb⟩
  have HBd2 : Hid (Bdr w2 w.heap.size w.heap.size A) := Lib.hid (by simpa using hbd)
  have HB2 := Lib.hid (HB1.out.trans hb); clear hb hbd
  clear HB1 HBd1 HBA HBN
  go_wp2_with fail
  go_loopw [12] (fun i wr => ∃ k : Nat, i = .int .i64 k ∧ k ≤ l.length ∧ Hid (Bdr wr w.heap.size w.heap.size (A ++ putTs (l.take k))) ∧ Hid (Below w.heap.size w wr)) (fun i _ => l.length - (intOf i).toNat)
  case atStart => exact ⟨0, rfl, by omega, Lib.hid (by simpa [putTs] using HBd2.out), HB2.out⟩
  case round =>
    obtain ⟨k, rfl, hk, HBd, HB⟩ := hrel
    by_cases hlt : k < l.length
    · obtain ⟨t, hkt⟩ : ∃ t, l[k]? = some t := ⟨_, List.getElem?_eq_getElem hlt⟩
      obtain ⟨g, off, u, hao, hcell, hu⟩ := HS.out.2.2.2 k t hkt
      subst hao
      have hu' : u = .string ⟨t.toArray⟩ := hu
      subst hu'
      have hcell' := ((HB.out.cell (p := ⟨g, off + k, none⟩) (lt_of_cell hcell))).trans hcell
      clear hcell hu
      have HT1 := Lib.hid (putT_le_putTs hkt)
      have HT2 := Lib.hid (putTs_snoc hkt)
      have HT3 := Lib.hid (putTs_take_le l (k + 1))
      clear hkt
      go_wp2_with fail
      have ht1 := HT1.out
      refine (putText_any t _ (by omega) (H10.out.later HB.out)).mono ?_
      rintro e w3 ⟨rfl, hb⟩
      have HBd3 := Lib.hid (HBd.out.later hb)
      have HB3 := Lib.hid (HB.out.trans (hb.mono HB.out.size)); clear hb
      go_wp2_with fail
      refine (writeString_any _ _ _ _ _ HBd3.out (by have h2 := HT2.out; have h3 := HT3.out; rw [h2, List.length_append] at h3; rw [size_mk, List.length_append]; omega) HB3.out.size).mono ?_
      rintro e w4 ⟨rfl, hbd, hb⟩
      have HBd4 : Hid (Bdr w4 w.heap.size w.heap.size (A ++ putTs (l.take (k + 1)))) := by rw [HT2.out, ← List.append_assoc]; exact hbd
      have HB4 := Lib.hid (HB3.out.trans hb); clear hb hbd
      go_wp2_with fail
      go_roundw
      case rel => exact ⟨k + 1, by go_num, by omega, HBd4, HB4⟩
      case measure => simp [intOf] <;> omega
    · have hkt : k = l.length := by omega
      subst hkt
      have HBd' : Hid (Bdr wr w.heap.size w.heap.size (A ++ putTs l)) := Lib.hid (by simpa using HBd.out)
      go_wp2_with fail
      refine (Tryz.Builder_String_any_k _ _ _ _ (Lib.IsBuilderF.of HBd'.out) HB.out.size).mono ?_
      rintro e w7 ⟨rfl, _, hb7, _⟩
      have HB7 := Lib.hid (HB.out.trans hb7); clear hb7
      go_wp2_with fail
      go_returns
      exact ⟨by rw [HPL.out]; rfl, HB7.out⟩

/-- The texts and the place behind them, as GetList hands them back. -/
def ListPost (w : World) (o : Option (List (List UInt8) × Int)) (e : Ending) (w' : World) : Prop :=
  ∃ v, e = .returned (.tuple #[v, .int .i64 ((o.map (·.2)).getD 0), .bool o.isSome]) ∧ OwnStrs w' w.heap.size v ((o.map (·.1)).getD []) ∧ Below w.heap.size w w'
theorem ListPost.no {w w' : World} (h : Below w.heap.size w w') : ListPost w none (.returned (.tuple #[.slice none 0 0, .int .i64 0, .bool false])) w' := ⟨_, rfl, OwnStrs.nil _ _, h⟩
theorem ListPost.yes {w w' : World} {v : Value} {l : List (List UInt8)} {q : Int} (ho : OwnStrs w' w.heap.size v l) (h : Below w.heap.size w w') : ListPost w (some (l, q)) (.returned (.tuple #[v, .int .i64 q, .bool true])) w' := ⟨_, rfl, ho, h⟩

set_option maxRecDepth 100000 in
set_option maxHeartbeats 1000000 in
theorem getList_any (s : List UInt8) (i : Int) (w : World) (hs : s.length ≤ 1099511627776) (he : Env w) :
    Calls Tryz.prog 19 #[.string ⟨s.toArray⟩, .int .i64 i] w (ListPost w (getLAt s i)) := by
  have HE := Lib.hid he; clear he
  have hsm : s.length ≤ maxLen := by unfold maxLen; omega
  have hg := get_any s i w hsm HE.out
  have HGT := Lib.hid (fun i w he => getText_any s i w hsm he); clear hsm
  unfold getLAt
  cases hga : getAt s i with
  | none =>
    simp only [hga, getV] at hg
    have HG := Lib.hid hg; clear hg hga
    go_enter Tryz.func19, Tryz.ntmps19
    go_wp2_with fail
    refine HG.out.mono ?_
    rintro e w1 ⟨rfl, hb⟩
    have HB := Lib.hid hb; clear hb
    go_wp2_with fail
    go_returns
    exact .no HB.out
  | some x =>
    obtain ⟨n, j⟩ := x
    have hin := getAt_some hga
    simp only [hga, getV] at hg
    obtain ⟨N, rfl⟩ := Int.eq_ofNat_of_zero_le hin.2.1
    have hJ0 : 0 ≤ j := by omega
    have hJ : j ≤ s.length := by omega
    have hN : N ≤ 9223372036854775807 := by omega
    clear hin hga
    have HG := Lib.hid hg; clear hg
    simp only [Int.toNat_natCast]
    by_cases hlt : (s.length : Int) - j < (N : Int)
    · rw [if_pos hlt]
      go_enter Tryz.func19, Tryz.ntmps19
      go_wp2_with fail
      refine HG.out.mono ?_
      rintro e w1 ⟨rfl, hb⟩
      have HB := Lib.hid hb; clear hb
      go_wp2_with fail
      go_returns
      exact .no HB.out
    · rw [if_neg hlt]
      have hNs : N ≤ s.length := by omega
      obtain ⟨i0, hi, hz0, hz1, hz2⟩ := info_parts str_info
      go_enter Tryz.func19, Tryz.ntmps19
      go_wp2_with fail
      refine HG.out.mono ?_
      rintro e w1 ⟨rfl, hb⟩
      have HB := Lib.hid hb; clear hb
      go_wp2_with fail
      go_loopw [4, 5, 27] (fun v nx c wr => ∃ (k : Nat) (l : List (List UInt8)) (q : Int), c = .int .i64 k ∧ k ≤ N ∧ nx = .int .i64 q ∧ 0 ≤ q ∧ q ≤ s.length ∧ l.length ≤ N ∧ Hid (getTsAt s k j = some (l, q)) ∧ Hid (OwnStrs wr w.heap.size v l) ∧ Hid (Below w.heap.size w wr)) (fun _ _ c _ => N - (intOf c).toNat)
      case atStart => exact ⟨0, [], j, rfl, by omega, rfl, by omega, by omega, by simp, Lib.hid rfl, OwnStrs.nil _ _, HB.out⟩
      case round =>
        obtain ⟨k, l, q, rfl, hk, rfl, hq0, hq1, hll, HL, HO, HB⟩ := hrel
        have hlk := getTsAt_len HL.out
        have HLK := Lib.hid hlk; clear hlk
        obtain ⟨ao, cp, hv⟩ := ownsRow_shape HO.out
        subst hv
        by_cases hkn : k < N
        · have hT := HGT.out q wr (HE.out.later HB.out)
          have hsn := getTsAt_snoc s k j
          rw [HL.out] at hsn
          simp only at hsn
          cases hta : getTAt s q with
          | none =>
            rw [hta] at hsn hT
            simp only [getTV] at hT hsn
            have HT := Lib.hid hT; clear hT hta
            have HF := Lib.hid (getTsAt_none hsn N (by omega)); clear hsn
            go_wp2_with fail
            refine HT.out.mono ?_
            rintro e w2 ⟨rfl, hb⟩
            have HB2 := Lib.hid (HB.out.trans (hb.mono HB.out.size)); clear hb
            go_wp2_with fail
            go_returns
            rw [HF.out]
            exact .no HB2.out
          | some y =>
            obtain ⟨t, q2⟩ := y
            rw [hta] at hsn hT
            simp only [getTV] at hT hsn
            have HT := Lib.hid hT; clear hT
            have HSN := Lib.hid hsn; clear hsn
            have hq2 := getTAt_in hta
            have hq20 : 0 ≤ q2 := by omega
            have hq21 : q2 ≤ s.length := by omega
            clear hq2 hta
            go_wp2_with fail
            refine HT.out.mono ?_
            rintro e w2 ⟨rfl, hb⟩
            have HB2 := Lib.hid (HB.out.trans (hb.mono HB.out.size))
            have HO2 := Lib.hid (ownsRow_below HO.out hb); clear hb
            go_wp2_with (at_builtin; refine wpList_append_own _ rfl _ _ 22 rfl w.heap.size 9 i0 (.string ⟨#[]⟩) 1 16 Tryz.underlying22 hi hz0 hz1 hz2 rfl (by decide) _ _ _ rfl (HO2.out.alloc _) ⟨w2.heap.size, 0, none⟩ 1 1 [.string ⟨t.toArray⟩] rfl rfl ?c1 ?c2 ?c3 ?c4 ?c5 ?_)
            case c1 => exact cell_one_new _ _ _
            case c2 => intro u hu; simp at hu; subst hu; rfl
            case c3 => unfold maxLen; omega
            case c4 => omega
            case c5 => have := HB2.out.size; simp; omega
            intro v' w3 hown' hgrow _
            have HO3 : Hid (OwnStrs w3 w.heap.size v' (l ++ [t])) := Lib.hid (by simpa [OwnStrs, strVs] using hown')
            have HB3 : Hid (Below w.heap.size w w3) := Lib.hid ((HB2.out.alloc HB2.out.size _).grown hgrow (by have := HB2.out.size; simp; omega) (fun k hk => (HO2.out.lt k hk).1))
            clear hown' hgrow
            go_wp2_with fail
            go_roundw
            case rel => exact ⟨k + 1, l ++ [t], q2, by go_num, by omega, rfl, hq20, hq21, by have := HLK.out; simp; omega, HSN, HO3, HB3⟩
            case measure => simp [intOf]; omega
        · have hkN : k = N := by omega
          subst hkN
          go_wp2_with fail
          go_returns
          rw [HL.out]
          exact .yes HO.out HB.out
end Go.Proofs.YtgcncmhaihgldaaGreatDoor
