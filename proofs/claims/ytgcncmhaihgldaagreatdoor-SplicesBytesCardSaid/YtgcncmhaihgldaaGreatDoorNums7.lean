/- The walks of the reference's PutText, GetText, PutList and GetList. -/
import Derived.Test.YtgcncmhaihgldaaGreatDoorNums6
namespace Go.Proofs.YtgcncmhaihgldaaGreatDoor
open Go Go.Proofs Go.RowKit Go.Ink

theorem refPutText_any (t : List UInt8) (w : World) (h1 : t.length ≤ 4611686018427387904) :
    Calls Tryz.prog 31 #[.string ⟨t.toArray⟩] w fun e w' => e = .returned (.string ⟨(putT t).toArray⟩) ∧ Below w.heap.size w w' := by
  have hl := putN_le (t.length : Int) (by omega)
  have hr : putT t = putN t.length ++ t := rfl
  rw [hr]
  go_enter Tryz.func31, Tryz.ntmps31
  go_wp2_with fail
  refine (refPut_any (t.length : Int) _ (by omega) (by omega)).mono ?_
  rintro e w1 ⟨rfl, hb1⟩
  generalize hA : putN (t.length : Int) = A at *
  have hc : ¬ 9223372036854775807 < A.length + t.length := by omega
  go_wp2_with fail
  go_returns
  exact ⟨by simp [hA]; apply ByteArray.ext; simp, hb1⟩

theorem refGetText_any (s : List UInt8) (i : Int) (w : World) (hs : s.length ≤ 140737488355328) :
    Calls Tryz.prog 36 #[.string ⟨s.toArray⟩, .int .i64 i] w fun e w' => e = .returned (getTV (getTAt s i)) ∧ Below w.heap.size w w' := by
  have hg := refGet_any s i w hs
  unfold getTAt
  cases hga : getAt s i with
  | none =>
    simp only [hga, getV] at hg
    have HG := Lib.hid hg; clear hg hga
    go_enter Tryz.func36, Tryz.ntmps36
    go_wp2_with fail
    refine HG.out.mono ?_
    rintro e w1 ⟨rfl, hb⟩
    have HB := Lib.hid hb; clear hb
    go_wp2_with fail
    go_returns
    exact ⟨rfl, HB.out⟩
  | some x =>
    obtain ⟨n, j⟩ := x
    have hin := getAt_some hga
    simp only [hga, getV] at hg
    obtain ⟨N, rfl⟩ := Int.eq_ofNat_of_zero_le hin.2.1
    obtain ⟨J, rfl⟩ := Int.eq_ofNat_of_zero_le (show 0 ≤ j by omega)
    have hJ : J ≤ s.length := by omega
    have hN : N ≤ 9223372036854775807 := by omega
    clear hin hga
    have HG := Lib.hid hg; clear hg
    simp only [Int.toNat_natCast]
    by_cases hlt : (s.length : Int) - (J : Int) < (N : Int)
    · rw [if_pos hlt]
      go_enter Tryz.func36, Tryz.ntmps36
      go_wp2_with fail
      refine HG.out.mono ?_
      rintro e w1 ⟨rfl, hb⟩
      have HB := Lib.hid hb; clear hb
      go_wp2_with fail
      go_returns
      exact ⟨rfl, HB.out⟩
    · rw [if_neg hlt]
      have h1 : J + N ≤ s.length := by omega
      have HX := Lib.hid (show (⟨s.toArray⟩ : ByteArray).extract J (J + N) = ⟨((s.drop J).take N).toArray⟩ by rw [extract_mk]; congr 3; omega)
      go_enter Tryz.func36, Tryz.ntmps36
      go_wp2_with fail
      refine HG.out.mono ?_
      rintro e w1 ⟨rfl, hb⟩
      have HB := Lib.hid hb; clear hb
      go_wp2_with fail
      go_returns
      refine ⟨?_, HB.out⟩
      rw [getTV, ← HX.out]
      rfl


set_option maxHeartbeats 1000000 in
theorem refPutList_any (l : List (List UInt8)) (ao : Option Addr) (cap : Nat) (w : World) (hl : SlOf IsStr w ao cap l) (hsz : (putL l).length ≤ 140737488355328) :
    Calls Tryz.prog 17 #[.slice ao l.length cap] w fun e w' => e = .returned (.string ⟨(putL l).toArray⟩) ∧ Below w.heap.size w w' := by
  have HS := Lib.hid hl
  have hc : l.length ≤ 9223372036854775807 := Nat.le_trans hl.1 hl.2.1
  clear hl
  have hpl : putL l = putN l.length ++ putTs l := rfl
  have hll : (putN (l.length : Int)).length + (putTs l).length ≤ 140737488355328 := by rw [hpl, List.length_append] at hsz; exact hsz
  have HPL := Lib.hid hpl; clear hpl hsz
  have HP := Lib.hid (fun w => refPut_any (l.length : Int) w (by omega) (by omega))
  generalize putN (l.length : Int) = A at *
  go_enter Tryz.func17, Tryz.ntmps17
  go_wp2_with fail
  refine (HP.out _).mono ?_
  rintro e w1 ⟨rfl, hb⟩
  have HB1 := Lib.hid hb; clear hb
  go_wp2_with fail
  go_loopw [3, 4] (fun sv i wr => ∃ (k : Nat) (a : List UInt8), i = .int .i64 k ∧ k ≤ l.length ∧ sv = .string ⟨a.toArray⟩ ∧ a.length ≤ 140737488355328 ∧ Hid (a = A ++ putTs (l.take k)) ∧ Hid (Below w.heap.size w wr)) (fun _ i _ => l.length - (intOf i).toNat)
  case atStart => exact ⟨0, A, rfl, by omega, rfl, by omega, Lib.hid (by simp [putTs]), HB1.out⟩
  case round =>
    obtain ⟨k, a, rfl, hk, rfl, hal, HA, HB⟩ := hrel
    by_cases hlt : k < l.length
    · obtain ⟨t, hkt⟩ : ∃ t, l[k]? = some t := ⟨_, List.getElem?_eq_getElem hlt⟩
      obtain ⟨g, off, u, hao, hcell, hu⟩ := HS.out.2.2.2 k t hkt
      subst hao
      have hu' : u = .string ⟨t.toArray⟩ := hu
      subst hu'
      have hcell' := ((HB.out.cell (p := ⟨g, off + k, none⟩) (lt_of_cell hcell))).trans hcell
      clear hcell hu
      have HT1 := Lib.hid (putT_le_putTs hkt)
      have HT2 := Lib.hid (putTs_snoc hkt)
      have HT3 := Lib.hid (putTs_take_le l (k + 1))
      clear hkt
      have hal2 : a.length + (putT t).length ≤ 140737488355328 := by
        have h2 := HT2.out; have h3 := HT3.out; rw [h2, List.length_append] at h3
        have h4 := congrArg List.length HA.out
        rw [List.length_append] at h4
        omega
      go_wp2_with fail
      have ht1 := HT1.out
      refine (refPutText_any t _ (by omega)).mono ?_
      rintro e w3 ⟨rfl, hb⟩
      have HB3 := Lib.hid (HB.out.trans (hb.mono HB.out.size)); clear hb
      have HA2 := Lib.hid (show a ++ putT t = A ++ putTs (l.take (k + 1)) by rw [HT2.out, HA.out, List.append_assoc])
      generalize putT t = p at *
      go_wp2_with fail
      go_roundw
      case rel => exact ⟨k + 1, a ++ p, by go_num, by omega, congrArg Value.string (mk_append a p), by simpa using hal2, HA2, HB3⟩
      case measure => simp [intOf] <;> omega
    · have hkt : k = l.length := by omega
      subst hkt
      have HA' := Lib.hid (show a = putL l by rw [HA.out, HPL.out]; simp)
      go_wp2_with fail
      go_returns
      exact ⟨by rw [← HA'.out]; rfl, HB.out⟩

set_option maxRecDepth 100000 in
set_option maxHeartbeats 1000000 in
theorem refGetList_any (s : List UInt8) (i : Int) (w : World) (hs : s.length ≤ 1099511627776) :
    Calls Tryz.prog 21 #[.string ⟨s.toArray⟩, .int .i64 i] w (ListPost w (getLAt s i)) := by
  have hsm : s.length ≤ 140737488355328 := by omega
  have hg := refGet_any s i w hsm
  have HGT := Lib.hid (fun i w => refGetText_any s i w hsm); clear hsm
  rw [← refLAt_eq s (by omega) i]
  unfold refLAt
  cases hga : getAt s i with
  | none =>
    simp only [hga, getV] at hg
    have HG := Lib.hid hg; clear hg hga
    go_enter Tryz.func21, Tryz.ntmps21
    go_wp2_with fail
    refine HG.out.mono ?_
    rintro e w1 ⟨rfl, hb⟩
    have HB := Lib.hid hb; clear hb
    go_wp2_with fail
    go_returns
    exact .no HB.out
  | some x =>
    obtain ⟨n, j⟩ := x
    have hin := getAt_some hga
    simp only [hga, getV] at hg
    obtain ⟨N, rfl⟩ := Int.eq_ofNat_of_zero_le hin.2.1
    have hJ0 : 0 ≤ j := by omega
    have hJ : j ≤ s.length := by omega
    have hN : N ≤ 9223372036854775807 := by omega
    clear hin hga
    have HG := Lib.hid hg; clear hg
    simp only [Int.toNat_natCast]
    obtain ⟨i0, hi, hz0, hz1, hz2⟩ := info_parts str_info
    go_enter Tryz.func21, Tryz.ntmps21
    go_wp2_with fail
    refine HG.out.mono ?_
    rintro e w1 ⟨rfl, hb⟩
    have HB := Lib.hid hb; clear hb
    go_wp2_with fail
    go_loopw [10, 8, 11] (fun v nx c wr => ∃ (k : Nat) (l : List (List UInt8)) (q : Int), c = .int .i64 k ∧ k ≤ N ∧ nx = .int .i64 q ∧ 0 ≤ q ∧ q ≤ s.length ∧ l.length ≤ s.length ∧ Hid (getTsAt s k j = some (l, q)) ∧ Hid (OwnStrs wr w.heap.size v l) ∧ Hid (Below w.heap.size w wr)) (fun _ _ c _ => N - (intOf c).toNat)
    case atStart => exact ⟨0, [], j, rfl, by omega, rfl, by omega, by omega, by simp, Lib.hid rfl, OwnStrs.nil _ _, HB.out⟩
    case round =>
      obtain ⟨k, l, q, rfl, hk, rfl, hq0, hq1, hll, HL, HO, HB⟩ := hrel
      have hlk := getTsAt_len HL.out
      have HLK := Lib.hid hlk; clear hlk
      obtain ⟨ao, cp, hv⟩ := ownsRow_shape HO.out
      subst hv
      by_cases hkn : k < N
      · have hT := HGT.out q wr
        have hsn := getTsAt_snoc s k j
        rw [HL.out] at hsn
        simp only at hsn
        cases hta : getTAt s q with
        | none =>
          rw [hta] at hsn hT
          simp only [getTV] at hT hsn
          have HT := Lib.hid hT; clear hT hta
          have HF := Lib.hid (getTsAt_none hsn N (by omega)); clear hsn
          go_wp2_with fail
          refine HT.out.mono ?_
          rintro e w2 ⟨rfl, hb⟩
          have HB2 := Lib.hid (HB.out.trans (hb.mono HB.out.size)); clear hb
          go_wp2_with fail
          go_returns
          rw [HF.out]
          exact .no HB2.out
        | some y =>
          obtain ⟨t, q2⟩ := y
          rw [hta] at hsn hT
          simp only [getTV] at hT hsn
          have HT := Lib.hid hT; clear hT
          have HSN := Lib.hid hsn; clear hsn
          have hq2 := getTAt_in hta
          have hq20 : 0 ≤ q2 := by omega
          have hq21 : q2 ≤ s.length := by omega
          clear hq2 hta
          go_wp2_with fail
          refine HT.out.mono ?_
          rintro e w2 ⟨rfl, hb⟩
          have HB2 := Lib.hid (HB.out.trans (hb.mono HB.out.size))
          have HO2 := Lib.hid (ownsRow_below HO.out hb); clear hb
          go_wp2_with (at_builtin; refine wpList_append_own _ rfl _ _ 22 rfl w.heap.size 9 i0 (.string ⟨#[]⟩) 1 16 Tryz.underlying22 hi hz0 hz1 hz2 rfl (by decide) _ _ _ rfl (HO2.out.alloc _) ⟨w2.heap.size, 0, none⟩ 1 1 [.string ⟨t.toArray⟩] rfl rfl ?c1 ?c2 ?c3 ?c4 ?c5 ?_)
          case c1 => exact cell_one_new _ _ _
          case c2 => intro u hu; simp at hu; subst hu; rfl
          case c3 => unfold maxLen; omega
          case c4 => omega
          case c5 => have := HB2.out.size; simp; omega
          intro v' w3 hown' hgrow _
          have HO3 : Hid (OwnStrs w3 w.heap.size v' (l ++ [t])) := Lib.hid (by simpa [OwnStrs, strVs] using hown')
          have HB3 : Hid (Below w.heap.size w w3) := Lib.hid ((HB2.out.alloc HB2.out.size _).grown hgrow (by have := HB2.out.size; simp; omega) (fun k hk => (HO2.out.lt k hk).1))
          clear hown' hgrow
          go_wp2_with fail
          go_roundw
          case rel => exact ⟨k + 1, l ++ [t], q2, by go_num, by omega, rfl, hq20, hq21, by have := getTsAt_in HSN.out hJ0 hJ; have := HLK.out; simp; omega, HSN, HO3, HB3⟩
          case measure => simp [intOf]; omega
      · have hkN : k = N := by omega
        subst hkN
        go_wp2_with fail
        go_returns
        rw [HL.out]
        exact .yes HO.out HB.out
end Go.Proofs.YtgcncmhaihgldaaGreatDoor
