/- The walks of the reference's frames: tail, Frame, Next, Whole. -/
import Derived.Test.YtagemjjhiddpgaaGreatDoorSumR
import Derived.Test.YtagemjjhiddpgaaGreatDoorNumsR
import Derived.Test.YtagemjjhiddpgaaGreatDoorFrm6
namespace Go.Proofs.YtagemjjhiddpgaaGreatDoor
open Go Go.Proofs Go.RowKit Go.Ink

theorem refTail_any (p : List UInt8) (w : World) (hp : p.length ≤ 4194304) :
    Calls Tryz.prog 17 #[.string ⟨p.toArray⟩] w fun e w' => e = .returned (.string ⟨(tailB p).toArray⟩) ∧ w' = w := by
  have HS := Lib.hid (refSum_any p w hp)
  have HX := Lib.hid (refHex_any (sumN p) w (sumN_lt p))
  have hl8 : (hex8 (sumN p)).length = 8 := rfl
  have HT := Lib.hid (tail_parts p)
  rw [HT.out]
  generalize sumN p = n at *
  generalize hex8 n = x at *
  have hc : ¬ 9223372036854775807 < x.length + 1 := by omega
  have hxs : (⟨x.toArray⟩ : ByteArray) ++ ⟨#[10]⟩ = ⟨(x ++ [10]).toArray⟩ := mk_append x [10]
  have HXS := Lib.hid hxs
  clear hxs hl8
  go_enter Tryz.func17, Tryz.ntmps17
  go_wp2_with fail
  refine HS.out.mono ?_
  rintro e w' ⟨rfl, rfl⟩
  go_wp2_with fail
  refine HX.out.mono ?_
  rintro e w' ⟨rfl, rfl⟩
  go_wp2_with fail
  go_returns
  exact ⟨by rw [← HXS.out]; rfl, rfl⟩
theorem refFrame_any (p : List UInt8) (w : World) (hp : p.length ≤ 4194304) :
    Calls Tryz.prog 7 #[.string ⟨p.toArray⟩] w fun e w' => e = .returned (.tuple #[.string ⟨(frameB p).toArray⟩, .int .i64 0]) ∧ Below w.heap.size w w' := by
  have HP := Lib.hid (refPutText_any p w (by omega))
  have HT := Lib.hid (fun w => refTail_any p w hp)
  have HF := Lib.hid (show frameB p = putT p ++ tailB p from rfl)
  have hl := putN_le (p.length : Int) (by omega)
  have hpt : (putT p).length = (putN p.length).length + p.length := by unfold putT; rw [List.length_append]
  have hl9 : (tailB p).length = 9 := rfl
  have hc : ¬ 9223372036854775807 < (putT p).length + (tailB p).length := by omega
  rw [HF.out]
  have HMK := Lib.hid (mk_append (putT p) (tailB p))
  clear hl hpt hl9 HF
  generalize putT p = t at *
  generalize tailB p = x at *
  go_enter Tryz.func7, Tryz.ntmps7
  go_wp2_with fail
  refine HP.out.mono ?_
  rintro e w1 ⟨rfl, hb⟩
  have HB1 := Lib.hid hb; clear hb
  go_wp2_with fail
  refine (HT.out _).mono ?_
  rintro e w' ⟨rfl, rfl⟩
  go_wp2_with fail
  go_returns
  exact ⟨by rw [← HMK.out]; rfl, HB1.out⟩

set_option maxRecDepth 100000 in
set_option maxHeartbeats 2000000 in
theorem refNext_any (s : List UInt8) (i : Int) (w : World) (hs : s.length ≤ 4194304) :
    Calls Tryz.prog 9 #[.string ⟨s.toArray⟩, .int .i64 i] w fun e w' => e = .returned (getTV (nextS s i)) ∧ Below w.heap.size w w' := by
  have hg0 := refGetText_any s i w (by omega)
  unfold nextS
  cases hg : getTAt s i with
  | none =>
    rw [hg] at hg0
    simp only [getTV] at hg0 ⊢
    have HG := Lib.hid hg0
    clear hg0 hg
    go_enter Tryz.func9, Tryz.ntmps9
    go_wp2_with fail
    refine HG.out.mono ?_
    rintro e w1 ⟨rfl, hb⟩
    have HB1 := Lib.hid hb; clear hb
    go_wp2_with fail
    refine wp_region_quiet_lit (by kernel_rfl) (by kernel_rfl) ?_
    iterate 21 ((with_reducible refine wpQuiet_step (fun K hK => ?_)); go_simp; (with_reducible refine hK _ ?_); clear hK K)
    refine wpQuiet_nil ?_
    intro _ hw'
    obtain ⟨nq, hw''⟩ := hw'
    subst hw''
    go_wp2_with fail
    go_returns
    exact ⟨rfl, below_drewN HB1.out _⟩
  | some x =>
    obtain ⟨p, j⟩ := x
    have hin := getTAt_in hg
    obtain ⟨k, rfl⟩ := Int.eq_ofNat_of_zero_le (show 0 ≤ j by omega)
    rw [hg] at hg0
    simp only [getTV] at hg0
    have HG := Lib.hid hg0
    have hp : p.length ≤ 4194304 := by omega
    have hks : k ≤ s.length := by omega
    clear hg0 hg hin
    simp only [Int.toNat_natCast]
    by_cases h1 : k + 9 ≤ s.length
    · obtain ⟨y, hy⟩ : ∃ y, (s.drop k).take 9 = y := ⟨_, rfl⟩
      have hX : (⟨s.toArray⟩ : ByteArray).extract k (k + 9) = ⟨y.toArray⟩ := by rw [extract_mk, Nat.add_sub_cancel_left, hy]
      have HT := Lib.hid (fun w => refTail_any p w hp)
      have hpb : decide ((p.length : Int) ≤ 4194304) = true := by simp; omega
      have hkb : decide ((k : Int) + 9 ≤ (s.length : Int)) = true := by simp; omega
      have hw1 : (0 : Int) ≤ (k : Int) + 9 := by omega
      have hw2 : ((k : Int) + 9).toNat = k + 9 := by omega
      have hw3 : (k : Int) ≤ (k : Int) + 9 := by omega
      have hw4 : (k : Int) + 9 ≤ (s.length : Int) := by omega
      by_cases h2 : y = tailB p
      · have HV := Lib.hid (show (if p.length ≤ maxFrame ∧ (k : Int) + 9 ≤ s.length ∧ (s.drop k).take 9 = tailB p then some (p, (k : Int) + 9) else none) = some (p, (k : Int) + 9) from if_pos ⟨hp, by omega, by rw [hy, h2]⟩)
        rw [HV.out]
        simp only [getTV]
        have hq : (y == tailB p) = true := by simpa using h2
        clear h2 hy HV
        generalize tailB p = t at *
        go_enter Tryz.func9, Tryz.ntmps9
        go_wp2_with fail
        refine HG.out.mono ?_
        rintro e w1 ⟨rfl, hb⟩
        have HB1 := Lib.hid hb; clear hb
        go_wp2_with fail
        go_quiet ((go_at_call 17; exact Calls.quiet_of_same (HT.out _)))
        go_wp2_with fail
        go_returns
        exact ⟨rfl, below_drewN HB1.out _⟩
      · have HV := Lib.hid (show (if p.length ≤ maxFrame ∧ (k : Int) + 9 ≤ s.length ∧ (s.drop k).take 9 = tailB p then some (p, (k : Int) + 9) else none) = none from if_neg fun h => h2 (by rw [← hy]; exact h.2.2))
        rw [HV.out]
        simp only [getTV]
        have hq : (y == tailB p) = false := by simpa using h2
        clear h2 hy HV
        generalize tailB p = t at *
        go_enter Tryz.func9, Tryz.ntmps9
        go_wp2_with fail
        refine HG.out.mono ?_
        rintro e w1 ⟨rfl, hb⟩
        have HB1 := Lib.hid hb; clear hb
        go_wp2_with fail
        go_quiet ((go_at_call 17; exact Calls.quiet_of_same (HT.out _)))
        go_wp2_with fail
        go_returns
        exact ⟨rfl, below_drewN HB1.out _⟩
    · have HV := Lib.hid (show (if p.length ≤ maxFrame ∧ (k : Int) + 9 ≤ s.length ∧ (s.drop k).take 9 = tailB p then some (p, (k : Int) + 9) else none) = none from if_neg fun h => h1 (by omega))
      rw [HV.out]
      simp only [getTV]
      have hpb : decide ((p.length : Int) ≤ 4194304) = true := by simp; omega
      have hkb : decide ((k : Int) + 9 ≤ (s.length : Int)) = false := by simp; omega
      clear h1 HV
      go_enter Tryz.func9, Tryz.ntmps9
      go_wp2_with fail
      refine HG.out.mono ?_
      rintro e w1 ⟨rfl, hb⟩
      have HB1 := Lib.hid hb; clear hb
      go_wp2_with fail
      refine wp_region_quiet_lit (by kernel_rfl) (by kernel_rfl) ?_
      iterate 21 ((with_reducible refine wpQuiet_step (fun K hK => ?_)); go_simp; (with_reducible refine hK _ ?_); clear hK K)
      refine wpQuiet_nil ?_
      intro _ hw'
      obtain ⟨nq, hw''⟩ := hw'
      subst hw''
      go_wp2_with fail
      go_returns
      exact ⟨rfl, below_drewN HB1.out _⟩

set_option maxRecDepth 100000 in
set_option maxHeartbeats 1000000 in
theorem refWhole_any (s : List UInt8) (w : World) (hs : s.length ≤ 4194304) : Calls Tryz.prog 11 #[.string ⟨s.toArray⟩] w (WholePost s w) := by
  have HN := Lib.hid (fun i w => by have := refNext_any s i w hs; rw [getTV_eq] at this; exact this)
  obtain ⟨i0, hi, hz0, hz1, hz2⟩ := info_parts str_info
  go_enter Tryz.func11, Tryz.ntmps11
  go_wp2_with fail
  refine (HN.out 0 _).mono ?_
  rintro e w1 ⟨rfl, hb1⟩
  have HB1 := Lib.hid hb1; clear hb1
  have H0 := Lib.hid (show wholeS s = ([] ++ (wholeR s 0).1, (wholeR s 0).2) by simp [wholeS])
  go_wp2_with fail
  go_loopw [4, 5, 6, 7, 8] (fun v en pv jv ov wr => ∃ (acc : List (List UInt8)) (i : Nat), en = .int .i64 (i : Int) ∧ i ≤ s.length ∧ acc.length ≤ i ∧ pv = .string ⟨(nP (nextS s i)).toArray⟩ ∧ jv = .int .i64 (nJ (nextS s i)) ∧ ov = .bool (nextS s i).isSome ∧
    Hid (wholeS s = (acc ++ (wholeR s i).1, (wholeR s i).2)) ∧ Hid (OwnStrs wr w.heap.size v acc) ∧ Hid (Below w.heap.size w wr)) (fun _ en _ _ _ _ => s.length + 1 - (intOf en).toNat)
  case atStart => exact ⟨[], 0, rfl, by omega, by simp, rfl, rfl, rfl, H0, Lib.hid (OwnStrs.nil _ _), HB1⟩
  case round =>
    obtain ⟨acc, i, rfl, his, hai, rfl, rfl, rfl, HW, HO, HB⟩ := hrel
    cases hn : nextS s (i : Int) with
    | none =>
      have hR := wholeR_eq (s := s) (by omega) (i : Int) (by omega)
      rw [hn] at hR
      have HF := Lib.hid (show wholeS s = (acc, (i : Int)) by rw [HW.out, hR]; simp)
      clear hR hn
      simp only [nP, nJ, Option.map_none, Option.getD_none, Option.isSome_none]
      go_wp2_with fail
      go_returns
      unfold WholePost
      rw [HF.out]
      exact ⟨_, rfl, HO.out, HB.out⟩
    | some x =>
      obtain ⟨p, j⟩ := x
      have hin := nextS_in (by omega) hn
      obtain ⟨k, rfl⟩ := Int.eq_ofNat_of_zero_le (show 0 ≤ j by omega)
      have hR := wholeR_eq (s := s) (by omega) (i : Int) (by omega)
      rw [hn] at hR
      have HF := Lib.hid (show wholeS s = ((acc ++ [p]) ++ (wholeR s k).1, (wholeR s k).2) by rw [HW.out, hR]; simp)
      have hk1 : i + 11 ≤ k := by omega
      have hk2 : k ≤ s.length := by omega
      clear hR hn hin
      simp only [nP, nJ, Option.map_some, Option.getD_some, Option.isSome_some]
      go_wp2_with (at_builtin; refine wpList_append_own _ rfl _ _ 29 rfl w.heap.size 9 i0 (.string ⟨#[]⟩) 1 16 Tryz.underlying29 hi hz0 hz1 hz2 rfl (by decide) _ _ _ rfl (HO.out.alloc _) ⟨wr.heap.size, 0, none⟩ 1 1 [.string ⟨p.toArray⟩] rfl rfl ?c1 ?c2 ?c3 ?c4 ?c5 ?_)
      case c1 => exact cell_one_new _ _ _
      case c2 => intro u hu; simp at hu; subst hu; rfl
      case c3 => unfold maxLen; omega
      case c4 => omega
      case c5 => have := HB.out.size; simp; omega
      intro v' w3 hown' hgrow _
      have HO3 : Hid (OwnStrs w3 w.heap.size v' (acc ++ [p])) := Lib.hid (by simpa [OwnStrs, strVs] using hown')
      have HB3 : Hid (Below w.heap.size w w3) := Lib.hid ((HB.out.alloc HB.out.size _).grown hgrow (by have := HB.out.size; simp; omega) (fun k hk => (HO.out.lt k hk).1))
      clear hown' hgrow
      go_wp2_with fail
      refine (HN.out (k : Int) _).mono ?_
      rintro e w4 ⟨rfl, hb4⟩
      have HO4 := Lib.hid (HO3.out.later hb4)
      have HB4 := Lib.hid (step2 HB3.out hb4); clear hb4
      go_wp2_with fail
      go_roundw
      case rel => exact ⟨acc ++ [p], k, rfl, hk2, by rw [List.length_append, List.length_singleton]; omega, rfl, rfl, rfl, HF, HO4, HB4⟩
      case measure => simp [intOf]; omega
end Go.Proofs.YtagemjjhiddpgaaGreatDoor
