/- The walk of the law NumsCut: it answers true. -/
import Derived.Test.YtnjbnncmpdpkfaaDoorNumsBack
namespace Go.Proofs.YtnjbnncmpdpkfaaDoor
open Go Go.Proofs Go.RowKit Go.Ink

theorem take_x (S : List UInt8) (k : Nat) : (⟨S.toArray⟩ : ByteArray).extract 0 k = ⟨(S.take k).toArray⟩ := by rw [extract_mk]; simp
theorem getAt_zero (s : List UInt8) (h : getN s = none) : getAt s 0 = none := by
  have := getAt_eq s 0 (by omega)
  simp only [Int.natCast_zero, List.drop_zero, h, Option.map_none] at this
  exact this
theorem getTAt_zero (s : List UInt8) (h : getT s = none) : getTAt s 0 = none := by
  have := getTAt_eq s 0 (by omega)
  simp only [Int.natCast_zero, List.drop_zero, h, Option.map_none] at this
  exact this
theorem getLAt_zero (s : List UInt8) (hs : s.length ≤ 9223372036854775807) (h : getL s = none) : getLAt s 0 = none := by
  have := getLAt_eq s hs 0 (by omega)
  simp only [Int.natCast_zero, List.drop_zero, h, Option.map_none] at this
  exact this

set_option maxRecDepth 100000 in
set_option maxHeartbeats 2000000 in
theorem numsCut_any (n : Int) (t : List UInt8) (l : List (List UInt8)) (ao : Option Addr) (cap : Nat) (w : World) (h1 : -9223372036854775808 ≤ n) (h2 : n ≤ 9223372036854775807) (hl : SlOf IsStr w ao cap l) (he : Env w) :
    Calls Tryd.prog 8 #[.int .i64 n, .string ⟨t.toArray⟩, .slice ao l.length cap] w fun e w' => e = .returned (.bool true) ∧ Below w.heap.size w w' := by
  have HE := Lib.hid he; clear he
  have HL := Lib.hid hl
  have hlm : l.length ≤ 9223372036854775807 := Nat.le_trans hl.1 hl.2.1
  clear hl
  have hlm2 : (l.length : Int) ≤ 9223372036854775807 := by omega
  clear hlm
  by_cases hn : n < 0
  · go_enter Tryd.func8, Tryd.ntmps8
    go_wp2_with fail
    refine (does_post _ HE.out _ (Below.refl _ _)).mono ?_
    rintro e w1 ⟨rfl, hb⟩
    have HB := Lib.hid hb; clear hb
    go_wp2_with fail
    go_returns
    exact ⟨rfl, HB.out⟩
  by_cases ht : 1000 < t.length
  · go_enter Tryd.func8, Tryd.ntmps8
    go_wp2_with fail
    refine (does_post _ HE.out _ (Below.refl _ _)).mono ?_
    rintro e w1 ⟨rfl, hb⟩
    have HB := Lib.hid hb; clear hb
    go_wp2_with fail
    go_returns
    exact ⟨rfl, HB.out⟩
  have hg := great_any l ao cap 100 1000 w HL.out (by omega) (by omega)
  cases hgr : greatS l 100 1000 with
  | true =>
    rw [hgr] at hg
    have HG := Lib.hid hg; clear hg hgr
    go_enter Tryd.func8, Tryd.ntmps8
    go_wp2_with fail
    refine HG.out.mono ?_
    rintro e w1 ⟨rfl, rfl⟩
    go_wp2_with fail
    refine (does_post _ HE.out _ (Below.refl _ _)).mono ?_
    rintro e w1 ⟨rfl, hb⟩
    have HB := Lib.hid hb; clear hb
    go_wp2_with fail
    go_returns
    exact ⟨rfl, HB.out⟩
  | false =>
    rw [hgr] at hg
    obtain ⟨z1, z2, z3⟩ := great_sizes hgr (by omega) (by omega) (by omega)
    have HG := Lib.hid hg; clear hg hgr
    have s1 := putN_le n h2
    have s2 := putT_le t (by omega)
    have s3 : (putL l).length ≤ 4000 := by omega
    have HA := Lib.hid (fun w ht => put_any n w h1 h2 ht)
    have HC := Lib.hid (fun w ht => putText_any t w (by omega) ht)
    have HF := Lib.hid (fun ao cap w hl ht => putList_any l ao cap w hl (by omega) ht)
    have HGA := Lib.hid (fun (k : Nat) (hk : k < (putN n).length) w he => by have := get_any ((putN n).take k) 0 w (by unfold maxLen; rw [List.length_take]; omega) he; rw [getAt_zero _ (getN_cut n (by omega) k hk)] at this; exact this)
    have HGT := Lib.hid (fun (k : Nat) (hk : k < (putT t).length) w he => by have := getText_any ((putT t).take k) 0 w (by unfold maxLen; rw [List.length_take]; omega) he; rw [getTAt_zero _ (getT_cut t (by omega) k hk)] at this; exact this)
    have HGL := Lib.hid (fun (k : Nat) (hk : k < (putL l).length) w he => by have := getList_any ((putL l).take k) 0 w (by rw [List.length_take]; omega) he; rw [getLAt_zero _ (by rw [List.length_take]; omega) (getL_cut l (by omega) k hk)] at this; exact this)
    have s2' : (putT t).length ≤ 2000 := by omega
    clear z1 z2 z3
    generalize putN n = S at *
    generalize putT t = T at *
    generalize putL l = U at *
    have HXS := Lib.hid (take_x S)
    have HXT := Lib.hid (take_x T)
    have HXU := Lib.hid (take_x U)
    have sS : (S.length : Int) ≤ 2000 := by omega
    have sT : (T.length : Int) ≤ 2000 := by omega
    have sU : (U.length : Int) ≤ 4000 := by omega
    go_enter Tryd.func8, Tryd.ntmps8
    go_wp2_with fail
    refine HG.out.mono ?_
    rintro e w1 ⟨rfl, rfl⟩
    go_wp2_with fail
    refine (HA.out _ HE.out.h10).mono ?_
    rintro e w2 ⟨rfl, hb⟩
    have HB2 := Lib.hid hb; clear hb
    go_wp2_with fail
    refine (HC.out _ (HE.out.later HB2.out).h10).mono ?_
    rintro e w3 ⟨rfl, hb⟩
    have HB3 := Lib.hid (step2 HB2.out hb); clear hb
    go_wp2_with fail
    refine (HF.out _ _ _ (HL.out.later lasts_str HB3.out) (HE.out.later HB3.out).h10).mono ?_
    rintro e w4 ⟨rfl, hb⟩
    have HB4 := Lib.hid (step2 HB3.out hb); clear hb
    go_wp2_with fail
    go_loopw [10] (fun c wr => ∃ k : Nat, c = .int .i64 k ∧ k ≤ S.length ∧ Hid (Below w1.heap.size w1 wr)) (fun c _ => S.length - (intOf c).toNat)
    case atStart => exact ⟨0, rfl, by omega, HB4⟩
    case round =>
      obtain ⟨k, rfl, hk, HB⟩ := hrel
      by_cases hlt : k < S.length
      · go_wp2_with fail
        rw [HXS.out]
        refine (HGA.out k hlt _ (HE.out.later HB.out)).mono ?_
        rintro e w5 ⟨rfl, hb⟩
        have HB5 := Lib.hid (step2 HB.out hb); clear hb
        simp only [getV]
        go_wp2_with fail
        go_roundw
        case rel => exact ⟨k + 1, by go_num, by omega, HB5⟩
        case measure => simp [intOf]; omega
      · have hkl : k = S.length := by omega
        subst hkl
        go_wp2_with fail
        obtain ⟨wo, rfl⟩ : ∃ wo : World, wo = wr := ⟨_, rfl⟩
        go_loopw [14] (fun c wr => ∃ k : Nat, c = .int .i64 k ∧ k ≤ T.length ∧ Hid (Below w1.heap.size w1 wr)) (fun c _ => T.length - (intOf c).toNat)
        case atStart => exact ⟨0, rfl, by omega, HB⟩
        case round =>
          obtain ⟨k, rfl, hk, HB⟩ := hrel
          by_cases hlt : k < T.length
          · go_wp2_with fail
            rw [HXT.out]
            refine (HGT.out k hlt _ (HE.out.later HB.out)).mono ?_
            rintro e w5 ⟨rfl, hb⟩
            have HB5 := Lib.hid (step2 HB.out hb); clear hb
            simp only [getTV]
            go_wp2_with fail
            go_roundw
            case rel => exact ⟨k + 1, by go_num, by omega, HB5⟩
            case measure => simp [intOf]; omega
          · have hkl : k = T.length := by omega
            subst hkl
            go_wp2_with fail
            obtain ⟨wo2, rfl⟩ : ∃ wo : World, wo = wr := ⟨_, rfl⟩
            go_loopw [18] (fun c wr => ∃ k : Nat, c = .int .i64 k ∧ k ≤ U.length ∧ Hid (Below w1.heap.size w1 wr)) (fun c _ => U.length - (intOf c).toNat)
            case atStart => exact ⟨0, rfl, by omega, HB⟩
            case round =>
              obtain ⟨k, rfl, hk, HB⟩ := hrel
              by_cases hlt : k < U.length
              · go_wp2_with fail
                rw [HXU.out]
                refine (HGL.out k hlt _ (HE.out.later HB.out)).mono ?_
                rintro e w5 ⟨v, rfl, ho, hb⟩
                have HB5 := Lib.hid (step2 HB.out hb); clear hb ho
                simp only [Option.map_none, Option.getD_none, Option.isSome_none]
                go_wp2_with fail
                go_roundw
                case rel => exact ⟨k + 1, by go_num, by omega, HB5⟩
                case measure => simp [intOf]; omega
              · have hkl : k = U.length := by omega
                subst hkl
                go_wp2_with fail
                refine (does_post _ (HE.out.later HB.out) w1 HB.out).mono ?_
                rintro e w9 ⟨rfl, hb⟩
                have HB9 := Lib.hid hb; clear hb
                go_wp2_with fail
                go_returns
                exact ⟨rfl, HB9.out⟩
end Go.Proofs.YtnjbnncmpdpkfaaDoor
