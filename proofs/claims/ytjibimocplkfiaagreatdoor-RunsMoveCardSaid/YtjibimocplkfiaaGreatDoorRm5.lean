/- RunsMove: the lines move. -/
import Derived.Test.YtjibimocplkfiaaGreatDoorRm2
import Derived.Test.YtjibimocplkfiaaGreatDoorRm3
import Derived.Test.YtjibimocplkfiaaGreatDoorRm4
namespace Go.Proofs.YtjibimocplkfiaaGreatDoor
open Go Go.Proofs Go.Ev Go.RowKit Go.Ink Go.Sort

set_option maxRecDepth 100000 in
set_option maxHeartbeats 2000000 in
theorem runsMove_lo (l : List Line) (ao : Option Addr) (cap : Nat) (n0 n1 n2 : UInt8) (w : World) (hl : SlOf IsStr w ao cap l) (hs : 6 ≤ w.heap.size) (ht : TabW w) (hl0 : ¬ l.length = 0) (hck : checkL l = 0) {I J D : Nat} (hmn : l.length ≤ 8 → MoveN l.length n0 n1 n2 I J D) (hd' : D < I) :
    Calls Tryz.prog 3 #[.slice ao l.length cap, .agg #[.int .u8 (n0.toNat : Int), .int .u8 (n1.toNat : Int), .int .u8 (n2.toNat : Int)]] w fun e w' => e = .returned (.bool true) ∧ Below w.heap.size w w' := by
  have hc : l.length ≤ 9223372036854775807 := Nat.le_trans hl.1 hl.2.1
  have HA := Lib.hid (below_alloc w (.cells #[.int .u8 (n0.toNat : Int), .int .u8 (n1.toNat : Int), .int .u8 (n2.toNat : Int)] 23))
  have HX := Lib.hid (heap_alloc_at w (.cells #[.int .u8 (n0.toNat : Int), .int .u8 (n1.toNat : Int), .int .u8 (n2.toNat : Int)] 23))
  have HL := Lib.hid hl
  have HS := Lib.hid hs
  have HTW := Lib.hid ht
  have HLV := Lib.hid (fun (X : World) (hb : Below w.heap.size w X) => lives_any (w := X) ⟨Nat.le_trans hs hb.size, ht.later hb⟩)
  have HMN := Lib.hid hmn
  have HDD := Lib.hid hd'
  have HCKL := Lib.hid hck
  clear hl hs ht hmn hd' hck
  · have hli : ((l.length : Int) == 0) = false := by rw [beq_eq_false_iff_ne]; omega
    have hlz : ¬ (l.length : Int) = 0 := by omega
    go_enter Tryz.func3, Tryz.ntmps3
    go_wp2_with fail
    refine (beyondText_any l ao cap 8 _ (HL.out.later lasts_str HA.out)).mono ?_
    rintro e w1 ⟨⟨b, rfl, hb⟩, rfl⟩
    cases b
    · have h8 : l.length ≤ 8 := by have := (hb rfl).1; omega
      clear hb
      · have HCK := Lib.hid HCKL.out
        go_wp2_with fail
        refine (coreNew_apart l ao cap _ (HL.out.later lasts_str HA.out) (by omega) HCK.out).mono ?_
        rintro e w2 ⟨c, t, r, rfl, hT2, hC2, hR2, hcge, hb2⟩
        have HT2 := Lib.hid hT2
        have HC2 := Lib.hid hC2
        have HR2 := Lib.hid hR2
        have HB2 := Lib.hid hb2
        have HCG := Lib.hid hcge
        have hx2 := (hb2.block _ (lt_of_heap HX.out)).trans HX.out
        have x0 := Lib.cell_of_heap hx2 0
        have x1 := Lib.cell_of_heap hx2 1
        have x2 := Lib.cell_of_heap hx2 2
        simp only [List.getElem?_toArray, List.getElem?_cons_succ, List.getElem?_cons_zero] at x0 x1 x2
        clear hT2 hC2 hR2 hb2 hcge hx2
        obtain ⟨hIe, hI1, hI2, hz, hJe, hJ1, hJ2, hDe, hD⟩ := (HMN.out h8)
        have HIE := Lib.hid hIe
        have HJE := Lib.hid hJe
        have HDE := Lib.hid hDe
        have HZ := Lib.hid hz
        clear hIe hJe hDe hz
        go_wp2_with fail
        · rename_i h
          rw [HIE.out] at h
          exact absurd h HZ.out
        · rw [HIE.out, HJE.out, HDE.out]
          generalize hwE : ((w2.alloc _).alloc _).alloc _ = wE
          obtain ⟨hbE, hrE, hsE, hzE⟩ := three_blocks w2 _ _ _ I J wE hwE.symm
          clear hwE
          have hclt : c < w2.heap.size := HC2.out.lt
          have hb0 := HB2.out.size
          have ha0 := HA.out.size
          have HBE := Lib.hid ((HA.out.trans (HB2.out.mono HA.out.size)).trans (hbE.mono (Nat.le_trans ha0 hb0)))
          have hbw : w.heap.size ≤ wE.heap.size := HBE.out.size
          have hcb : w.heap.size ≤ c := Nat.le_trans ha0 HCG.out
          have HCW := Lib.hid (show l.length = manyS (ofS [l]) from (manyS_one l).symm)
          have hckl : checkL l = 0 := HCK.out
          have HLE := Lib.hid (fun (X : World) (hb : Below w.heap.size w X) => HL.out.later lasts_str hb)
          have hpos : 1 ≤ l.length := by omega
          have hd : ¬ (I ≤ D ∧ D < J) := by have := HDD.out; omega
          · have HR := Lib.hid (runsRun_ok (B := w.heap.size) (w := wE) (sv := .slice (some ⟨w2.heap.size + 1 + 1, 0, none⟩) 1 1) (lb := w2.heap.size + 1) (lc2 := 2) (by have := HS.out; omega) (HC2.out.later hbE) (HR2.out.later hbE) (HT2.out.later hbE) hrE (.inr ⟨_, rfl, hsE⟩) (by omega) (fun b hb => by injection hb with hb; injection hb with hb; injection hb with hb; omega) (by omega) (by unfold maxLen; omega)
              (fun x hx => by unfold Only at hx; omega) rfl (by have := ofS_len [l]; simp only [List.length_singleton] at this; omega) (by have := HCW.out; omega) (by have := HCW.out; omega) (by rw [ofS_one]; exact hckl) hI1 hJ1 (by have := HCW.out; omega) (by have := HCW.out; omega) hd hbw hcb)
            rw [ofS_one] at HR
            refine HR.out.mono ?_
            rintro e w3 ⟨v3, rfl, hE⟩
            have HB3 := Lib.hid (HBE.out.trans hE.below)
            have hWl := moveW_len hI1 hJ1 hJ2 hD hd
            obtain ⟨S', t', ps', hCo, hF, hM⟩ := hE.core (by omega)
            have HCO := Lib.hid hCo
            have HCA := Lib.hid (fun (X : World) (hb : Below w3.heap.size w3 X) => coreAll_of (hCo.later hb) (moveW l I J D) hF hM l.length hWl hpos)
            have HCC := Lib.hid (fun (X : World) (hb : Below w3.heap.size w3 X) => coreCur_of (hCo.later hb))
            have dd : (decide ((I : Int) ≤ (D : Int)) && decide ((D : Int) < (J : Int))) = false := by
              rw [Bool.and_eq_false_iff, decide_eq_false_iff_not, decide_eq_false_iff_not]
              omega
            have HD := Lib.hid hd
            have HWL := Lib.hid hWl
            have HK := Lib.hid (moveK_le hI1 hJ1 hJ2 hD hd)
            have HRL := Lib.hid (moveR_len hI1 hJ1 hJ2)
            have HMP := Lib.hid (show ∀ k x, l[k]? = some x → moveR (l.take (k + 1)) I J = moveR (l.take k) I J ++ (if k + 1 < I ∨ J < k + 1 then [x] else []) from fun k x h => moveR_next hI1 hJ1 h)
            clear hE hCo hF hM HR hrE hsE hbE hckl hWl
            obtain ⟨i0, hi, hz0, hz1, hz2⟩ := info_parts str_info
            have e1 : ¬ (I : Int) ≤ (D : Int) := by have := HDD.out; omega
            all_goals (
              have e2 : (D : Int) < (J : Int) := by have := HDD.out; omega
              have e4 : decide (D < J) = decide ((D : Int) < (J : Int)) := by simp
              first | rw [decide_eq_false e2] at e4 | clear e4
              clear hd dd
              go_wp2_with fail
              go_loopw [15, 16] (fun v iv wr => ∃ k : Nat, iv = .int .i64 ((k : Int) + 1) ∧ k ≤ l.length ∧ Hid (OwnStrs wr w3.heap.size v (moveR (l.take k) I J)) ∧ Hid (Below w3.heap.size w3 wr)) (fun _ iv _ => l.length + 1 - (intOf iv).toNat)
              case atStart => exact ⟨0, rfl, by omega, Lib.hid (by rw [List.take_zero, moveR_nil]; exact OwnStrs.nil _ _), Lib.hid (Below.refl _ _)⟩
              case round =>
                obtain ⟨k, rfl, hk, HO, HB⟩ := hrel
                by_cases hlt : (k : Int) + 1 ≤ (l.length : Int)
                · obtain ⟨x, hkx⟩ : ∃ x, l[k]? = some x := ⟨_, List.getElem?_eq_getElem (by omega)⟩
                  by_cases hin : (k : Int) + 1 < (I : Int) ∨ (J : Int) < (k : Int) + 1
                  · have HNX := Lib.hid (show moveR (l.take (k + 1)) I J = moveR (l.take k) I J ++ [x] by rw [HMP.out k x hkx, if_pos (by omega)])
                    have hml : (moveR (l.take k) I J).length ≤ 8 := Nat.le_trans (moveR_le hJ1) (by rw [List.length_take]; omega)
                    obtain ⟨g1, off1, u, hao1, hcell1, hu⟩ := (HLE.out wr (HB3.out.trans (HB.out.mono HB3.out.size))).2.2.2 k x hkx
                    have hu' : u = .string ⟨x.toArray⟩ := hu
                    subst hu'
                    subst hao1
                    clear hu hkx
                    by_cases f1 : (k : Int) + 1 < (I : Int)
                    all_goals (
                      (try have f2 : (J : Int) < (k : Int) + 1 := by omega)
                      clear hin
                      go_wp2_with (at_builtin; refine wpList_append_any rfl _ _ rfl w3.heap.size _ (moveR (l.take k) I J) rfl (HO.out.alloc _) _ _ _ [x] rfl rfl (one_text wr x _) (by have := HB.out.size; simp; omega) (by simp only [List.length_singleton]; omega) ?_)
                      intro v' w5 ho5 hb5
                      have HO5 := Lib.hid ho5
                      have HB5 := Lib.hid ((HB.out.alloc HB.out.size _).trans hb5)
                      clear ho5 hb5
                      go_wp2_with fail
                      go_roundw
                      case rel => exact ⟨k + 1, by go_num, by omega, by rw [HNX.out]; exact HO5, HB5⟩
                      case measure => simp [intOf]; omega)
                  · have f1 : ¬ (k : Int) + 1 < (I : Int) := by omega
                    have f2 : ¬ (J : Int) < (k : Int) + 1 := by omega
                    have HNX := Lib.hid (show moveR (l.take (k + 1)) I J = moveR (l.take k) I J by rw [HMP.out k x hkx, if_neg (by omega), List.append_nil])
                    clear hin
                    go_wp2_with fail
                    go_roundw
                    case rel => exact ⟨k + 1, by go_num, by omega, by rw [HNX.out]; exact HO, HB⟩
                    case measure => simp [intOf]; omega
                · have hkl : k = l.length := by omega
                  subst hkl
                  rw [List.take_length] at HO
                  go_upto_region 24 with fail
                  obtain ⟨K, hK⟩ : ∃ K, K = moveK I J D := ⟨_, rfl⟩
                  have e5 : K = if J ≤ D then D - (J - I + 1) else D := hK
                  first
                    | (rw [if_pos (show J ≤ D by omega)] at e5
                       rw [show (D : Int) - ((J : Int) - (I : Int) + 1) = (K : Int) by omega])
                    | (rw [if_neg (show ¬ J ≤ D by omega)] at e5
                       rw [show (D : Int) = (K : Int) by omega])
                  clear e5
                  obtain ⟨R, hR⟩ : ∃ R, R = moveR l I J := ⟨_, rfl⟩
                  obtain ⟨V, hV⟩ : ∃ V, V = moveL l I J := ⟨_, rfl⟩
                  have HW := Lib.hid (show moveW l I J D = ([] ++ R.take K ++ V) ++ R.drop K by rw [hR, hV, hK]; rfl)
                  have HVL := Lib.hid (show V.length = J - I + 1 by rw [hV]; exact moveL_len hI1 hJ1 hJ2)
                  have HVE := Lib.hid (show V = (l.take J).drop (I - 1) by rw [hV]; unfold moveL; rw [List.drop_take])
                  have HRX := Lib.hid (show R.length = l.length - (J - I + 1) by rw [hR]; exact HRL.out)
                  have hKR : K ≤ R.length := by rw [hK, hR]; exact HK.out
                  have HR8 := Lib.hid (show R.length ≤ 8 by have := HRX.out; omega)
                  have HKB := Lib.hid (show moveK I J D + (J - I + 1) = K + (J - I + 1) by rw [hK])
                  rw [← hR] at HO
                  clear hR hV hK
                  have HBW := Lib.hid (HB3.out.trans (HB.out.mono HB3.out.size))
                  obtain ⟨aoR, cR, hu15, hsR⟩ := HO.out.slOf
                  subst hu15
                  have HSR := Lib.hid (fun (X : World) (hb : Below wr.heap.size wr X) => hsR.later lasts_str hb)
                  have HDL := Lib.hid (show (R.drop K).length = R.length - K by rw [List.length_drop])
                  have HTL := Lib.hid (show (R.take K).length = K by rw [List.length_take]; omega)
                  obtain ⟨M, hM⟩ : ∃ M : Nat, M = K + (J - I + 1) := ⟨_, rfl⟩
                  have hMq : (M : Int) = (K : Int) + (J : Int) - (I : Int) + 1 := by omega
                  have HKM := Lib.hid (HKB.out.trans hM.symm)
                  have hs1 : IntKind.i64.wrap ((I : Int) - 1) = (I : Int) - 1 := IntWalk.i64_in _ (by omega)
                  clear hM hsR
                  go_wp2_with (refine wpList_cut_h rfl _ _ rfl aoR _ cR rfl R rfl (HSR.out _ (Below.refl _ _)) _ rfl K rfl hKR ?_)
                  intro ao5 c5 hs5
                  have HS5 := Lib.hid hs5
                  clear hs5
                  refine wpList_append_any rfl _ _ rfl wr.heap.size _ [] rfl (OwnStrs.nil _ _) _ _ _ (R.take K) HTL.out rfl HS5.out (Nat.le_refl _) (by have := HTL.out; have := HR8.out; simp only [List.length_nil]; omega) ?_
                  intro v6 w6 ho6 hb6
                  have HB6 := Lib.hid hb6
                  have HO6 := Lib.hid ho6
                  clear ho6 hb6
                  have HBW6 := Lib.hid (HBW.out.trans (HB6.out.mono HBW.out.size))
                  go_wp2_with (refine wpList_cut_lh rfl _ _ _ rfl ao _ cap rfl l rfl (HLE.out _ HBW6.out) _ rfl _ rfl (I - 1) J (by omega) (by omega) (by omega) (by omega) ?_)
                  rw [← HVE.out]
                  intro ao7 c7 hs7
                  have HS7 := Lib.hid hs7
                  clear hs7
                  refine wpList_append_any rfl _ _ rfl wr.heap.size _ _ rfl HO6.out _ _ _ V (by have := HVL.out; omega) rfl HS7.out HB6.out.size (by have := HTL.out; have := HVL.out; have := HR8.out; simp only [List.nil_append]; omega) ?_
                  intro v7 w7 ho7 hb7
                  have HB7 := Lib.hid (HB6.out.trans hb7)
                  have HO7 := Lib.hid ho7
                  clear ho7 hb7
                  go_wp2_with (refine wpList_cut_l rfl _ _ rfl aoR _ cR rfl R rfl (HSR.out _ HB7.out) _ rfl K rfl hKR ?_)
                  intro ao8 c8 hs8
                  have HS8 := Lib.hid hs8
                  clear hs8
                  refine wpList_append_any rfl _ _ rfl wr.heap.size _ _ rfl HO7.out _ _ _ (R.drop K) HDL.out rfl HS8.out HB7.out.size (by have := HTL.out; have := HDL.out; have := HVL.out; have := HR8.out; simp only [List.nil_append, List.length_append]; omega) ?_
                  rw [← HW.out]
                  intro v9 w9 ho9 hb9
                  have HB9 := Lib.hid (HB.out.trans ((HB7.out.trans hb9).mono HB.out.size))
                  have HBW9 := Lib.hid (HBW.out.trans ((HB7.out.trans hb9).mono HBW.out.size))
                  obtain ⟨a9, k9, hv9, hs9⟩ := ho9.slOf
                  subst hv9
                  have HS9 := Lib.hid hs9
                  clear ho9 hb9 hs9
                  have HSL := Lib.hid (sameS_self (moveW l I J D))
                  go_wp2_with fail
                  refine (HCA.out _ HB9.out).mono ?_
                  rintro e w10 ⟨ao10, cap10, rfl, hs10, hb10⟩
                  have HS10 := Lib.hid hs10
                  have HB10 := Lib.hid (HB9.out.trans (hb10.mono HB9.out.size))
                  have HBW10 := Lib.hid (step2 HBW9.out hb10)
                  have HSN := Lib.hid (HS9.out.later lasts_str hb10)
                  clear hs10 hb10
                  go_wp2_with fail
                  refine (same17_any (moveW l I J D) (moveW l I J D) ao10 a9 cap10 k9 _ HS10.out HSN.out).mono ?_
                  rintro e w11 ⟨rfl, n11, rfl⟩
                  rw [HSL.out]
                  have HB11 := Lib.hid (HB10.out.trans (below_draw _ n11))
                  have HBW11 := Lib.hid (HBW10.out.trans (below_draw _ n11))
                  go_wp2_with fail
                  refine (HCC.out _ HB11.out).mono ?_
                  rintro e w12 ⟨rfl, rfl⟩
                  rw [HKM.out]
                  go_wp2_with fail
                  · refine (HLV.out _ HBW11.out).mono ?_
                    rintro e w13 ⟨rfl, hb13⟩
                    have HB13 := Lib.hid (step2 HBW11.out hb13)
                    clear hb13
                    go_wp2_with fail
                    go_returns
                    exact ⟨rfl, HB13.out⟩
                  · rename_i h
                    have hr8 := HR8.out
                    rw [wrapS (n := (K : Int) + (J : Int)) (m := ((K + J : Nat) : Int)) (by omega) (by omega) (by omega), wrapS (n := ((K + J : Nat) : Int) - (I : Int)) (m := ((K + J - I : Nat) : Int)) (by omega) (by omega) (by omega), wrapS (n := ((K + J - I : Nat) : Int) + 1) (m := (M : Int)) (by omega) (by omega) (by omega)] at h
                    exact absurd (by omega) h)
    · clear hb
      go_wp2_with fail
      refine (HLV.out _ HA.out).mono ?_
      rintro e w2 ⟨rfl, hb2⟩
      have HB2 := Lib.hid (HA.out.trans (hb2.mono HA.out.size))
      clear hb2
      go_wp2_with fail
      go_returns
      exact ⟨rfl, HB2.out⟩
end Go.Proofs.YtjibimocplkfiaaGreatDoor
/- The walk of RunsMove (chapter 23), joined. -/
namespace Go.Proofs.YtjibimocplkfiaaGreatDoor
open Go Go.Proofs Go.Ev Go.RowKit Go.Ink Go.Sort

theorem runsMove_law (l : List Line) (ao : Option Addr) (cap : Nat) (n0 n1 n2 : UInt8) (w : World) (hl : SlOf IsStr w ao cap l) (hs : 6 ≤ w.heap.size) (ht : TabW w) :
    Calls Tryz.prog 3 #[.slice ao l.length cap, .agg #[.int .u8 (n0.toNat : Int), .int .u8 (n1.toNat : Int), .int .u8 (n2.toNat : Int)]] w fun e w' => e = .returned (.bool true) ∧ Below w.heap.size w w' := by
  by_cases hl0 : l.length = 0
  · exact runsMove_out l ao cap n0 n1 n2 w hl hs ht (.inl hl0)
  by_cases hck : checkL l = 0
  · by_cases h8 : l.length ≤ 8
    · obtain ⟨I, J, D, hm⟩ := moveN_any l.length n0 n1 n2 (by omega) h8
      by_cases h1 : J ≤ D
      · exact runsMove_hi l ao cap n0 n1 n2 w hl hs ht hl0 hck (fun _ => hm) h1
      · by_cases h2 : D < I
        · exact runsMove_lo l ao cap n0 n1 n2 w hl hs ht hl0 hck (fun _ => hm) h2
        · exact runsMove_no l ao cap n0 n1 n2 w hl hs ht hl0 hck (fun _ => hm) (by omega)
    · exact runsMove_no (I := 0) (J := 1) (D := 0) l ao cap n0 n1 n2 w hl hs ht hl0 hck (fun h => absurd h h8) (by omega)
  · exact runsMove_out l ao cap n0 n1 n2 w hl hs ht (.inr hck)
end Go.Proofs.YtjibimocplkfiaaGreatDoor
