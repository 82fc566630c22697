/- The walk of the law SplicesBack. -/
import Derived.Test.YtgcncmhaihgldaaDoorSpl16
import Derived.Test.YtgcncmhaihgldaaDoorSpl14
namespace Go.Proofs.YtgcncmhaihgldaaDoor
open Go Go.Proofs Go.RowKit Go.Ink

set_option maxRecDepth 100000 in
set_option maxHeartbeats 4000000 in
theorem splicesBack_any (l : List Line) (ao : Option Addr) (cap : Nat) (list : List Spl) (al : Option Addr) (cl : Nat) (w : World) (hl : SlOf IsStr w ao cap l) (hs : SplOf w al cl list) (ht : Tab10 w) :
    Calls Tryd.prog 5 #[.slice ao l.length cap, .slice al list.length cl] w fun e w' => e = .returned (.bool true) ∧ Below w.heap.size w w' := by
  have HL := Lib.hid hl
  have HS := Lib.hid hs
  have HT := Lib.hid ht
  clear hl hs ht
  cases hg : greatS l 500 20000 with
  | true =>
    go_enter Tryd.func5, Tryd.ntmps5
    go_wp2_with fail
    refine (great_any l _ _ 500 20000 _ HL.out (by omega) (by omega)).mono ?_
    rintro e w1 ⟨rfl, rfl⟩
    rw [hg]
    go_wp2_with fail
    go_returns
    exact ⟨rfl, Below.refl _ _⟩
  | false =>
    cases hm : muchS list 40 with
    | true =>
      go_enter Tryd.func5, Tryd.ntmps5
      go_wp2_with fail
      refine (great_any l _ _ 500 20000 _ HL.out (by omega) (by omega)).mono ?_
      rintro e w1 ⟨rfl, rfl⟩
      rw [hg]
      go_wp2_with fail
      refine (much_any list _ _ 40 _ HS.out).mono ?_
      rintro e w1 ⟨rfl, rfl⟩
      rw [hm]
      go_wp2_with fail
      go_returns
      exact ⟨rfl, Below.refl _ _⟩
    | false =>
      have HSM := Lib.hid (small_at hg (by omega) (by omega) (by omega))
      have hlen : list.length ≤ 40 := by have := muchL_len hm; omega
      go_enter Tryd.func5, Tryd.ntmps5
      go_wp2_with fail
      refine (great_any l _ _ 500 20000 _ HL.out (by omega) (by omega)).mono ?_
      rintro e w1 ⟨rfl, rfl⟩
      rw [hg]
      go_wp2_with fail
      refine (much_any list _ _ 40 _ HS.out).mono ?_
      rintro e w1 ⟨rfl, rfl⟩
      rw [hm]
      go_wp2_with fail
      have HA := Lib.hid (all_any l ao cap [] none 0 w1 HL.out (SplOf.none _) (by have := HSM.out.1; omega))
      simp only [List.length_nil] at HA
      refine HA.out.mono ?_
      rintro e w2 ⟨v2, rfl, ho2, hb2⟩
      have HB2 := Lib.hid hb2
      clear hb2 HA
      by_cases hc : checkL l = 0
      · have he : allS l [] = (l, 0) := by rw [allS_nil, if_neg (by rw [hc]; simp)]
        rw [he] at ho2 ⊢
        obtain ⟨a2, c2, rfl, hs2⟩ := OwnStrs.slOf ho2
        have HS2 := Lib.hid hs2
        have HU := Lib.hid (show Undone l l [] from ⟨hc, trivial, rfl⟩)
        have HC := Lib.hid hc
        clear ho2 hs2 hc he
        go_wp2_with fail
        go_loopw [5, 7, 9] (fun nv bv q wr => ∃ (k : Nat) (m : List Line) (bk : List Spl) (an ab : Option Addr) (cn cb : Nat), nv = .slice an m.length cn ∧ bv = .slice ab bk.length cb ∧ q = .int .i64 k ∧ k ≤ list.length ∧ bk.length ≤ k ∧ Hid (SlOf IsStr wr an cn m) ∧ Hid (SplOf wr ab cb bk) ∧ Hid (Undone l m bk) ∧ Hid (Below w1.heap.size w1 wr)) (fun _ _ q _ => list.length - (intOf q).toNat)
        case atStart => exact ⟨0, l, [], a2, none, c2, 0, rfl, rfl, rfl, by omega, by simp, HS2, Lib.hid (SplOf.none _), HU, HB2⟩
        case round =>
          obtain ⟨k, m, bk, an, ab, cn, cb, rfl, rfl, rfl, hk, hbk, HN, HK, HU, HB⟩ := hrel
          by_cases hlt : k < list.length
          · obtain ⟨s, hks⟩ : ∃ s, list[k]? = some s := ⟨_, List.getElem?_eq_getElem hlt⟩
            obtain ⟨b, off, ai, ci, hao, c0, c1, c2, hins⟩ := HS.out.2.2.2 k s hks
            subst hao
            have HI := Lib.hid (hins.later lasts_str HB.out)
            have d0 := ((HB.out.cell (p := ⟨b, off + k * 3, none⟩) (lt_of_cell c0))).trans c0
            have d1 := ((HB.out.cell (p := ⟨b, off + k * 3 + 1, none⟩) (lt_of_cell c1))).trans c1
            have d2 := ((HB.out.cell (p := ⟨b, off + k * 3 + 2, none⟩) (lt_of_cell c2))).trans c2
            clear c0 c1 c2 hins hks
            have HM := Lib.hid (show m.length ≤ 100000 by have := HU.out.len; omega)
            have HST := Lib.hid (fun (h : (doneS m s).2 = 0) => HU.out.step h)
            have HAP := Lib.hid (fun w hl hi => apply_any m an cn s ai ci w hl hi HM.out)
            have HIN := Lib.hid (fun w hl hi => inverse_any m an cn s ai ci w hl hi HM.out)
            have her := invS_err m s
            rw [applyS_of HU.out.may s] at HAP her
            simp only [splV] at HAP HIN
            go_wp2_with fail
            refine (HAP.out _ HN.out HI.out).mono ?_
            rintro e w3 ⟨v3, rfl, ho3, hb3⟩
            have HB3 := Lib.hid (HB.out.trans (hb3.mono HB.out.size))
            have HN3 := Lib.hid (HN.out.later lasts_str hb3)
            have HI3 := Lib.hid (HI.out.later lasts_str hb3)
            have HK3 := Lib.hid (HK.out.later hb3)
            obtain ⟨a3, k3, hv3⟩ := ownsRow_shape ho3
            subst hv3
            have HS3 := Lib.hid (own_slOfV rfl ho3)
            have f0 := ((hb3.cell (p := ⟨b, off + k * 3, none⟩) (lt_of_cell d0))).trans d0
            have f1 := ((hb3.cell (p := ⟨b, off + k * 3 + 1, none⟩) (lt_of_cell d1))).trans d1
            have f2 := ((hb3.cell (p := ⟨b, off + k * 3 + 2, none⟩) (lt_of_cell d2))).trans d2
            clear ho3 hb3 HN HI HK HB d0 d1 d2 HAP
            by_cases hd : (doneS m s).2 = 0
            · have HND := Lib.hid (HST.out hd)
              rw [hd] at her
              have HE0 := Lib.hid her
              rw [hd]
              clear her hd HST
              generalize (doneS m s).1 = D at *
              go_wp2_with fail
              refine (HIN.out _ HN3.out HI3.out).mono ?_
              rintro e w4 ⟨v4, rfl, ho4, hb4⟩
              rw [HE0.out]
              obtain ⟨a4, k4, hv4⟩ := ownsRow_shape ho4
              subst hv4
              have HS4 := Lib.hid (own_slOfV rfl ho4)
              have HB4 := Lib.hid (HB3.out.trans (hb4.mono HB3.out.size))
              have HS34 := Lib.hid (HS3.out.later lasts_str hb4)
              have HK4 := Lib.hid (HK3.out.later hb4)
              clear ho4 hb4 HIN HE0 HN3 HI3 HS3 HK3 f0 f1 f2
              generalize (invS m s).1 = IV at *
              have HA5 := Lib.hid (below_alloc w4 (.cells #[.int .i64 IV.pos, .int .i64 IV.del, .slice a4 IV.ins.length k4] 24 (0, 0)))
              go_wp2_with (at_builtin; refine wpList_append_spl (w0 := w4.alloc (.cells #[.int .i64 IV.pos, .int .i64 IV.del, .slice a4 IV.ins.length k4] 24 (0, 0))) rfl _ _ rfl IV a4 k4 (w4.heap.size + 1) (by simp) rfl (HS4.out.later lasts_str HA5.out) ab bk.length cb bk rfl rfl (HK4.out.later HA5.out) (by omega) ?_)
              intro a' c' w5 hsp hb5
              have HB5 := Lib.hid (HB4.out.trans ((HA5.out.trans (hb5.mono (Nat.le_succ _))).mono HB4.out.size))
              have HS35 := Lib.hid (HS34.out.later lasts_str (HA5.out.trans (hb5.mono (Nat.le_succ _))))
              have HSP := Lib.hid hsp
              clear hsp hb5 HA5
              go_wp2_with fail
              go_roundw
              case rel => exact ⟨k + 1, D, IV :: bk, a3, a', k3, c', rfl, by simp, by go_num, by omega, by simp; omega, HS35, HSP, HND, HB5⟩
              case measure => simp [intOf]; omega
            · have hq : ((doneS m s).2 == 0) = false := by simpa using hd
              have HER := Lib.hid her
              clear hd HST her
              generalize (doneS m s).2 = E at *
              generalize (doneS m s).1 = D at *
              go_wp2_with fail
              refine (HIN.out _ HN3.out HI3.out).mono ?_
              rintro e w4 ⟨v4, rfl, ho4, hb4⟩
              rw [HER.out]
              obtain ⟨a4, k4, hv4⟩ := ownsRow_shape ho4
              subst hv4
              have HB4 := Lib.hid (HB3.out.trans (hb4.mono HB3.out.size))
              have HN4 := Lib.hid (HN3.out.later lasts_str hb4)
              have HK4 := Lib.hid (HK3.out.later hb4)
              clear ho4 hb4 HIN HER HN3 HI3 HK3 HS3 f0 f1 f2
              generalize (invS m s).1 = IV at *
              have HA5 := Lib.hid (below_alloc w4 (.cells #[.int .i64 IV.pos, .int .i64 IV.del, .slice a4 IV.ins.length k4] 24 (0, 0)))
              have HB5 := Lib.hid (HB4.out.trans (HA5.out.mono HB4.out.size))
              have HN5 := Lib.hid (HN4.out.later lasts_str HA5.out)
              have HK5 := Lib.hid (HK4.out.later HA5.out)
              clear HA5
              go_wp2_with fail
              go_roundw
              case rel => exact ⟨k + 1, m, bk, an, ab, cn, cb, rfl, rfl, by go_num, by omega, by omega, HN5, HK5, HU, HB5⟩
              case measure => simp [intOf]; omega
          · have hkl : k = list.length := by omega
            subst hkl
            have hbl : bk.length ≤ 40 := by omega
            have HAG := Lib.hid (show Again l m m (bk.drop 0) [] from ⟨HU.out, ⟨HU.out.may, trivial, rfl⟩⟩)
            have HBW := Lib.hid (Below.refl wr.heap.size wr)
            have HCB := Lib.hid HB.out
            have HNW := Lib.hid HN.out
            have HKW := Lib.hid HK.out
            clear HU HB HN HK HS HS2 HB2 hk hlt
            go_wp2_with fail
            go_loopw [5, 8, 15] (fun nv av q wx => ∃ (k : Nat) (m2 : List Line) (ag : List Spl) (an2 aa : Option Addr) (cn2 ca : Nat), nv = .slice an2 m2.length cn2 ∧ av = .slice aa ag.length ca ∧ q = .int .i64 k ∧ k ≤ bk.length ∧ ag.length ≤ k ∧ Hid (SlOf IsStr wx an2 cn2 m2) ∧ Hid (SplOf wx aa ca ag) ∧ Hid (Again l m m2 (bk.drop k) ag) ∧ Hid (Below wr.heap.size wr wx)) (fun _ _ q _ => bk.length - (intOf q).toNat)
            case atStart => exact ⟨0, m, [], an, none, cn, 0, rfl, rfl, rfl, by omega, by simp, HNW, Lib.hid (SplOf.none _), HAG, HBW⟩
            case round =>
              rename_i wx _
              clear HAG HBW
              obtain ⟨k, m2, ag, an2, aa, cn2, ca, rfl, rfl, rfl, hk, hag, HN, HK, HU, HB⟩ := hrel
              by_cases hlt : k < bk.length
              · obtain ⟨s, hks⟩ : ∃ s, bk[k]? = some s := ⟨_, List.getElem?_eq_getElem hlt⟩
                obtain ⟨b, off, ai, ci, hao, c0, c1, c2, hins⟩ := HKW.out.2.2.2 k s hks
                subst hao
                have HI := Lib.hid (hins.later lasts_str HB.out)
                have d0 := ((HB.out.cell (p := ⟨b, off + k * 3, none⟩) (lt_of_cell c0))).trans c0
                have d1 := ((HB.out.cell (p := ⟨b, off + k * 3 + 1, none⟩) (lt_of_cell c1))).trans c1
                have d2 := ((HB.out.cell (p := ⟨b, off + k * 3 + 2, none⟩) (lt_of_cell c2))).trans c2
                have hu : Again l m m2 (s :: bk.drop (k + 1)) ag := by
                  obtain ⟨h1, rfl⟩ := List.getElem?_eq_some_iff.1 hks
                  rw [← List.drop_eq_getElem_cons h1]
                  exact HU.out
                have HM := Lib.hid (show m2.length ≤ 100000 by have := hu.u.len; omega)
                obtain ⟨hd, hst⟩ := hu.step
                have HST := Lib.hid hst
                have HAP := Lib.hid (fun w hl hi => apply_any m2 an2 cn2 s ai ci w hl hi HM.out)
                have HIN := Lib.hid (fun w hl hi => inverse_any m2 an2 cn2 s ai ci w hl hi HM.out)
                have her := invS_err m2 s
                rw [applyS_of hu.u.may s] at HAP her
                rw [hd] at her
                have HE0 := Lib.hid her
                have HD0 := Lib.hid hd
                simp only [splV] at HAP HIN
                clear c0 c1 c2 hins hks hu hst hd her HU
                go_wp2_with fail
                refine (HIN.out _ HN.out HI.out).mono ?_
                rintro e w3 ⟨v3, rfl, ho3, hb3⟩
                rw [HE0.out]
                obtain ⟨a3, k3, hv3⟩ := ownsRow_shape ho3
                subst hv3
                have HS3 := Lib.hid (own_slOfV rfl ho3)
                have HX3 := Lib.hid (heap_alloc_at w3 (.cells #[.int .i64 (invS m2 s).1.pos, .int .i64 (invS m2 s).1.del, .slice a3 (invS m2 s).1.ins.length k3] 24 (0, 0)))
                have HA3 := Lib.hid (below_alloc w3 (.cells #[.int .i64 (invS m2 s).1.pos, .int .i64 (invS m2 s).1.del, .slice a3 (invS m2 s).1.ins.length k3] 24 (0, 0)))
                have f0 := ((hb3.cell (p := ⟨b, off + k * 3, none⟩) (lt_of_cell d0))).trans d0
                have f1 := ((hb3.cell (p := ⟨b, off + k * 3 + 1, none⟩) (lt_of_cell d1))).trans d1
                have f2 := ((hb3.cell (p := ⟨b, off + k * 3 + 2, none⟩) (lt_of_cell d2))).trans d2
                have hz : b < w3.heap.size := lt_of_cell f0
                have HB4 := Lib.hid (HB.out.trans ((hb3.trans (HA3.out.mono hb3.size)).mono HB.out.size))
                have HN4 := Lib.hid ((HN.out.later lasts_str hb3).later lasts_str HA3.out)
                have HI4 := Lib.hid ((HI.out.later lasts_str hb3).later lasts_str HA3.out)
                have HK4 := Lib.hid ((HK.out.later hb3).later HA3.out)
                have HS4 := Lib.hid (HS3.out.later lasts_str HA3.out)
                clear ho3 hb3 HIN HE0 HN HI HK HB HS3 HA3 d0 d1 d2
                go_wp2_with fail
                clear f0 f1 f2 hz
                generalize w3.heap.size = b16 at *
                generalize w3.alloc (.cells #[.int .i64 (invS m2 s).1.pos, .int .i64 (invS m2 s).1.del, .slice a3 (invS m2 s).1.ins.length k3] 24 (0, 0)) = w4 at *
                refine (HAP.out _ HN4.out HI4.out).mono ?_
                rintro e w5 ⟨v5, rfl, ho5, hb5⟩
                rw [HD0.out]
                obtain ⟨a5, k5, hv5⟩ := ownsRow_shape ho5
                subst hv5
                have HN5 := Lib.hid (own_slOfV rfl ho5)
                have HB5 := Lib.hid (HB4.out.trans (hb5.mono HB4.out.size))
                have HK5 := Lib.hid (HK4.out.later hb5)
                have HS5 := Lib.hid (HS4.out.later lasts_str hb5)
                obtain ⟨x0, x1, x2⟩ := box_spl ((hb5.block _ (lt_of_heap HX3.out)).trans HX3.out)
                clear ho5 hb5 HAP HD0 HN4 HI4 HK4 HS4 HB4
                generalize (doneS m2 s).1 = D at *
                generalize (invS m2 s).1 = IV at *
                have HA6 := Lib.hid (below_alloc w5 (.cells #[.int .i64 IV.pos, .int .i64 IV.del, .slice a3 IV.ins.length k3] 24 (0, 0)))
                go_wp2_with (at_builtin; refine wpList_append_spl (w0 := w5) rfl _ _ rfl IV a3 k3 w5.heap.size rfl rfl HS5.out aa ag.length ca ag rfl rfl HK5.out (by omega) ?_)
                intro a' c' w6 hsp hb6
                have HB6 := Lib.hid (HB5.out.trans (hb6.mono HB5.out.size))
                have HN6 := Lib.hid (HN5.out.later lasts_str hb6)
                have HSP := Lib.hid hsp
                clear hsp hb6 HA6 x0 x1 x2 HB5 HN5 HK5 HS5
                go_wp2_with fail
                go_roundw
                case rel => exact ⟨k + 1, D, IV :: ag, a5, a', k5, c', rfl, by simp, by go_num, by omega, by simp; omega, HN6, HSP, HST, HB6⟩
                case measure => simp [intOf]; omega
              · have hkl : k = bk.length := by omega
                subst hkl
                have hu := HU.out
                rw [List.drop_length] at hu
                have HV := Lib.hid hu.v.len
                obtain ⟨hml, hall⟩ := hu.fin
                subst hml
                have HALL := Lib.hid hall
                clear hu hall HU
                have HBW := Lib.hid (HCB.out.trans (HB.out.mono HCB.out.size))
                have HL2 := Lib.hid (HL.out.later lasts_str HBW.out)
                go_wp2_with fail
                refine (same_self m2 _ _ _ _ _ HN.out HL2.out).mono ?_
                rintro e w3 ⟨rfl, hb3⟩
                have HB3 := Lib.hid (HBW.out.trans (hb3.mono HBW.out.size))
                have HN3 := Lib.hid (HN.out.later lasts_str hb3)
                have HK3 := Lib.hid (HK.out.later hb3)
                have HE3 := Lib.hid (HNW.out.later lasts_str (HB.out.trans (hb3.mono HB.out.size)))
                clear hb3 HN HK HB HBW HL2
                go_wp2_with fail
                have HAA := Lib.hid (all_any m2 _ _ ag _ _ w3 HN3.out HK3.out (by have := HV.out; omega))
                rw [HALL.out] at HAA
                refine HAA.out.mono ?_
                rintro e w4 ⟨v4, rfl, ho4, hb4⟩
                obtain ⟨a4, k4, hv4⟩ := ownsRow_shape ho4
                subst hv4
                have HS4 := Lib.hid (own_slOfV rfl ho4)
                have HE4 := Lib.hid (HE3.out.later lasts_str hb4)
                have HB4 := Lib.hid (HB3.out.trans (hb4.mono HB3.out.size))
                clear ho4 hb4 HAA HN3 HK3 HE3 HB3
                go_wp2_with fail
                refine (same_self m _ _ _ _ _ HS4.out HE4.out).mono ?_
                rintro e w5 ⟨rfl, hb5⟩
                have HB5 := Lib.hid (HB4.out.trans (hb5.mono HB4.out.size)); clear hb5
                go_wp2_with fail
                refine (does_any _ (HT.out.later HB5.out)).mono ?_
                rintro e w7 ⟨rfl, hb⟩
                have HB7 := Lib.hid (HB5.out.trans (hb.mono HB5.out.size)); clear hb
                go_wp2_with fail
                go_returns
                exact ⟨rfl, HB7.out⟩
      · have he : allS l [] = ([], checkL l) := by rw [allS_nil, if_pos hc]
        have hq : (checkL l == 0) = false := by simpa using hc
        rw [he]
        clear hc ho2 he
        go_wp2_with fail
        refine (does_any _ (HT.out.later HB2.out)).mono ?_
        rintro e w7 ⟨rfl, hb⟩
        have HB7 := Lib.hid (HB2.out.trans (hb.mono HB2.out.size)); clear hb
        go_wp2_with fail
        go_returns
        exact ⟨rfl, HB7.out⟩
end Go.Proofs.YtgcncmhaihgldaaDoor
