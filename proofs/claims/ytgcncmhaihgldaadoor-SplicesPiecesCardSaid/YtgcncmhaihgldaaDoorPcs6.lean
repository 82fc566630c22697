/- The walk of the law SplicesPieces. -/
import Derived.Test.YtgcncmhaihgldaaDoorPcs5
namespace Go.Proofs.YtgcncmhaihgldaaDoor
open Go Go.Proofs Go.RowKit Go.Ink

structure TabInv (m : List Line) (ps : List (List Line)) : Prop where
  flat : ps.flatten = m
  may : checkL m = 0
  full : ps.length ≤ manyS ps
theorem ofS_full : ∀ l : List (List Line), (ofS l).length ≤ manyS (ofS l)
  | [] => by simp [ofS, manyS]
  | p :: l => by
    have h := ofS_full l
    unfold ofS at h ⊢
    rw [List.filter_cons]
    split
    · rename_i hp
      simp only [decide_eq_true_eq] at hp
      simp only [List.length_cons, manyS]
      omega
    · exact h
theorem TabInv.start {l : List Line} (h : checkL l = 0) : TabInv l (ofS [l]) := ⟨by rw [ofS_flat]; simp, h, ofS_full _⟩
theorem TabInv.many {m : List Line} {ps : List (List Line)} (h : TabInv m ps) : manyS ps = m.length := by rw [manyS_flat, h.flat]
theorem TabInv.len {m : List Line} {ps : List (List Line)} (h : TabInv m ps) : m.length ≤ 2000 := (checkL_ok.1 h.may).2.1
theorem TabInv.step {m : List Line} {ps : List (List Line)} {s : Spl} (h : TabInv m ps) (hd : (doneS m s).2 = 0) : TabInv (doneS m s).1 (tabSpl ps s) := by
  refine ⟨?_, doneS_may h.may hd, ofS_full _⟩
  have := tabSpl_flat (ps := ps) (s := s) (by rw [h.flat]; exact hd)
  rw [this, h.flat]
theorem SpliceTab.ok {w w' : World} {ps : List (List Line)} {s : Spl} {e : Ending} (h : SpliceTab w ps s e w') (h0 : tabErr (manyS ps) s = 0) : ∃ b, e = .returned (.tuple #[.pointer (some ⟨b, 0, none⟩), .int .i64 0]) ∧ TabOf w' b (tabSpl ps s) ∧ Below w.heap.size w w' := by
  unfold SpliceTab at h
  rwa [if_pos h0] at h
theorem SpliceTab.no {w w' : World} {ps : List (List Line)} {s : Spl} {e : Ending} (h : SpliceTab w ps s e w') (h0 : tabErr (manyS ps) s ≠ 0) : e = .returned (.tuple #[.pointer none, .int .i64 (tabErr (manyS ps) s)]) ∧ w = w' := by
  unfold SpliceTab at h
  rwa [if_neg h0] at h

set_option maxRecDepth 100000 in
set_option maxHeartbeats 4000000 in
theorem splicesPieces_any (l : List Line) (ao : Option Addr) (cap : Nat) (list : List Spl) (al : Option Addr) (cl : Nat) (w : World) (hl : SlOf IsStr w ao cap l) (hs : SplOf w al cl list) (ht : Tab10 w) :
    Calls Tryd.prog 7 #[.slice ao l.length cap, .slice al list.length cl] w fun e w' => e = .returned (.bool true) ∧ Below w.heap.size w w' := by
  have HL := Lib.hid hl
  have HS := Lib.hid hs
  have HT := Lib.hid ht
  clear hl hs ht
  cases hg : greatS l 500 20000 with
  | true =>
    go_enter Tryd.func7, Tryd.ntmps7
    go_wp2_with fail
    refine (great_any l _ _ 500 20000 _ HL.out (by omega) (by omega)).mono ?_
    rintro e w1 ⟨rfl, rfl⟩
    rw [hg]
    go_wp2_with fail
    go_returns
    exact ⟨rfl, Below.refl _ _⟩
  | false =>
    cases hm : muchS list 40 with
    | true =>
      go_enter Tryd.func7, Tryd.ntmps7
      go_wp2_with fail
      refine (great_any l _ _ 500 20000 _ HL.out (by omega) (by omega)).mono ?_
      rintro e w1 ⟨rfl, rfl⟩
      rw [hg]
      go_wp2_with fail
      refine (much_any list _ _ 40 _ HS.out).mono ?_
      rintro e w1 ⟨rfl, rfl⟩
      rw [hm]
      go_wp2_with fail
      go_returns
      exact ⟨rfl, Below.refl _ _⟩
    | false =>
      have HSM := Lib.hid (small_at hg (by omega) (by omega) (by omega))
      have hlen : list.length ≤ 40 := by have := muchL_len hm; omega
      go_enter Tryd.func7, Tryd.ntmps7
      go_wp2_with fail
      refine (great_any l _ _ 500 20000 _ HL.out (by omega) (by omega)).mono ?_
      rintro e w1 ⟨rfl, rfl⟩
      rw [hg]
      go_wp2_with fail
      refine (much_any list _ _ 40 _ HS.out).mono ?_
      rintro e w ⟨rfl, rfl⟩
      rw [hm]
      go_wp2_with fail
      refine (tabNew_any l _ _ _ HL.out (by have := HSM.out.1; omega)).mono ?_
      intro e w2 hnew
      unfold NewTab at hnew
      by_cases hc : checkL l = 0
      · rw [if_pos hc] at hnew
        obtain ⟨b2, rfl, ht2, hb2⟩ := hnew
        have HT2 := Lib.hid ht2
        have HB2 := Lib.hid hb2
        have HL2 := Lib.hid (HL.out.later lasts_str hb2)
        have HV := Lib.hid (TabInv.start hc)
        clear ht2 hb2 hc
        go_wp2_with fail
        go_loopw [5, 6, 7] (fun tv nv q wr => ∃ (k : Nat) (m : List Line) (ps : List (List Line)) (bt : Nat) (an : Option Addr) (cn : Nat), tv = .pointer (some ⟨bt, 0, none⟩) ∧ nv = .slice an m.length cn ∧ q = .int .i64 k ∧ k ≤ list.length ∧ Hid (SlOf IsStr wr an cn m) ∧ Hid (TabOf wr bt ps) ∧ Hid (TabInv m ps) ∧ Hid (Below w.heap.size w wr)) (fun _ _ q _ => list.length - (intOf q).toNat)
        case atStart => exact ⟨0, l, ofS [l], b2, ao, cap, rfl, rfl, rfl, by omega, HL2, HT2, HV, HB2⟩
        case round =>
          obtain ⟨k, m, ps, bt, an, cn, rfl, rfl, rfl, hk, HN, HK, HU, HB⟩ := hrel
          by_cases hlt : k < list.length
          · obtain ⟨s, hks⟩ : ∃ s, list[k]? = some s := ⟨_, List.getElem?_eq_getElem hlt⟩
            obtain ⟨b, off, ai, ci, hao, c0, c1, c2, hins⟩ := HS.out.2.2.2 k s hks
            subst hao
            have HI := Lib.hid (hins.later lasts_str HB.out)
            have d0 := ((HB.out.cell (p := ⟨b, off + k * 3, none⟩) (lt_of_cell c0))).trans c0
            have d1 := ((HB.out.cell (p := ⟨b, off + k * 3 + 1, none⟩) (lt_of_cell c1))).trans c1
            have d2 := ((HB.out.cell (p := ⟨b, off + k * 3 + 2, none⟩) (lt_of_cell c2))).trans c2
            clear c0 c1 c2 hins hks
            have HM := Lib.hid (show m.length ≤ 100000 by have := HU.out.len; omega)
            have HAP := Lib.hid (fun w hl hi => apply_any m an cn s ai ci w hl hi HM.out)
            have hti := tabErr_iff m s
            rw [← HU.out.many] at hti
            have HTI := Lib.hid hti
            have HSP := Lib.hid (fun w ht hi => tabSplice_any bt ps s ai ci w ht hi (by have h1 := HU.out.full; have h2 := HU.out.many; have h3 := HU.out.len; omega) (by have h2 := HU.out.many; have h3 := HU.out.len; omega))
            have HST := Lib.hid (fun h => HU.out.step (s := s) h)
            rw [applyS_of HU.out.may s] at HAP
            simp only [splV] at HAP
            have hki : (k : Int) < (list.length : Int) := by omega
            clear hti
            go_wp2_with fail
            refine (HAP.out _ HN.out HI.out).mono ?_
            rintro e w3 ⟨v3, rfl, ho3, hb3⟩
            have HB3 := Lib.hid (HB.out.trans (hb3.mono HB.out.size))
            have HN3 := Lib.hid (HN.out.later lasts_str hb3)
            have HI3 := Lib.hid (HI.out.later lasts_str hb3)
            have HK3 := Lib.hid (HK.out.later hb3)
            obtain ⟨a3, k3, hv3⟩ := ownsRow_shape ho3
            subst hv3
            have HS3 := Lib.hid (own_slOfV rfl ho3)
            have f0 := ((hb3.cell (p := ⟨b, off + k * 3, none⟩) (lt_of_cell d0))).trans d0
            have f1 := ((hb3.cell (p := ⟨b, off + k * 3 + 1, none⟩) (lt_of_cell d1))).trans d1
            have f2 := ((hb3.cell (p := ⟨b, off + k * 3 + 2, none⟩) (lt_of_cell d2))).trans d2
            clear ho3 hb3 HN HI HK HB d0 d1 d2 HAP
            by_cases hd : (doneS m s).2 = 0
            · have HND := Lib.hid (HST.out hd)
              have HT0 := Lib.hid (HTI.out.2 hd)
              rw [hd]
              clear hd HST HTI
              generalize (doneS m s).1 = D at *
              go_wp2_with fail
              have HSQ := Lib.hid (fun w ht hi => (HSP.out w ht hi).mono fun e w' h => h.ok HT0.out)
              go_region_held3 (fun w' => w'.cell? ⟨b, off + k * 3, none⟩ = some (.int .i64 s.pos) ∧ w'.cell? ⟨b, off + k * 3 + 1, none⟩ = some (.int .i64 s.del) ∧ w'.cell? ⟨b, off + k * 3 + 2, none⟩ = some (.slice ai s.ins.length ci))
                (first | exact ⟨f0, f1, f2⟩ | exact ⟨f0', f1', f2'⟩ | go_keep)
                (first
                  | ((with_reducible refine (HSQ.out _ (HK3.out.later ((Below.refl _ _).drew)) (HI3.out.later lasts_str ((Below.refl _ _).drew))).mono ?_); rintro e w5 ⟨b5, rfl, ht5, hb5⟩; have f0' := (hb5.cell (p := ⟨b, off + k * 3, none⟩) (lt_of_cell f0)).trans f0; have f1' := (hb5.cell (p := ⟨b, off + k * 3 + 1, none⟩) (lt_of_cell f1)).trans f1; have f2' := (hb5.cell (p := ⟨b, off + k * 3 + 2, none⟩) (lt_of_cell f2)).trans f2; have HT5 := Lib.hid ht5; have HB5 := Lib.hid (((Below.refl w3.heap.size w3).drew).trans hb5); clear ht5 hb5)
                  | (fail "no arm"))
              have HB6 := Lib.hid (HB3.out.trans (HB5.out.mono HB3.out.size))
              have HS6 := Lib.hid (HS3.out.later lasts_str HB5.out)
              clear f0 f1 f2 f0' f1' f2' HN3 HI3 HK3 HS3 HB3 HB5
              go_wp2_with fail
              go_roundw
              case rel => exact ⟨k + 1, D, tabSpl ps s, b5, a3, k3, rfl, rfl, by go_num, by omega, HS6, HT5, HND, HB6⟩
              case measure => simp [intOf]; omega
            · have hq : ((doneS m s).2 == 0) = false := by simpa using hd
              have ht0 : tabErr (manyS ps) s ≠ 0 := fun h => hd (HTI.out.1 h)
              have HT0 := Lib.hid ht0
              have hq2 : (tabErr (manyS ps) s == 0) = false := by simpa using ht0
              clear hd HST HTI ht0
              generalize (doneS m s).2 = E at *
              generalize (doneS m s).1 = D at *
              have HSQ := Lib.hid (fun w ht hi => (HSP.out w ht hi).mono fun e w' h => h.no HT0.out)
              clear HSP HT0
              generalize tabErr (manyS ps) s = E2 at *
              go_wp2_with fail
              go_region_held3 (fun w' => w'.cell? ⟨b, off + k * 3, none⟩ = some (.int .i64 s.pos) ∧ w'.cell? ⟨b, off + k * 3 + 1, none⟩ = some (.int .i64 s.del) ∧ w'.cell? ⟨b, off + k * 3 + 2, none⟩ = some (.slice ai s.ins.length ci))
                (first | exact ⟨f0, f1, f2⟩ | exact ⟨f0', f1', f2'⟩ | go_keep)
                (first
                  | ((with_reducible refine (HSQ.out _ (HK3.out.later ((Below.refl _ _).drew)) (HI3.out.later lasts_str ((Below.refl _ _).drew))).mono ?_); rintro e w5 ⟨rfl, rfl⟩; have f0' : w3.drew.cell? ⟨b, off + k * 3, none⟩ = some (.int .i64 s.pos) := f0; have f1' : w3.drew.cell? ⟨b, off + k * 3 + 1, none⟩ = some (.int .i64 s.del) := f1; have f2' : w3.drew.cell? ⟨b, off + k * 3 + 2, none⟩ = some (.slice ai s.ins.length ci) := f2)
                  | (fail "no arm"))
              have HB6 := Lib.hid (show Below w.heap.size w w3.drew from HB3.out.drew)
              have HN6 := Lib.hid (HN3.out.later lasts_str ((Below.refl _ _).drew))
              have HK6 := Lib.hid (HK3.out.later ((Below.refl _ _).drew))
              clear f0 f1 f2 f0' f1' f2' HN3 HI3 HK3 HS3 HB3
              generalize w3.drew = w6 at *
              go_wp2_with fail
              go_roundw
              case rel => exact ⟨k + 1, m, ps, bt, an, cn, rfl, rfl, by go_num, by omega, HN6, HK6, HU, HB6⟩
              case measure => simp [intOf]; omega
          · have hkl : k = list.length := by omega
            subst hkl
            have HLI := Lib.hid (tabLines_any bt ps wr HK.out (by have h1 := HU.out.full; have h2 := HU.out.many; have h3 := HU.out.len; omega) (by have h2 := HU.out.many; have h3 := HU.out.len; omega))
            rw [HU.out.flat] at HLI
            have HLE := Lib.hid (tabLen_any bt ps wr HK.out)
            clear HU
            go_wp2_with fail
            refine HLE.out.mono ?_
            rintro e w3 ⟨rfl, rfl⟩
            go_wp2_with fail
            refine HLI.out.mono ?_
            rintro e w3 ⟨v3, rfl, ho3, hb3⟩
            obtain ⟨a3, k3, hv3⟩ := ownsRow_shape ho3
            subst hv3
            have HS3 := Lib.hid (own_slOfV rfl ho3)
            have HN3 := Lib.hid (HN.out.later lasts_str hb3)
            have HB3 := Lib.hid (HB.out.trans (hb3.mono HB.out.size))
            clear ho3 hb3 HLI HLE
            go_wp2_with fail
            refine (same_self m _ _ _ _ _ HS3.out HN3.out).mono ?_
            rintro e w5 ⟨rfl, hb5⟩
            have HB5 := Lib.hid (HB3.out.trans (hb5.mono HB3.out.size)); clear hb5
            go_wp2_with fail
            refine (does_any _ (HT.out.later HB5.out)).mono ?_
            rintro e w7 ⟨rfl, hb⟩
            have HB7 := Lib.hid (HB5.out.trans (hb.mono HB5.out.size)); clear hb
            go_wp2_with fail
            go_returns
            exact ⟨rfl, HB7.out⟩
      · rw [if_neg hc] at hnew
        obtain ⟨rfl, rfl⟩ := hnew
        clear hc
        go_wp2_with fail
        go_loopw [5, 6, 7] (fun tv nv q wr => tv = .pointer none ∧ nv = .slice ao l.length cap ∧ q = .int .i64 0 ∧ wr = w) (fun _ _ _ _ => 0)
        case atStart => exact ⟨rfl, rfl, rfl, rfl⟩
        case round =>
          obtain ⟨rfl, rfl, rfl, rfl⟩ := hrel
          go_wp2_with fail
          all_goals (
            refine (does_any _ HT.out).mono ?_
            rintro e w7 ⟨rfl, hb⟩
            have HB7 := Lib.hid hb; clear hb
            go_wp2_with fail
            go_returns
            exact ⟨rfl, HB7.out⟩)
end Go.Proofs.YtgcncmhaihgldaaDoor
