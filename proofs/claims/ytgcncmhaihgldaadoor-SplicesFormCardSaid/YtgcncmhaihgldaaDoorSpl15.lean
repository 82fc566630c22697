/- The walk of the law SplicesParts. -/
import Derived.Test.YtgcncmhaihgldaaDoorSpl14
namespace Go.Proofs.YtgcncmhaihgldaaDoor
open Go Go.Proofs Go.RowKit Go.Ink

theorem parts_no {l : List Line} {list : List Spl} {k : Nat} (h : (allS l (list.take k)).2 ≠ 0) : allS l list = ([], (allS l (list.take k)).2) := by
  unfold allS at h ⊢
  split
  · rfl
  · rename_i h1
    rw [if_neg h1] at h
    exact foldS_stop h
theorem parts_yes {l : List Line} {list : List Spl} {k : Nat} (h : (allS l (list.take k)).2 = 0) : allS l list = allS (allS l (list.take k)).1 (list.drop k) := by
  obtain ⟨h1, h2⟩ := allS_may h
  have e1 : allS l (list.take k) = foldS l (list.take k) := by unfold allS; rw [if_neg (by rw [h1]; simp)]
  rw [e1] at h h2 ⊢
  unfold allS
  rw [if_neg (by rw [h1]; simp), if_neg (by rw [h2]; simp)]
  have e := foldS_append (list.take k) (list.drop k) l
  rw [List.take_append_drop, if_neg (by rw [h]; simp)] at e
  exact e
theorem muchL_len {many : Int} {len : Nat} : ∀ {list : List Spl} {n : Int}, muchL many len n list = false → (len : Int) ≤ many
  | [], n, h => by
    unfold muchL at h
    split at h
    · cases h
    · omega
  | a :: r, n, h => by
    unfold muchL at h
    split at h
    · cases h
    · exact muchL_len h
theorem small_at {l : List Line} {m b : Int} (h : greatS l m b = false) (hm : m ≤ 2100) (hb0 : 0 ≤ b) (hb : b ≤ 20000) : l.length ≤ 2100 ∧ ∀ t ∈ l, t.length ≤ 20000 := by
  obtain ⟨h1, h2⟩ := greatS_false h (by omega) (by omega)
  exact ⟨by omega, fun t ht => by have := total_mem ht; omega⟩
theorem SplOf.take {w : World} {ao : Option Addr} {cap : Nat} {l : List Spl} (h : SplOf w ao cap l) (k : Nat) : SplOf w ao cap (l.take k) := by
  obtain ⟨h1, h2, h3, h4⟩ := h
  refine ⟨by rw [List.length_take]; omega, h2, h3, fun j x hj => h4 j x ?_⟩
  rw [List.getElem?_take] at hj
  split at hj
  · exact hj
  · cases hj
theorem SplOf.drop {w : World} {ad : Addr} {cap : Nat} {l : List Spl} (h : SplOf w (some ad) cap l) (k : Nat) : SplOf w (some (ad.add (k * 3))) (cap - k) (l.drop k) := by
  obtain ⟨h1, h2, h3, h4⟩ := h
  refine ⟨by rw [List.length_drop]; omega, by omega, by simp, fun j x hj => ?_⟩
  rw [List.getElem?_drop] at hj
  obtain ⟨b, off, ai, ci, ha, c0, c1, c2, hs⟩ := h4 _ _ hj
  injection ha with ha
  subst ha
  refine ⟨b, off + k * 3, ai, ci, by rw [add_none], ?_, ?_, ?_, hs⟩
  · rw [show off + k * 3 + j * 3 = off + (k + j) * 3 by omega]; exact c0
  · rw [show off + k * 3 + j * 3 + 1 = off + (k + j) * 3 + 1 by omega]; exact c1
  · rw [show off + k * 3 + j * 3 + 2 = off + (k + j) * 3 + 2 by omega]; exact c2
theorem SplOf.none (w : World) : SplOf w none 0 [] := ⟨by simp, by unfold maxLen; omega, fun _ => rfl, fun k x hk => by simp at hk⟩
theorem SplOf.nil {w : World} (ad : Addr) (cap : Nat) (h : cap ≤ maxLen) : SplOf w (some ad) cap [] := ⟨by simp, h, by simp, fun k x hk => by simp at hk⟩

set_option maxRecDepth 100000 in
set_option maxHeartbeats 1000000 in
theorem splicesParts_any (l : List Line) (ao : Option Addr) (cap : Nat) (list : List Spl) (al : Option Addr) (cl : Nat) (cut : Int) (w : World) (hc0 : 0 ≤ cut) (hc1 : cut ≤ 255) (hl : SlOf IsStr w ao cap l) (hs : SplOf w al cl list) (ht : Tab10 w) :
    Calls Tryd.prog 6 #[.slice ao l.length cap, .slice al list.length cl, .int .u8 cut] w fun e w' => e = .returned (.bool true) ∧ Below w.heap.size w w' := by
  have HL := Lib.hid hl
  have HS := Lib.hid hs
  have HT := Lib.hid ht
  clear hl hs ht
  obtain ⟨c, rfl⟩ := Int.eq_ofNat_of_zero_le hc0
  cases hg : greatS l 500 20000 with
  | true =>
    go_enter Tryd.func6, Tryd.ntmps6
    go_wp2_with fail
    refine (great_any l _ _ 500 20000 _ HL.out (by omega) (by omega)).mono ?_
    rintro e w1 ⟨rfl, rfl⟩
    rw [hg]
    go_wp2_with fail
    go_returns
    exact ⟨rfl, Below.refl _ _⟩
  | false =>
    cases hm : muchS list 40 with
    | true =>
      go_enter Tryd.func6, Tryd.ntmps6
      go_wp2_with fail
      refine (great_any l _ _ 500 20000 _ HL.out (by omega) (by omega)).mono ?_
      rintro e w1 ⟨rfl, rfl⟩
      rw [hg]
      go_wp2_with fail
      refine (much_any list _ _ 40 _ HS.out).mono ?_
      rintro e w1 ⟨rfl, rfl⟩
      rw [hm]
      go_wp2_with fail
      go_returns
      exact ⟨rfl, Below.refl _ _⟩
    | false =>
      have HSM := Lib.hid (small_at hg (by omega) (by omega) (by omega))
      have hlen : list.length ≤ 40 := by have := muchL_len hm; omega
      have hcl : list.length ≤ cl := HS.out.1
      have hcm : cl ≤ 9223372036854775807 := HS.out.2.1
      obtain ⟨k, hk⟩ : ∃ k, k = c % (list.length + 1) := ⟨_, rfl⟩
      have hkl : k ≤ list.length := by have := Nat.mod_lt c (show 0 < list.length + 1 by omega); omega
      have hmod : (c : Int) % ((list.length : Int) + 1) = (k : Int) := by rw [hk]; push_cast; rfl
      have HPL := Lib.hid (show (list.take k).length = k by rw [List.length_take]; omega)
      have HQL := Lib.hid (show (list.drop k).length = list.length - k by rw [List.length_drop])
      have HNO := Lib.hid (fun h => parts_no (l := l) (list := list) (k := k) h)
      have HYES := Lib.hid (fun h => parts_yes (l := l) (list := list) (k := k) h)
      have HSP := Lib.hid (fun w hs => (SplOf.take (w := w) (ao := al) (cap := cl) (l := list) hs k))
      have HSD := Lib.hid (fun w ad hs => (SplOf.drop (w := w) (ad := ad) (cap := cl) (l := list) hs k))
      clear hk
      generalize list.take k = P at *
      have hkc : k ≤ cl := by omega
      go_enter Tryd.func6, Tryd.ntmps6
      go_wp2_with fail
      refine (great_any l _ _ 500 20000 _ HL.out (by omega) (by omega)).mono ?_
      rintro e w1 ⟨rfl, rfl⟩
      rw [hg]
      go_wp2_with fail
      refine (much_any list _ _ 40 _ HS.out).mono ?_
      rintro e w1 ⟨rfl, rfl⟩
      rw [hm]
      go_wp2_with fail
      refine (all_any l _ _ list _ _ _ HL.out HS.out (by have := HSM.out.1; omega)).mono ?_
      rintro e w1 ⟨v1, rfl, ho1, hb1⟩
      have HO1 := Lib.hid ho1
      have HB1 := Lib.hid hb1
      clear ho1 hb1
      go_wp2_with fail
      have HA2 := Lib.hid (all_any l _ _ P _ _ _ (HL.out.later lasts_str HB1.out) (HSP.out _ (HS.out.later HB1.out)) (by have := HSM.out.1; omega))
      rw [HPL.out] at HA2
      refine HA2.out.mono ?_
      rintro e w2 ⟨v2, rfl, ho2, hb2⟩
      have HO2 := Lib.hid ho2
      have HB2 := Lib.hid (HB1.out.trans (hb2.mono HB1.out.size))
      have HO12 := Lib.hid (ownsRow_below HO1.out hb2)
      clear ho2 hb2 HA2
      by_cases hok : (allS l P).2 = 0
      · have HM := Lib.hid (show (allS l P).1.length ≤ 100000 by have := (checkL_ok.1 (allS_may hok).2).2.1; omega)
        have HE := Lib.hid (HYES.out hok)
        rw [HE.out] at HO12
        rw [hok, HE.out]
        obtain ⟨a1, k1, hv1⟩ := ownsRow_shape HO12.out
        subst hv1
        obtain ⟨a2, k2, hv2⟩ := ownsRow_shape HO2.out
        subst hv2
        have HS2 := Lib.hid (HS.out.later HB2.out)
        clear hok HE HNO HYES HSP HPL HO1 HB1
        generalize (allS l P).1 = M at *
        have HQE := Lib.hid (fun (h : list.length = k) => show list.drop k = [] from List.drop_eq_nil_of_le (by omega))
        have HTL := Lib.hid (fun aq cq h => all_any M a2 k2 (list.drop k) aq cq w2 (own_slOfV rfl HO2.out) h HM.out)
        rw [HQL.out] at HTL
        generalize list.drop k = Q at *
        clear HQL
        rcases al with _ | ad
        · have h0 : cl = 0 := HS.out.2.2.1 rfl
          subst h0
          have hl0 : list = [] := List.eq_nil_of_length_eq_zero (by omega)
          subst hl0
          have hk0 : k = 0 := by simp at hkl; exact hkl
          subst hk0
          have hQ : Q = [] := HQE.out rfl
          subst hQ
          simp only [List.length_nil, Nat.sub_self] at HTL
          have HSQ := Lib.hid (SplOf.none w2)
          clear HQE
          go_wp2_with fail
          generalize hQ : ([] : List Spl) = Q at HTL HO12 HSQ
          clear hQ
          refine (HTL.out _ _ HSQ.out).mono ?_
          rintro e w3 ⟨v3, rfl, ho3, hb3⟩
          have HB3 := Lib.hid (HB2.out.trans (hb3.mono HB2.out.size))
          have HS1 := Lib.hid (own_slOfV rfl (ownsRow_below HO12.out hb3))
          obtain ⟨a3, k3, hv3⟩ := ownsRow_shape ho3
          subst hv3
          have HS3 := Lib.hid (own_slOfV rfl ho3)
          clear ho3 hb3 HTL HO12 HO2 HSQ
          generalize (allS M Q).2 = E at *
          generalize (allS M Q).1 = m at *
          go_wp2_with fail
          refine (same_self m _ _ _ _ _ HS1.out HS3.out).mono ?_
          rintro e w4 ⟨rfl, hb4⟩
          have HB4 := Lib.hid (HB3.out.trans (hb4.mono HB3.out.size)); clear hb4
          go_wp2_with fail
          refine (does_any _ (HT.out.later HB4.out)).mono ?_
          rintro e w7 ⟨rfl, hb⟩
          have HB7 := Lib.hid (HB4.out.trans (hb.mono HB4.out.size)); clear hb
          go_wp2_with fail
          go_returns
          exact ⟨rfl, HB7.out⟩
        · by_cases hkc' : cl = k
          · have HSQ := Lib.hid (show SplOf w2 (some ad) 0 Q from by rw [HQE.out (by omega)]; exact SplOf.nil _ _ (by unfold maxLen; omega))
            clear HQE
            go_wp2_with fail
            refine (HTL.out _ _ HSQ.out).mono ?_
            rintro e w3 ⟨v3, rfl, ho3, hb3⟩
            have HB3 := Lib.hid (HB2.out.trans (hb3.mono HB2.out.size))
            have HS1 := Lib.hid (own_slOfV rfl (ownsRow_below HO12.out hb3))
            obtain ⟨a3, k3, hv3⟩ := ownsRow_shape ho3
            subst hv3
            have HS3 := Lib.hid (own_slOfV rfl ho3)
            clear ho3 hb3 HTL HO12 HO2 HSQ
            generalize (allS M Q).2 = E at *
            generalize (allS M Q).1 = m at *
            go_wp2_with fail
            refine (same_self m _ _ _ _ _ HS1.out HS3.out).mono ?_
            rintro e w4 ⟨rfl, hb4⟩
            have HB4 := Lib.hid (HB3.out.trans (hb4.mono HB3.out.size)); clear hb4
            go_wp2_with fail
            refine (does_any _ (HT.out.later HB4.out)).mono ?_
            rintro e w7 ⟨rfl, hb⟩
            have HB7 := Lib.hid (HB4.out.trans (hb.mono HB4.out.size)); clear hb
            go_wp2_with fail
            go_returns
            exact ⟨rfl, HB7.out⟩
          · have HSQ := Lib.hid (HSD.out _ _ HS2.out)
            clear HQE
            go_wp2_with fail
            refine (HTL.out _ _ HSQ.out).mono ?_
            rintro e w3 ⟨v3, rfl, ho3, hb3⟩
            have HB3 := Lib.hid (HB2.out.trans (hb3.mono HB2.out.size))
            have HS1 := Lib.hid (own_slOfV rfl (ownsRow_below HO12.out hb3))
            obtain ⟨a3, k3, hv3⟩ := ownsRow_shape ho3
            subst hv3
            have HS3 := Lib.hid (own_slOfV rfl ho3)
            clear ho3 hb3 HTL HO12 HO2 HSQ
            generalize (allS M Q).2 = E at *
            generalize (allS M Q).1 = m at *
            go_wp2_with fail
            refine (same_self m _ _ _ _ _ HS1.out HS3.out).mono ?_
            rintro e w4 ⟨rfl, hb4⟩
            have HB4 := Lib.hid (HB3.out.trans (hb4.mono HB3.out.size)); clear hb4
            go_wp2_with fail
            refine (does_any _ (HT.out.later HB4.out)).mono ?_
            rintro e w7 ⟨rfl, hb⟩
            have HB7 := Lib.hid (HB4.out.trans (hb.mono HB4.out.size)); clear hb
            go_wp2_with fail
            go_returns
            exact ⟨rfl, HB7.out⟩
      · have hq : ((allS l P).2 == 0) = false := by simpa using hok
        have HE := Lib.hid (HNO.out hok)
        clear hok
        rw [HE.out] at HO12 ⊢
        obtain ⟨a1, k1, hv1⟩ := ownsRow_shape HO12.out
        subst hv1
        go_wp2_with fail
        refine (does_any _ (HT.out.later HB2.out)).mono ?_
        rintro e w7 ⟨rfl, hb⟩
        have HB7 := Lib.hid (HB2.out.trans (hb.mono HB2.out.size)); clear hb
        go_wp2_with fail
        go_returns
        exact ⟨rfl, HB7.out⟩
end Go.Proofs.YtgcncmhaihgldaaDoor
