/- The walk of the law FramesGrow: it answers true. -/
import Derived.Test.YtagemjjhiddpgaaDoorFrmL1
namespace Go.Proofs.YtagemjjhiddpgaaDoor
open Go Go.Proofs Go.RowKit Go.Ink Go.Sort

theorem sl_take {w : World} {ao : Option Addr} {cap : Nat} {l : List (List UInt8)} (h : SlOf IsStr w ao cap l) (k : Nat) : SlOf IsStr w ao cap (l.take k) := by
  obtain ⟨h1, h2, h3, h4⟩ := h
  refine ⟨by rw [List.length_take]; omega, h2, h3, fun j x hj => h4 j x ?_⟩
  rw [List.getElem?_take] at hj
  split at hj
  · exact hj
  · cases hj
theorem sl_drop {w : World} {g o : Nat} {cap : Nat} {l : List (List UInt8)} (h : SlOf IsStr w (some ⟨g, o, none⟩) cap l) (k : Nat) : SlOf IsStr w (some ⟨g, o + k, none⟩) (cap - k) (l.drop k) := by
  obtain ⟨h1, h2, h3, h4⟩ := h
  refine ⟨by rw [List.length_drop]; omega, by omega, by simp, fun j x hj => ?_⟩
  rw [List.getElem?_drop] at hj
  obtain ⟨b, off, u, ha, hc, hr⟩ := h4 (k + j) x hj
  simp only [Option.some.injEq, Addr.mk.injEq, and_true] at ha
  obtain ⟨rfl, rfl⟩ := ha
  exact ⟨g, o + k, u, rfl, by rw [Nat.add_assoc]; exact hc, hr⟩
theorem sl_nil {w : World} (ao : Option Addr) (cap : Nat) (h : cap ≤ maxLen) (h0 : ao = none → cap = 0) : SlOf IsStr w ao cap [] := ⟨by simp, h, h0, fun k x hk => by simp at hk⟩

theorem OwnStrs.slOf2 {w : World} {B : Nat} {v : Value} {l : List (List UInt8)} (h : OwnStrs w B v l) : ∃ ao cap, v = .slice ao l.length cap ∧ SlOf IsStr w ao cap l ∧ (ao = none ∨ ∃ g, ao = some ⟨g, 0, none⟩) := by
  obtain ⟨ao, cap, hv, hs⟩ := h.slOf
  refine ⟨ao, cap, hv, hs, ?_⟩
  rcases h.2 with ⟨rfl, _⟩ | ⟨g, cap', cur, rfl, _⟩
  · simp only [Value.slice.injEq] at hv
    exact .inl hv.1.symm
  · simp only [Value.slice.injEq] at hv
    exact .inr ⟨g, hv.1.symm⟩

set_option maxRecDepth 100000 in
set_option maxHeartbeats 2000000 in
theorem framesGrow_any (t m : List UInt8) (w : World) (ht : t.length ≤ 140737488355328) (hm : m.length ≤ 140737488355328) (he : EnvF w) :
    Calls Tryd.prog 5 #[.string ⟨t.toArray⟩, .string ⟨m.toArray⟩] w fun e w' => e = .returned (.bool true) ∧ Below w.heap.size w w' := by
  have HE := Lib.hid he; clear he
  by_cases hs : 8000 < t.length ∨ 8000 < m.length
  · by_cases hs1 : 8000 < t.length
    · clear hs
      go_enter Tryd.func5, Tryd.ntmps5
      go_wp2_with fail
      refine (stands_any _ HE.out).mono ?_
      rintro e w1 ⟨rfl, hb⟩
      go_wp2_with fail
      go_returns
      exact ⟨rfl, hb⟩
    · have hs2 := hs.resolve_left hs1
      clear hs
      go_enter Tryd.func5, Tryd.ntmps5
      go_wp2_with fail
      refine (stands_any _ HE.out).mono ?_
      rintro e w1 ⟨rfl, hb⟩
      go_wp2_with fail
      go_returns
      exact ⟨rfl, hb⟩
  have hs1 : ¬ 8000 < t.length := fun h => hs (.inl h)
  have hs2 : ¬ 8000 < m.length := fun h => hs (.inr h)
  clear hs
  have HW1 := Lib.hid (fun w he => whole_any t w (by omega) he)
  have HW2 := Lib.hid (fun w he => whole_any m w (by omega) he)
  have HW3 := Lib.hid (fun w he => whole_any (t ++ m) w (by rw [List.length_append]; omega) he)
  obtain ⟨⟨x, hx⟩, hle, hgr⟩ := grow_way (t := t) (m := m) (by rw [List.length_append]; omega)
  obtain ⟨i, hi, hi2, -⟩ := whole_way (s := t) (by omega)
  obtain ⟨k, hk, hk2, -⟩ := whole_way (s := m) (by omega)
  obtain ⟨n, hn, hn2, -⟩ := whole_way (s := t ++ m) (by rw [List.length_append]; omega)
  unfold WholePost at HW1 HW2 HW3
  rw [hi] at HW1 hle hgr
  rw [hk] at HW2 hgr
  rw [hn] at HW3 hle hgr
  rw [hx] at hgr
  rw [List.length_append] at hn2
  have HX := Lib.hid hx
  generalize (wholeS (t ++ m)).1 = c at *
  generalize (wholeS t).1 = a at *
  generalize (wholeS m).1 = b at *
  have hcl := congrArg List.length HX.out
  rw [List.length_append] at hcl
  have hacl : a.length ≤ c.length := by omega
  have HTK := Lib.hid (show c.take a.length = a by rw [HX.out, List.take_left])
  have HDR := Lib.hid (show c.drop a.length = x by rw [HX.out, List.drop_left])
  have HGR := Lib.hid hgr
  have hmk := mk_append t m
  have hc0 : ¬ 9223372036854775807 < t.length + m.length := by omega
  have hHm := Lib.hid hmk
  clear hx hgr hcl hi hk hn hmk
  go_enter Tryd.func5, Tryd.ntmps5
  go_wp2_with fail
  refine (HW1.out _ HE.out).mono ?_
  rintro e w1 ⟨v1, rfl, ho1, hb⟩
  obtain ⟨ao1, cap1, rfl, hs1'⟩ := ho1.slOf
  have HS1 := Lib.hid hs1'
  have HB1 := Lib.hid hb; clear hb ho1 hs1'
  go_wp2_with fail
  refine (HW2.out _ (HE.out.later HB1.out)).mono ?_
  rintro e w2 ⟨v2, rfl, ho2, hb⟩
  obtain ⟨ao2, cap2, rfl, hs2'⟩ := ho2.slOf
  have HS1 := Lib.hid (HS1.out.later lasts_str hb)
  have HS2 := Lib.hid hs2'
  have HB2 := Lib.hid (step2 HB1.out hb); clear hb ho2 hs2'
  go_wp2_with fail
  rw [hHm.out]
  refine (HW3.out _ (HE.out.later HB2.out)).mono ?_
  rintro e w3 ⟨v3, rfl, ho3, hb⟩
  obtain ⟨ao3, cap3, rfl, hs3', hao3⟩ := ho3.slOf2
  have HAO := Lib.hid hao3; clear hao3
  have HS1 := Lib.hid (HS1.out.later lasts_str hb)
  have HS2 := Lib.hid (HS2.out.later lasts_str hb)
  have HS3 := Lib.hid hs3'
  have HB3 := Lib.hid (step2 HB2.out hb); clear hb ho3 hs3'
  have hlm1 : a.length ≤ 9223372036854775807 := Nat.le_trans HS1.out.1 HS1.out.2.1
  have hlm3 : c.length ≤ cap3 := HS3.out.1
  have hcm3 : cap3 ≤ 9223372036854775807 := HS3.out.2.1
  have hac : a.length ≤ cap3 := by omega
  have hnil : ¬ (n : Int) < (i : Int) := by omega
  have hacli : ¬ (c.length : Int) < (a.length : Int) := by omega
  have HSM := Lib.hid (same_any a a ao3 ao1 cap3 cap1 w3 (by have := sl_take HS3.out a.length; rw [HTK.out] at this; exact this) HS1.out)
  go_wp2_with fail
  refine HSM.out.mono ?_
  rintro e w4 ⟨rfl, n4, rfl⟩
  rw [sameS_self]
  have HB4 := Lib.hid (below_drewN HB3.out n4)
  have hb34 := below_drewN (Below.refl w3.heap.size w3) n4
  have HS2 := Lib.hid (HS2.out.later lasts_str hb34)
  have HS3 := Lib.hid (HS3.out.later lasts_str hb34)
  clear hb34
  generalize w3.drewN n4 = w4 at *
  by_cases hit : i = t.length
  · obtain ⟨hcb, hnk⟩ := HGR.out (by rw [hit])
    have hxb : x = b := List.append_cancel_left hcb
    subst hxb
    subst hit
    have hq : ((n : Int) != (t.length : Int) + (k : Int)) = false := by rw [hnk]; simp
    have hik : (t.length : Int) + (k : Int) ≤ 20000 := by omega
    have hcx : c.length = a.length + x.length := by rw [HX.out, List.length_append]
    have HCX := Lib.hid hcx
    clear hcb hnk hcx
    rcases ao3 with _ | ad
    · have hc0 : cap3 = 0 := HS3.out.2.2.1 rfl
      subst hc0
      have ha0 : a.length = 0 := by omega
      have hc00 : c.length = 0 := by omega
      have hx0 : x.length = 0 := by have := HCX.out; omega
      have hxn : x = [] := List.eq_nil_of_length_eq_zero hx0
      have HA0 := Lib.hid ha0
      have HSM2 := Lib.hid (same_any x x none ao2 0 cap2 w4 (by rw [hxn]; exact sl_nil none 0 (by unfold maxLen; omega) (fun _ => rfl)) HS2.out)
      rw [hx0] at HSM2
      have HX0 := Lib.hid hx0
      rw [hx0, ha0, hc00]
      clear ha0 hc00 hxn hx0
      go_wp2_with fail
      refine HSM2.out.mono ?_
      rintro e w5 ⟨rfl, n5, rfl⟩
      rw [sameS_self]
      have HB5 := Lib.hid (below_drewN HB4.out n5)
      go_wp2_with fail
      refine (stands_any _ (HE.out.later HB5.out)).mono ?_
      rintro e w6 ⟨rfl, hb⟩
      have HB6 := Lib.hid (step2 HB5.out hb); clear hb
      go_wp2_with fail
      go_returns
      exact ⟨rfl, HB6.out⟩
    · obtain ⟨g, rfl⟩ : ∃ g, ad = ⟨g, 0, none⟩ := by
        rcases HAO.out with h | ⟨g, h⟩
        · cases h
        · exact ⟨g, Option.some.inj h⟩
      by_cases hac3 : a.length = cap3
      · have hcc : c.length = cap3 := by omega
        have hx0 : x.length = 0 := by have := HCX.out; omega
        have hxn : x = [] := List.eq_nil_of_length_eq_zero hx0
        have hsub1 : c.length - a.length = 0 := by omega
        have hsub2 : cap3 - a.length = 0 := by omega
        have HSM2 := Lib.hid (same_any x x (some ⟨g, 0, none⟩) ao2 0 cap2 w4 (by rw [hxn]; exact sl_nil _ 0 (by unfold maxLen; omega) (fun h => by cases h)) HS2.out)
        rw [hx0] at HSM2
        have HX0 := Lib.hid hx0
        rw [hx0]
        clear hxn hx0 hcc
        have HCXX := Lib.hid HCX; clear HCX
        go_wp2_with fail
        refine HSM2.out.mono ?_
        rintro e w5 ⟨rfl, n5, rfl⟩
        rw [sameS_self]
        have HB5 := Lib.hid (below_drewN HB4.out n5)
        go_wp2_with fail
        refine (stands_any _ (HE.out.later HB5.out)).mono ?_
        rintro e w6 ⟨rfl, hb⟩
        have HB6 := Lib.hid (step2 HB5.out hb); clear hb
        go_wp2_with fail
        go_returns
        exact ⟨rfl, HB6.out⟩
      · have hd := sl_drop HS3.out a.length
        rw [HDR.out] at hd
        rw [Nat.zero_add] at hd
        have HSM2 := Lib.hid (same_any x x _ ao2 _ cap2 w4 hd HS2.out)
        clear hd
        have hcal : c.length - a.length = x.length := by have := HCX.out; omega
        go_wp2_with fail
        refine HSM2.out.mono ?_
        rintro e w5 ⟨rfl, n5, rfl⟩
        rw [sameS_self]
        have HB5 := Lib.hid (below_drewN HB4.out n5)
        go_wp2_with fail
        refine (stands_any _ (HE.out.later HB5.out)).mono ?_
        rintro e w6 ⟨rfl, hb⟩
        have HB6 := Lib.hid (step2 HB5.out hb); clear hb
        go_wp2_with fail
        go_returns
        exact ⟨rfl, HB6.out⟩
  · have hqe : ((i : Int) == (t.length : Int)) = false := by rw [beq_eq_false_iff_ne]; omega
    go_wp2_with fail
    refine (stands_any _ (HE.out.later HB4.out)).mono ?_
    rintro e w5 ⟨rfl, hb⟩
    have HB5 := Lib.hid (step2 HB4.out hb); clear hb
    go_wp2_with fail
    go_returns
    exact ⟨rfl, HB5.out⟩
end Go.Proofs.YtagemjjhiddpgaaDoor
