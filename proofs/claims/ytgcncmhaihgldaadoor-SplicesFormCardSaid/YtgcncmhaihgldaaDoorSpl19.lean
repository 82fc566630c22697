/- The walk of the law SplicesForm. -/
import Derived.Test.YtgcncmhaihgldaaDoorSpl18
import Derived.Test.YtgcncmhaihgldaaDoorSpl15
namespace Go.Proofs.YtgcncmhaihgldaaDoor
open Go Go.Proofs Go.RowKit Go.Ink

theorem totalF : ∀ l : List (List UInt8), totalT l = total l
  | [] => rfl
  | t :: l => by unfold totalT total; rw [totalF l]
theorem noSpl_self (a1 a2 : Option Addr) (c1 c2 : Nat) (w : World) (ha : SlOf IsStr w a1 c1 ([] : List Line)) (hb : SlOf IsStr w a2 c2 ([] : List Line)) :
    Calls Tryd.prog 17 #[.agg #[.int .i64 0, .int .i64 0, .slice a1 0 c1], .agg #[.int .i64 0, .int .i64 0, .slice a2 0 c2]] w fun e w' => e = .returned (.bool true) ∧ Below w.heap.size w w' := by
  have h := splSame_self noSpl a1 a2 c1 c2 w ha hb
  exact h
/-- What Form's second half needs of the bytes. -/
theorem dec_b (b : List UInt8) (hb : b.length ≤ 3000) : decS b = (noSpl, 40) ∨ ∃ t, decS b = (t, 0) ∧ t.fits ∧ checkS t = 0 ∧ b = encB t := by
  unfold decS
  cases h : decO b with
  | none => exact .inl rfl
  | some t => exact .inr ⟨t, rfl, (decO_iff b t (by omega)).1 h⟩
theorem extract_k (X : List UInt8) (k : Nat) : (⟨X.toArray⟩ : ByteArray).extract 0 k = ⟨(X.take k).toArray⟩ := by
  have := extract_mk X 0 k
  simpa using this

set_option maxRecDepth 100000 in
set_option maxHeartbeats 4000000 in
theorem splicesForm_any (s : Spl) (ai : Option Addr) (ci : Nat) (b : List UInt8) (cut : Int) (w : World) (hc0 : 0 ≤ cut) (hc1 : cut ≤ 65535) (hbm : b.length ≤ maxLen) (hi : SlOf IsStr w ai ci s.ins) (hf : s.fits) (he : Env w) :
    Calls Tryd.prog 8 #[splV s ai ci, .string ⟨b.toArray⟩, .int .u16 cut] w fun e w' => e = .returned (.bool true) ∧ Below w.heap.size w w' := by
  have hbm : b.length ≤ 9223372036854775807 := hbm
  have HE := Lib.hid he
  have HF := Lib.hid hf
  have HB0 := Lib.hid (below_alloc w (.cells #[.int .i64 s.pos, .int .i64 s.del, .slice ai s.ins.length ci] 24 (0, 0)))
  have HX0 := Lib.hid (heap_alloc_at w (.cells #[.int .i64 s.pos, .int .i64 s.del, .slice ai s.ins.length ci] 24 (0, 0)))
  have HI0 := Lib.hid (hi.later lasts_str HB0.out)
  have HE0 := Lib.hid (he.later HB0.out)
  clear hi he hf
  obtain ⟨c, rfl⟩ := Int.eq_ofNat_of_zero_le hc0
  simp only [splV]
  cases hg : greatS s.ins 100 3000 with
  | true =>
    go_enter Tryd.func8, Tryd.ntmps8
    go_wp2_with fail
    refine (great_any s.ins _ _ 100 3000 _ HI0.out (by omega) (by omega)).mono ?_
    rintro e w1 ⟨rfl, rfl⟩
    rw [hg]
    go_wp2_with fail
    go_returns
    exact ⟨rfl, HB0.out⟩
  | false =>
    by_cases hbl : 3000 < b.length
    · have hbi : (3000 : Int) < (b.length : Int) := by omega
      go_enter Tryd.func8, Tryd.ntmps8
      go_wp2_with fail
      refine (great_any s.ins _ _ 100 3000 _ HI0.out (by omega) (by omega)).mono ?_
      rintro e w1 ⟨rfl, rfl⟩
      rw [hg]
      go_wp2_with fail
      go_returns
      exact ⟨rfl, HB0.out⟩
    · have hbi : decide ((3000 : Int) < (b.length : Int)) = false := by simp; omega
      have hb3 : b.length ≤ 3000 := by omega
      clear hbl
      have hsm := greatS_false hg (by omega) (by omega)
      have HEL := Lib.hid (show (encB s).length ≤ 10000 by
        have := encB_len (s := s) HF.out (by rw [totalF]; omega) (by omega)
        rw [totalF] at this; omega)
      have HEN := Lib.hid (fun w hs ht => encode_any s ai ci w hs HF.out (by have := HEL.out; omega) ht)
      have HCK := Lib.hid (fun w hs => splCheck_any s ai ci w hs)
      have HDB := Lib.hid (fun w he => decode_any b w (by omega) he)
      have HIL := Lib.hid (show s.ins.length ≤ 100 by omega)
      clear hsm
      simp only [splV] at HEN HCK
      by_cases hc : checkS s = 0
      · have hes : encS s = (encB s, 0) := by unfold encS; rw [if_neg (by rw [hc]; simp)]
        rw [hes] at HEN
        have hdx : decS (encB s) = (s, 0) := by unfold decS; rw [dec_enc HF.out hc (by have := HEL.out; omega)]
        have HDX := Lib.hid (fun w he => decode_any (encB s) w (by have := HEL.out; omega) he)
        rw [hdx] at HDX
        have hne := encB_ne hc
        have hxl : 0 < (encB s).length := List.length_pos_iff.2 hne
        have hxe : ((encB s) == ([] : List UInt8)) = false := by simpa using hne
        obtain ⟨k, hk⟩ : ∃ k, k = c % (encB s).length := ⟨_, rfl⟩
        have hkl : k < (encB s).length := by rw [hk]; exact Nat.mod_lt _ hxl
        have hmod : (c : Int) % ((encB s).length : Int) = (k : Int) := by rw [hk]; push_cast; rfl
        have hdc : decS ((encB s).take k) = (noSpl, 40) := by unfold decS; rw [dec_cut HF.out hc (by have := HEL.out; omega) k hkl]
        have HDC := Lib.hid (fun w he => decode_any ((encB s).take k) w (by rw [List.length_take]; have := HEL.out; omega) he)
        rw [hdc] at HDC
        obtain ⟨Z, hZ⟩ : ∃ Z, Z = decS (encB s ++ b) := ⟨_, rfl⟩
        have hdm := dec_more HF.out hc b (by rw [List.length_append]; have := HEL.out; omega)
        have HDM := Lib.hid (fun w he => decode_any (encB s ++ b) w (by rw [List.length_append]; have := HEL.out; omega) he)
        rw [← hZ] at hdm HDM
        obtain ⟨C, hC1, hC2⟩ : ∃ C : Bool, (Z.2 == 0) = C ∧ (b == ([] : List UInt8)) = C := ⟨(Z.2 == 0), rfl, by
          rw [Bool.eq_iff_iff]; simp only [beq_iff_eq]; exact hdm.symm⟩
        have hxi : ¬ (encB s).length = 0 := by omega
        have hex := extract_k (encB s) k
        have hap : ¬ 9223372036854775807 < (encB s).length + b.length := by have := HEL.out; omega
        clear hes hc hdx hne hk hdc hZ hdm HCK
        generalize encB s = X at *
        go_enter Tryd.func8, Tryd.ntmps8
        go_wp2_with fail
        refine (great_any s.ins _ _ 100 3000 _ HI0.out (by omega) (by omega)).mono ?_
        rintro e w1 ⟨rfl, rfl⟩
        rw [hg]
        go_wp2_with fail
        refine (HEN.out _ HI0.out HE0.out.h10).mono ?_
        rintro e w2 ⟨rfl, hb2⟩
        have HB2 := Lib.hid (HB0.out.trans (hb2.mono HB0.out.size))
        have HX2 := Lib.hid ((hb2.block _ (lt_of_heap HX0.out)).trans HX0.out)
        have HI2 := Lib.hid (HI0.out.later lasts_str hb2)
        have HE2 := Lib.hid (HE.out.later HB2.out)
        clear hb2 HEN HB0 HX0 HI0 HE0
        go_wp2_with fail
        refine (HDX.out _ HE2.out).mono ?_
        rintro e w3 ⟨v3, rfl, ho3, hb3'⟩
        simp only at ho3 ⊢
        obtain ⟨a3, k3, hv3⟩ := ownsRow_shape ho3
        subst hv3
        have HA4 := Lib.hid (below_alloc w3 (.cells #[.int .i64 s.pos, .int .i64 s.del, .slice a3 s.ins.length k3] 24 (0, 0)))
        have HS4 := Lib.hid ((own_slOfV rfl ho3).later lasts_str HA4.out)
        have HB4 := Lib.hid (HB2.out.trans ((hb3'.trans (HA4.out.mono hb3'.size)).mono HB2.out.size))
        have HI4 := Lib.hid ((HI2.out.later lasts_str hb3').later lasts_str HA4.out)
        have HX3 := Lib.hid ((hb3'.block _ (lt_of_heap HX2.out)).trans HX2.out)
        have hz : w.heap.size < w3.heap.size := lt_of_heap HX3.out
        obtain ⟨c0, c1, c2⟩ := box_spl HX3.out
        clear ho3 hb3' HB2 HX2 HI2 HE2 HDX
        go_wp2_with fail
        refine (splSame_self s a3 ai k3 ci _ HS4.out HI4.out).mono ?_
        rintro e w5 ⟨rfl, hb5⟩
        have HB5 := Lib.hid (HB4.out.trans (hb5.mono HB4.out.size))
        have HE5 := Lib.hid (HE.out.later HB5.out)
        clear hb5 HB4 HI4 HS4 HX3 hz c0 c1 c2 HA4
        go_wp2_with fail
        refine (HDC.out _ HE5.out).mono ?_
        rintro e w6 ⟨v6, rfl, ho6, hb6⟩
        simp only [noSpl] at ho6 ⊢
        obtain ⟨a6, k6, hv6⟩ := ownsRow_shape ho6
        subst hv6
        have HA7 := Lib.hid (below_alloc w6 (.cells #[.int .i64 0, .int .i64 0, .slice a6 0 k6] 24 (0, 0)))
        have HB7 := Lib.hid (HB5.out.trans ((hb6.trans (HA7.out.mono hb6.size)).mono HB5.out.size))
        have HE7 := Lib.hid (HE.out.later HB7.out)
        clear ho6 hb6 HDC HB5 HE5
        go_wp2_with fail
        rw [mk_append]
        refine (HDM.out _ HE7.out).mono ?_
        rintro e w8 ⟨v8, rfl, ho8, hb8⟩
        obtain ⟨a8, k8, hv8⟩ := ownsRow_shape ho8
        subst hv8
        have HA9 := Lib.hid (below_alloc w8 (.cells #[.int .i64 Z.1.pos, .int .i64 Z.1.del, .slice a8 Z.1.ins.length k8] 24 (0, 0)))
        have HB9 := Lib.hid (HB7.out.trans ((hb8.trans (HA9.out.mono hb8.size)).mono HB7.out.size))
        have HE9 := Lib.hid (HE.out.later HB9.out)
        clear ho8 hb8 HDM HB7 HE7 HA7
        clear hxl hxe hkl hmod hxi hex hap
        rcases dec_b b hb3 with hdn | ⟨t, hdt, tf, tc, te⟩
        · have HD := HDB
          rw [hdn] at HD
          clear hdn HDB
          go_wp2_with fail
          refine (HD.out _ HE9.out).mono ?_
          rintro e x1 ⟨v1, rfl, ho1, hb1⟩
          simp only [noSpl] at ho1 ⊢
          obtain ⟨a1, k1, hv1⟩ := ownsRow_shape ho1
          subst hv1
          have HS1 := Lib.hid (own_slOfV (l := ([] : List Line)) rfl ho1)
          have HB1 := Lib.hid (HB9.out.trans (hb1.mono HB9.out.size))
          clear ho1 hb1
          have HA2 := Lib.hid (below_alloc x1 (.cells #[.int .i64 0, .int .i64 0, .slice a1 0 k1] 24 (0, 0)))
          go_wp2_with fail
          refine (noSpl_self _ _ _ _ _ (HS1.out.later lasts_str HA2.out) (slOf_none _)).mono ?_
          rintro e x3 ⟨rfl, hb3⟩
          have HB3 := Lib.hid (HB1.out.trans ((HA2.out.trans (hb3.mono HA2.out.size)).mono HB1.out.size))
          clear hb3
          go_wp2_with fail
          refine (does_any _ (HE.out.later HB3.out).h10).mono ?_
          rintro e x4 ⟨rfl, hb⟩
          have HB7 := Lib.hid (HB3.out.trans (hb.mono HB3.out.size)); clear hb
          go_wp2_with fail
          go_returns
          exact ⟨rfl, HB7.out⟩
        · have HD := HDB
          rw [hdt] at HD
          have hen : encS t = (b, 0) := by unfold encS; rw [if_neg (by rw [tc]; simp), te]
          have HEB := Lib.hid (fun ao cap w hs ht => encode_any t ao cap w hs tf (by rw [← te]; omega) ht)
          rw [hen] at HEB
          simp only [splV] at HEB
          clear hdt HDB tf tc te hen
          go_wp2_with fail
          refine (HD.out _ HE9.out).mono ?_
          rintro e x1 ⟨v1, rfl, ho1, hb1⟩
          simp only at ho1 ⊢
          obtain ⟨a1, k1, hv1⟩ := ownsRow_shape ho1
          subst hv1
          have HS1 := Lib.hid (own_slOfV rfl ho1)
          have HB1 := Lib.hid (HB9.out.trans (hb1.mono HB9.out.size))
          clear ho1 hb1
          have HA2 := Lib.hid (below_alloc x1 (.cells #[.int .i64 t.pos, .int .i64 t.del, .slice a1 t.ins.length k1] 24 (0, 0)))
          have HB2 := Lib.hid (HB1.out.trans (HA2.out.mono HB1.out.size))
          go_wp2_with fail
          refine (HEB.out _ _ _ (HS1.out.later lasts_str HA2.out) (HE.out.later HB2.out).h10).mono ?_
          rintro e x3 ⟨rfl, hb3⟩
          have HB3 := Lib.hid (HB2.out.trans (hb3.mono HB2.out.size))
          clear hb3
          go_wp2_with fail
          refine (does_any _ (HE.out.later HB3.out).h10).mono ?_
          rintro e x4 ⟨rfl, hb⟩
          have HB7 := Lib.hid (HB3.out.trans (hb.mono HB3.out.size)); clear hb
          go_wp2_with fail
          go_returns
          exact ⟨rfl, HB7.out⟩
      · have hes : encS s = ([], checkS s) := by unfold encS; rw [if_pos hc]
        have hq : (checkS s == 0) = false := by simpa using hc
        rw [hes] at HEN
        clear hes hc
        generalize checkS s = E at *
        go_enter Tryd.func8, Tryd.ntmps8
        go_wp2_with fail
        refine (great_any s.ins _ _ 100 3000 _ HI0.out (by omega) (by omega)).mono ?_
        rintro e w1 ⟨rfl, rfl⟩
        rw [hg]
        go_wp2_with fail
        refine (HEN.out _ HI0.out HE0.out.h10).mono ?_
        rintro e w2 ⟨rfl, hb2⟩
        have HB2 := Lib.hid (HB0.out.trans (hb2.mono HB0.out.size))
        have HX2 := Lib.hid ((hb2.block _ (lt_of_heap HX0.out)).trans HX0.out)
        have HI2 := Lib.hid (HI0.out.later lasts_str hb2)
        obtain ⟨c0, c1, c2⟩ := box_spl HX2.out
        clear hb2 HEN
        go_wp2_with fail
        refine (HCK.out _ HI2.out).mono ?_
        rintro e w3 ⟨rfl, hb3'⟩
        have HB3 := Lib.hid (HB2.out.trans (hb3'.mono HB2.out.size))
        have HE3 := Lib.hid (HE.out.later HB3.out)
        clear hb3' c0 c1 c2 HCK
        rcases dec_b b hb3 with hdn | ⟨t, hdt, tf, tc, te⟩
        · have HD := HDB
          rw [hdn] at HD
          clear hdn HDB
          go_wp2_with fail
          refine (HD.out _ HE3.out).mono ?_
          rintro e x1 ⟨v1, rfl, ho1, hb1⟩
          simp only [noSpl] at ho1 ⊢
          obtain ⟨a1, k1, hv1⟩ := ownsRow_shape ho1
          subst hv1
          have HS1 := Lib.hid (own_slOfV (l := ([] : List Line)) rfl ho1)
          have HB1 := Lib.hid (HB3.out.trans (hb1.mono HB3.out.size))
          clear ho1 hb1
          have HA2 := Lib.hid (below_alloc x1 (.cells #[.int .i64 0, .int .i64 0, .slice a1 0 k1] 24 (0, 0)))
          go_wp2_with fail
          refine (noSpl_self _ _ _ _ _ (HS1.out.later lasts_str HA2.out) (slOf_none _)).mono ?_
          rintro e x3 ⟨rfl, hb3⟩
          have HB3 := Lib.hid (HB1.out.trans ((HA2.out.trans (hb3.mono HA2.out.size)).mono HB1.out.size))
          clear hb3
          go_wp2_with fail
          refine (does_any _ (HE.out.later HB3.out).h10).mono ?_
          rintro e x4 ⟨rfl, hb⟩
          have HB7 := Lib.hid (HB3.out.trans (hb.mono HB3.out.size)); clear hb
          go_wp2_with fail
          go_returns
          exact ⟨rfl, HB7.out⟩
        · have HD := HDB
          rw [hdt] at HD
          have hen : encS t = (b, 0) := by unfold encS; rw [if_neg (by rw [tc]; simp), te]
          have HEB := Lib.hid (fun ao cap w hs ht => encode_any t ao cap w hs tf (by rw [← te]; omega) ht)
          rw [hen] at HEB
          simp only [splV] at HEB
          clear hdt HDB tf tc te hen
          go_wp2_with fail
          refine (HD.out _ HE3.out).mono ?_
          rintro e x1 ⟨v1, rfl, ho1, hb1⟩
          simp only at ho1 ⊢
          obtain ⟨a1, k1, hv1⟩ := ownsRow_shape ho1
          subst hv1
          have HS1 := Lib.hid (own_slOfV rfl ho1)
          have HB1 := Lib.hid (HB3.out.trans (hb1.mono HB3.out.size))
          clear ho1 hb1
          have HA2 := Lib.hid (below_alloc x1 (.cells #[.int .i64 t.pos, .int .i64 t.del, .slice a1 t.ins.length k1] 24 (0, 0)))
          have HB2 := Lib.hid (HB1.out.trans (HA2.out.mono HB1.out.size))
          go_wp2_with fail
          refine (HEB.out _ _ _ (HS1.out.later lasts_str HA2.out) (HE.out.later HB2.out).h10).mono ?_
          rintro e x3 ⟨rfl, hb3⟩
          have HB3 := Lib.hid (HB2.out.trans (hb3.mono HB2.out.size))
          clear hb3
          go_wp2_with fail
          refine (does_any _ (HE.out.later HB3.out).h10).mono ?_
          rintro e x4 ⟨rfl, hb⟩
          have HB7 := Lib.hid (HB3.out.trans (hb.mono HB3.out.size)); clear hb
          go_wp2_with fail
          go_returns
          exact ⟨rfl, HB7.out⟩
end Go.Proofs.YtgcncmhaihgldaaDoor
