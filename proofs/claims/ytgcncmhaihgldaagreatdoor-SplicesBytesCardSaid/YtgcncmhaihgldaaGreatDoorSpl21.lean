/- The walk of the law SplicesBytes. -/
import Derived.Test.YtgcncmhaihgldaaGreatDoorSpl20
namespace Go.Proofs.YtgcncmhaihgldaaGreatDoor
open Go Go.Proofs Go.RowKit Go.Ink

theorem totalB : ∀ l : List (List UInt8), totalT l = total l
  | [] => rfl
  | t :: l => by unfold totalT total; rw [totalB l]
theorem total_memB : ∀ {l : List Line} {t : Line}, t ∈ l → t.length ≤ total l
  | a :: l, t, h => by
    rcases List.mem_cons.1 h with rfl | h
    · simp [total]
    · have := total_memB h; simp only [total]; omega
theorem muchB (s : Spl) (h : muchS [s] 1 = false) : greatS s.ins 2100 20000 = false := by
  unfold muchS muchL at h
  split at h
  · cases h
  · rename_i hg; simpa using hg

set_option maxRecDepth 100000 in
set_option maxHeartbeats 1000000 in
theorem splicesBytes_any (s : Spl) (ai : Option Addr) (ci : Nat) (b : List UInt8) (w : World) (hbm : b.length ≤ maxLen) (hi : SlOf IsStr w ai ci s.ins) (hf : s.fits) (he : Env w) :
    Calls Tryz.prog 3 #[splV s ai ci, .string ⟨b.toArray⟩] w fun e w' => e = .returned (.bool true) ∧ Below w.heap.size w w' := by
  have hbm : b.length ≤ 9223372036854775807 := hbm
  have HE := Lib.hid he
  have HF := Lib.hid hf
  have HB0 := Lib.hid (below_alloc w (.cells #[.int .i64 s.pos, .int .i64 s.del, .slice ai s.ins.length ci] 24 (0, 0)))
  have HX0 := Lib.hid (heap_alloc_at w (.cells #[.int .i64 s.pos, .int .i64 s.del, .slice ai s.ins.length ci] 24 (0, 0)))
  have HI0 := Lib.hid (hi.later lasts_str HB0.out)
  have HA1 := Lib.hid (below_alloc (w.alloc (.cells #[.int .i64 s.pos, .int .i64 s.del, .slice ai s.ins.length ci] 24 (0, 0))) (.cells #[.int .i64 s.pos, .int .i64 s.del, .slice ai s.ins.length ci] 24 (0, 0)))
  have hone := one_spl s ai ci HI0.out 24
  rw [show (w.alloc (.cells #[.int .i64 s.pos, .int .i64 s.del, .slice ai s.ins.length ci] 24 (0, 0))).heap.size = w.heap.size + 1 by simp] at hone
  have HMU := Lib.hid (much_any [s] _ _ 1 _ hone)
  simp only [List.length_cons, List.length_nil, Nat.zero_add] at HMU
  have HB1 := Lib.hid (HB0.out.trans (HA1.out.mono HB0.out.size))
  have HI1 := Lib.hid (HI0.out.later lasts_str HA1.out)
  have HX1 := Lib.hid ((HA1.out.block _ (lt_of_heap HX0.out)).trans HX0.out)
  clear hi he hf hone HI0 HX0 HA1 HB0
  simp only [splV]
  cases hm : muchS [s] 1 with
  | true =>
    rw [hm] at HMU
    go_enter Tryz.func3, Tryz.ntmps3
    go_wp2_with fail
    refine HMU.out.mono ?_
    rintro e w1 ⟨rfl, rfl⟩
    go_wp2_with fail
    go_returns
    exact ⟨rfl, HB1.out⟩
  | false =>
    rw [hm] at HMU
    by_cases hbl : 5000 < b.length
    · have hbi : (5000 : Int) < (b.length : Int) := by omega
      go_enter Tryz.func3, Tryz.ntmps3
      go_wp2_with fail
      refine HMU.out.mono ?_
      rintro e w1 ⟨rfl, rfl⟩
      go_wp2_with fail
      go_returns
      exact ⟨rfl, HB1.out⟩
    · have hbi : decide ((5000 : Int) < (b.length : Int)) = false := by simp; omega
      have hsm := greatS_false (muchB s hm) (by omega) (by omega)
      have HSZ := Lib.hid (show (encB s).length ≤ 140737488355328 by
        have := encB_len (s := s) HF.out (by rw [totalB]; omega) (by omega)
        rw [totalB] at this; omega)
      have HSH := Lib.hid (show ∀ t ∈ s.ins, t.length ≤ 9223372036854775807 from fun t ht => by have := total_memB ht; omega)
      have HEN := Lib.hid (fun w hs ht => encode_any s ai ci w hs HF.out HSZ.out ht)
      have HER := Lib.hid (fun w hs => refEncode_any s ai ci w hs HF.out HSZ.out HSH.out)
      have HD1 := Lib.hid (fun w he => decode_any b w (by omega) he)
      have HD2 := Lib.hid (fun w => refDecode_any b w (by omega))
      simp only [splV] at HEN HER
      clear hbl hsm
      go_enter Tryz.func3, Tryz.ntmps3
      go_wp2_with fail
      refine HMU.out.mono ?_
      rintro e w1 ⟨rfl, rfl⟩
      clear HMU
      generalize ((w.alloc (.cells #[.int .i64 s.pos, .int .i64 s.del, .slice ai s.ins.length ci] 24 (0, 0))).alloc (.cells #[.int .i64 s.pos, .int .i64 s.del, .slice ai s.ins.length ci] 24 (0, 0))) = w1 at *
      obtain ⟨c0, c1, c2⟩ := box_spl HX1.out
      have HE1 := Lib.hid (HE.out.later HB1.out)
      go_wp2_with fail
      refine (HEN.out _ HI1.out HE1.out.h10).mono ?_
      rintro e w2 ⟨rfl, hb2⟩
      have HB2 := Lib.hid (HB1.out.trans (hb2.mono HB1.out.size))
      have HX2 := Lib.hid ((hb2.block _ (lt_of_heap HX1.out)).trans HX1.out)
      have HI2 := Lib.hid (HI1.out.later lasts_str hb2)
      clear hb2 c0 c1 c2 HEN
      obtain ⟨c0, c1, c2⟩ := box_spl HX2.out
      go_wp2_with fail
      refine (HER.out _ HI2.out).mono ?_
      rintro e w3 ⟨rfl, hb3⟩
      have HB3 := Lib.hid (HB2.out.trans (hb3.mono HB2.out.size))
      have HE3 := Lib.hid (HE.out.later HB3.out)
      clear hb3 c0 c1 c2 HER HX2 HI2 HB2 HX1 HI1 HE1 HB1
      generalize (encS s).1 = X at *
      generalize (encS s).2 = E at *
      go_wp2_with fail
      refine (HD1.out _ HE3.out).mono ?_
      rintro e w4 ⟨v4, rfl, ho4, hb4⟩
      obtain ⟨a4, k4, hv4⟩ := ownsRow_shape ho4
      subst hv4
      have HA5 := Lib.hid (below_alloc w4 (.cells #[.int .i64 (decS b).1.pos, .int .i64 (decS b).1.del, .slice a4 (decS b).1.ins.length k4] 24 (0, 0)))
      have HX5 := Lib.hid (heap_alloc_at w4 (.cells #[.int .i64 (decS b).1.pos, .int .i64 (decS b).1.del, .slice a4 (decS b).1.ins.length k4] 24 (0, 0)))
      have HS5 := Lib.hid ((own_slOfV rfl ho4).later lasts_str HA5.out)
      have HB5 := Lib.hid (HB3.out.trans ((hb4.trans (HA5.out.mono hb4.size)).mono HB3.out.size))
      clear ho4 hb4 HB3 HE3 HD1
      go_wp2_with fail
      clear HA5
      generalize w4.heap.size = b9 at *
      generalize w4.alloc (.cells #[.int .i64 (decS b).1.pos, .int .i64 (decS b).1.del, .slice a4 (decS b).1.ins.length k4] 24 (0, 0)) = w5 at *
      refine (HD2.out _).mono ?_
      rintro e w6 ⟨v6, rfl, ho6, hb6⟩
      obtain ⟨a6, k6, hv6⟩ := ownsRow_shape ho6
      subst hv6
      have HA7 := Lib.hid (below_alloc w6 (.cells #[.int .i64 (decS b).1.pos, .int .i64 (decS b).1.del, .slice a6 (decS b).1.ins.length k6] 24 (0, 0)))
      have HS7 := Lib.hid ((own_slOfV rfl ho6).later lasts_str HA7.out)
      have HT7 := Lib.hid ((HS5.out.later lasts_str hb6).later lasts_str HA7.out)
      have HX6 := Lib.hid ((hb6.block _ (lt_of_heap HX5.out)).trans HX5.out)
      have HB7 := Lib.hid (HB5.out.trans ((hb6.trans (HA7.out.mono hb6.size)).mono HB5.out.size))
      have hz := lt_of_heap HX6.out
      obtain ⟨c0, c1, c2⟩ := box_spl HX6.out
      clear ho6 hb6 HB5 HD2 HS5
      generalize (decS b).2 = E2 at *
      generalize (decS b).1 = T at *
      go_wp2_with fail
      refine (splSame_self T a4 a6 k4 k6 _ HT7.out HS7.out).mono ?_
      rintro e w8 ⟨rfl, hb8⟩
      have HB8 := Lib.hid (HB7.out.trans (hb8.mono HB7.out.size))
      clear hb8
      go_wp2_with fail
      refine (does_any _ (HE.out.later HB8.out).h10).mono ?_
      rintro e w9 ⟨rfl, hb⟩
      have HB9 := Lib.hid (HB8.out.trans (hb.mono HB8.out.size)); clear hb
      go_wp2_with fail
      go_returns
      exact ⟨rfl, HB9.out⟩
end Go.Proofs.YtgcncmhaihgldaaGreatDoor
