/- The walk of the law FramesLength: it answers true. -/
import Derived.Test.YtagemjjhiddpgaaDoorFrmL1
namespace Go.Proofs.YtagemjjhiddpgaaDoor
open Go Go.Proofs Go.RowKit Go.Ink Go.Sort

theorem frame_rest (p : List UInt8) : (frameB p).drop (Lib.itoa (p.length : Int)).length = [58] ++ (p ++ tailB p) := by
  unfold frameB putT putN
  rw [if_neg (by omega), List.append_assoc, List.append_assoc, List.drop_left]
set_option maxRecDepth 100000 in
set_option maxHeartbeats 2000000 in
theorem framesLength_any (p : List UInt8) (w : World) (hs : p.length ≤ 140737488355328) (he : EnvF w) :
    Calls Tryd.prog 8 #[.string ⟨p.toArray⟩] w fun e w' => e = .returned (.bool true) ∧ Below w.heap.size w w' := by
  have HE := Lib.hid he; clear he
  by_cases hs1 : 15000 < p.length
  · go_enter Tryd.func8, Tryd.ntmps8
    go_wp2_with fail
    refine (stands_any _ HE.out).mono ?_
    rintro e w1 ⟨rfl, hb⟩
    go_wp2_with fail
    go_returns
    exact ⟨rfl, hb⟩
  have HF := Lib.hid (fun w he => frame_any p w (by omega) he)
  have HI := Lib.hid (fun w ht => itoa_any (p.length : Int) w (by omega) (by omega) ht)
  have hrest := frame_rest p
  have hlen := congrArg List.length hrest
  rw [List.length_drop] at hlen
  simp only [List.length_append, List.length_singleton, tailB_len] at hlen
  have hl0 := itoa_len19 (p.length : Int) (by omega) (by omega)
  -- one byte more
  have HI1 := Lib.hid (fun w ht => itoa_any ((p.length : Int) + 1) w (by omega) (by omega) ht)
  have hl1 := itoa_len19 ((p.length : Int) + 1) (by omega) (by omega)
  have hm := frame_more p (by omega)
  unfold putN at hm
  rw [if_neg (by omega), List.append_assoc, ← hrest] at hm
  have HN1 := Lib.hid (fun (w : World) (he : EnvF w) => by
    have := next_any (Lib.itoa ((p.length : Int) + 1) ++ (frameB p).drop (Lib.itoa (p.length : Int)).length) 0 w (by rw [List.length_append, hrest]; simp only [List.length_append, List.length_singleton, tailB_len]; omega) he
    rw [hm] at this; exact this)
  -- one byte less
  have HI2 := Lib.hid (fun (h0 : 0 < p.length) w ht => itoa_any ((p.length : Int) - 1) w (by omega) (by omega) ht)
  have hl2 : 0 < p.length → (Lib.itoa ((p.length : Int) - 1)).length ≤ 19 := fun h0 => itoa_len19 _ (by omega) (by omega)
  have HN2 := Lib.hid (fun (h0 : 0 < p.length) (w : World) (he : EnvF w) => by
    have hm := frame_less p (by omega) h0
    unfold putN at hm
    rw [if_neg (by omega), List.append_assoc, ← hrest] at hm
    have := next_any (Lib.itoa ((p.length : Int) - 1) ++ (frameB p).drop (Lib.itoa (p.length : Int)).length) 0 w (by have := hl2 h0; rw [List.length_append, hrest]; simp only [List.length_append, List.length_singleton, tailB_len]; omega) he
    rw [hm] at this; exact this)
  simp only [getTV] at HN1 HN2
  clear hm hrest
  have hFl : (frameB p).length = (Lib.itoa (p.length : Int)).length + (1 + (p.length + 9)) := by omega
  generalize Lib.itoa ((p.length : Int) + 1) = I1 at *
  generalize Lib.itoa ((p.length : Int) - 1) = I2 at *
  generalize Lib.itoa (p.length : Int) = I at *
  generalize frameB p = F at *
  have HX := Lib.hid (show (⟨F.toArray⟩ : ByteArray).extract I.length F.length = ⟨(F.drop I.length).toArray⟩ by rw [extract_mk, List.take_of_length_le (by rw [List.length_drop]; omega)])
  have HDL := Lib.hid (show (F.drop I.length).length = 1 + (p.length + 9) by rw [List.length_drop]; omega)
  generalize F.drop I.length = R at *
  have HFL := Lib.hid hFl
  clear hFl hlen
  have hF0 : ¬ (F.length : Int) < (I.length : Int) := by have := HFL.out; omega
  have hF1 : I.length ≤ F.length := by omega
  have hF2 : F.length ≤ 20000 := by have := HFL.out; omega
  go_enter Tryd.func8, Tryd.ntmps8
  go_wp2_with fail
  refine (HF.out _ HE.out).mono ?_
  rintro e w1 ⟨rfl, hb⟩
  have HB1 := Lib.hid hb; clear hb
  go_wp2_with fail
  refine (HI.out _ (tabOf (HE.out.later HB1.out))).mono ?_
  rintro e w2 ⟨rfl, hb⟩
  have HB2 := Lib.hid (step2 HB1.out hb); clear hb
  go_wp2_with fail
  refine wp_loop_rounds 3 ?_
  rw [rounds_succ]
  have hx := HX.out
  have hQ1 := fun (w : World) (h : Below w2.heap.size w2 w) d os => HI1.out (grow (redrawn w d) os) (tabOf ((HE.out.later (step2 HB2.out h)).later (below_regrown w d os)))
  have hQ2 := fun (w : World) (h : Below w2.heap.size w2 w) d os => HN1.out (grow (redrawn w d) os) ((HE.out.later (step2 HB2.out h)).later (below_regrown w d os))
  have HQ1 := Lib.hid hQ1
  have HQ2 := Lib.hid hQ2
  clear hQ1 hQ2
  have hc1 : ¬ 9223372036854775807 < I1.length + R.length := by have := HDL.out; omega
  have hc2 : ¬ 9223372036854775807 < I2.length + R.length ∨ ¬ 0 < p.length := by
    by_cases h0 : 0 < p.length
    · have := HDL.out; have := hl2 h0; exact .inl (by omega)
    · exact .inr h0
  have HM1 := Lib.hid (mk_append I1 R)
  have HM2 := Lib.hid (mk_append I2 R)
  by_cases h0 : 0 < p.length
  · have hc3 := hc2.resolve_right (fun h => h h0)
    have HQ3 := Lib.hid (fun d os => HI2.out h0 (grow (redrawn w2 d) os) (tabOf ((HE.out.later HB2.out).later (below_regrown w2 d os))))
    have HQ4 := Lib.hid (fun d os => HN2.out h0 (grow (redrawn w2 d) os) ((HE.out.later HB2.out).later (below_regrown w2 d os)))
    clear hl2 hc2
    have hw1 : IntKind.i64.wrap ((p.length : Int) + -1) = (p.length : Int) - 1 := IntWalk.i64_in _ (by omega)
    have hm2 := HM2.out
    go_wp2_with fail
    refine wp_region_quiet_below (by kernel_rfl) (by kernel_rfl) ?_
    repeat (quiet_step (first | (with_reducible exact Calls.regrown_of (HQ3.out _ _)) | (with_reducible exact Calls.regrown_of (HQ4.out _ _))))
    refine wpQuiet_nil ?_
    intro _ hw'
    obtain ⟨⟨dq, osq⟩, hw''⟩ := hw'
    subst hw''
    have HBq := Lib.hid (below_regrown w2 dq osq)
    generalize grow (redrawn w2 dq) osq = wq at *
    clear hw1 hm2
    go_wp2_with fail
    rw [rounds_succ]
    have hw2 : IntKind.i64.wrap ((p.length : Int) + 1) = (p.length : Int) + 1 := IntWalk.i64_in _ (by omega)
    have hm1 := HM1.out
    have HQ5 := Lib.hid (HQ1.out wq HBq.out)
    have HQ6 := Lib.hid (HQ2.out wq HBq.out)
    go_wp2_with fail
    refine wp_region_quiet_below (by kernel_rfl) (by kernel_rfl) ?_
    repeat (quiet_step (first | (with_reducible exact Calls.regrown_of (HQ5.out _ _)) | (with_reducible exact Calls.regrown_of (HQ6.out _ _))))
    refine wpQuiet_nil ?_
    intro _ hw'
    obtain ⟨⟨dq2, osq2⟩, hw''⟩ := hw'
    subst hw''
    have HBq2 := Lib.hid (step2 HB2.out (step2 HBq.out (below_regrown wq dq2 osq2)))
    generalize grow (redrawn wq dq2) osq2 = wq2 at *
    go_wp2_with fail
    rw [rounds_succ]
    go_wp2_with fail
    refine (stands_any _ (HE.out.later HBq2.out)).mono ?_
    rintro e w4 ⟨rfl, hb⟩
    have HB4 := Lib.hid (step2 HBq2.out hb); clear hb
    go_wp2_with fail
    go_returns
    exact ⟨rfl, HB4.out⟩
  · clear hl2 hc2
    have hp0 : p.length = 0 := by omega
    have hneg : IntKind.i64.wrap ((p.length : Int) + -1) < 0 := by rw [hp0]; decide
    have HP0 := Lib.hid hp0
    clear hp0
    go_wp2_with fail
    rw [rounds_succ]
    have hw2 : IntKind.i64.wrap ((p.length : Int) + 1) = (p.length : Int) + 1 := IntWalk.i64_in _ (by omega)
    have hm1 := HM1.out
    have HQ5 := Lib.hid (HQ1.out w2 (Below.refl _ _))
    have HQ6 := Lib.hid (HQ2.out w2 (Below.refl _ _))
    go_wp2_with fail
    refine wp_region_quiet_below (by kernel_rfl) (by kernel_rfl) ?_
    repeat (quiet_step (first | (with_reducible exact Calls.regrown_of (HQ5.out _ _)) | (with_reducible exact Calls.regrown_of (HQ6.out _ _))))
    refine wpQuiet_nil ?_
    intro _ hw'
    obtain ⟨⟨dq2, osq2⟩, hw''⟩ := hw'
    subst hw''
    have HBq2 := Lib.hid (step2 HB2.out (step2 (Below.refl _ _) (below_regrown w2 dq2 osq2)))
    generalize grow (redrawn w2 dq2) osq2 = wq2 at *
    go_wp2_with fail
    rw [rounds_succ]
    go_wp2_with fail
    refine (stands_any _ (HE.out.later HBq2.out)).mono ?_
    rintro e w4 ⟨rfl, hb⟩
    have HB4 := Lib.hid (step2 HBq2.out hb); clear hb
    go_wp2_with fail
    go_returns
    exact ⟨rfl, HB4.out⟩
end Go.Proofs.YtagemjjhiddpgaaDoor
