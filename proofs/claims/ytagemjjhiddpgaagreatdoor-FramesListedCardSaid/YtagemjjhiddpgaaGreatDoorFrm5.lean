/- The walks of frames.frame where none stands, and of Next. -/
import Derived.Test.YtagemjjhiddpgaaGreatDoorFrm4
namespace Go.Proofs.YtagemjjhiddpgaaGreatDoor
open Go Go.Proofs Go.RowKit Go.Ink Go.Sort

set_option maxHeartbeats 1000000 in
theorem frame_no0 (b : Nat) (i : Int) (s : List UInt8) (w : World) (hbw : b < w.heap.size) (hr : Rd w b s i) (hs : s.length ≤ 4194304) (he : Env w) (hg : getTAt s i = none) :
    Calls Tryz.prog 18 #[.pointer (some ⟨b, 0, none⟩)] w (FrameNo b w) := by
  have HP := Lib.hid (payload_none b i s w hr (by omega) he hg)
  clear he hg hr
  go_enter Tryz.func18, Tryz.ntmps18
  go_wp2_with fail
  refine HP.out.mono ?_
  rintro e w1 ⟨⟨a, rfl⟩, hb1⟩
  have HB1 := Lib.hid hb1; clear hb1
  go_wp2_with fail
  go_returns
  exact ⟨_, _, rfl, .inl ⟨a, rfl⟩, HB1.out.mono (show b ≤ w.heap.size by omega)⟩

/-- From the sum's digits on: one of both, or both, do not stand there. -/
def TailNo (x s : List UInt8) (j : Nat) : Prop := ¬ (j + 8 ≤ s.length ∧ (s.drop j).take 8 = x) ∨ ((j + 8 ≤ s.length ∧ (s.drop j).take 8 = x) ∧ ¬ (j + 9 ≤ s.length ∧ (s.drop (j + 8)).take 1 = [10]))
theorem tail_no {s p : List UInt8} {j : Nat} (h : ¬ (j + 9 ≤ s.length ∧ (s.drop j).take 9 = tailB p)) : TailNo (hex8 (sumN p)) s j := by
  unfold TailNo
  by_cases h1 : j + 8 ≤ s.length ∧ (s.drop j).take 8 = hex8 (sumN p)
  · refine .inr ⟨h1, fun h2 => h ⟨h2.1, ?_⟩⟩
    rw [show (9 : Nat) = 8 + 1 from rfl, List.take_add, h1.2, List.drop_drop, h2.2]; rfl
  · exact .inl h1

set_option maxHeartbeats 2000000 in
theorem frame_no1 (b : Nat) (i : Int) (s p : List UInt8) (j : Nat) (w : World) (hbw : b < w.heap.size) (hr : Rd w b s i) (hs : s.length ≤ 4194304) (he : Env w) (hg : getTAt s i = some (p, (j : Int))) (h : ¬ (j + 9 ≤ s.length ∧ (s.drop j).take 9 = tailB p)) :
    Calls Tryz.prog 18 #[.pointer (some ⟨b, 0, none⟩)] w (FrameNo b w) := by
  have hin := getTAt_in hg
  have hp : p.length ≤ 4194304 := by omega
  have hj : j ≤ s.length := by omega
  have HP := Lib.hid (payload_some b i s p j w hbw hr hs he hg)
  have HS := Lib.hid (fun w => sum_any p w (by omega))
  have HX := Lib.hid (fun w => hex_any (sumN p) w (sumN_lt p))
  have hn := tail_no h
  have hl8 : (hex8 (sumN p)).length = 8 := rfl
  clear hin he hg hr h
  generalize sumN p = n at *
  generalize hex8 n = x at *
  have HL := Lib.hid hl8
  rcases hn with h1 | ⟨h1, h2⟩
  · have HT1 := Lib.hid (fun w hr pt => take_no b j s x pt w hr (by omega) (by omega) hj (by rw [hl8]; exact h1))
    clear hl8
    by_cases h3 : j + 1 ≤ s.length ∧ (s.drop j).take 1 = [10]
    · have HT2 := Lib.hid (fun w hr pt => take_yes b j s [10] pt w hr (by omega) (by simpa using h3.1) h3.2)
      clear h1 h3
      go_enter Tryz.func18, Tryz.ntmps18
      go_wp2_with fail
      refine HP.out.mono ?_
      rintro e w1 ⟨rfl, hr1, hb1⟩
      have HR1 := Lib.hid hr1
      have HB1 := Lib.hid hb1; clear hr1 hb1
      go_wp2_with fail
      refine (HS.out _).mono ?_
      rintro e w2 ⟨rfl, hb2⟩
      have HR2 := Lib.hid (HR1.out.later hb2)
      have HB2 := Lib.hid (HB1.out.trans (hb2.mono (show b ≤ w1.heap.size by have := HB1.out.size; omega))); clear hb2
      go_wp2_with fail
      refine (HX.out _).mono ?_
      rintro e w3 ⟨rfl, hb3⟩
      have HR3 := Lib.hid (HR2.out.later hb3)
      have HB3 := Lib.hid (HB2.out.trans (hb3.mono (show b ≤ w2.heap.size by have := HB2.out.size; omega))); clear hb3
      go_wp2_with fail
      refine (HT1.out _ HR3.out _).mono ?_
      rintro e w4 ⟨⟨a, rfl⟩, hb4⟩
      have HR4 := Lib.hid (HR3.out.later hb4)
      have HB4 := Lib.hid (HB3.out.trans (hb4.mono (show b ≤ w3.heap.size by have := HB3.out.size; omega))); clear hb4
      go_wp2_with fail
      refine (HT2.out _ HR4.out _).mono ?_
      rintro e w5 ⟨rfl, hr5, hb5⟩
      have HB5 := Lib.hid (HB4.out.trans hb5); clear hr5 hb5
      have hc := two_cells w5 (.iface 53 (.pointer (some a))) .nilIface 41
      go_wp2_with fail
      refine (join_left _ _ _ hc.1 hc.2).mono ?_
      rintro e w6 ⟨v, rfl, hv, hb6⟩
      have HV := Lib.hid hv
      have HB6 := Lib.hid ((HB5.out.alloc (show b ≤ w5.heap.size by have := HB5.out.size; omega) _).trans (hb6.mono (show b ≤ _ by have := HB5.out.size; simp; omega))); clear hb6 hv hc
      go_wp2_with fail
      go_returns
      exact ⟨_, _, rfl, HV.out, HB6.out⟩
    · have HT2 := Lib.hid (fun w hr pt => take_no b j s [10] pt w hr (by omega) (by simp) hj (by simpa using h3))
      clear h1 h3
      go_enter Tryz.func18, Tryz.ntmps18
      go_wp2_with fail
      refine HP.out.mono ?_
      rintro e w1 ⟨rfl, hr1, hb1⟩
      have HR1 := Lib.hid hr1
      have HB1 := Lib.hid hb1; clear hr1 hb1
      go_wp2_with fail
      refine (HS.out _).mono ?_
      rintro e w2 ⟨rfl, hb2⟩
      have HR2 := Lib.hid (HR1.out.later hb2)
      have HB2 := Lib.hid (HB1.out.trans (hb2.mono (show b ≤ w1.heap.size by have := HB1.out.size; omega))); clear hb2
      go_wp2_with fail
      refine (HX.out _).mono ?_
      rintro e w3 ⟨rfl, hb3⟩
      have HR3 := Lib.hid (HR2.out.later hb3)
      have HB3 := Lib.hid (HB2.out.trans (hb3.mono (show b ≤ w2.heap.size by have := HB2.out.size; omega))); clear hb3
      go_wp2_with fail
      refine (HT1.out _ HR3.out _).mono ?_
      rintro e w4 ⟨⟨a, rfl⟩, hb4⟩
      have HR4 := Lib.hid (HR3.out.later hb4)
      have HB4 := Lib.hid (HB3.out.trans (hb4.mono (show b ≤ w3.heap.size by have := HB3.out.size; omega))); clear hb4
      go_wp2_with fail
      refine (HT2.out _ HR4.out _).mono ?_
      rintro e w5 ⟨⟨c, rfl⟩, hb5⟩
      have HB5 := Lib.hid (HB4.out.trans (hb5.mono (show b ≤ w4.heap.size by have := HB4.out.size; omega))); clear hb5
      have hc := two_cells w5 (.iface 53 (.pointer (some a))) (.iface 53 (.pointer (some c))) 41
      go_wp2_with fail
      refine (join_both _ _ _ _ hc.1 hc.2).mono ?_
      rintro e w6 ⟨v, rfl, hv, hb6⟩
      have HV := Lib.hid hv
      have HB6 := Lib.hid ((HB5.out.alloc (show b ≤ w5.heap.size by have := HB5.out.size; omega) _).trans (hb6.mono (show b ≤ _ by have := HB5.out.size; simp; omega))); clear hb6 hv hc
      go_wp2_with fail
      go_returns
      exact ⟨_, _, rfl, HV.out, HB6.out⟩
  · have HT1 := Lib.hid (fun w hr pt => take_yes b j s x pt w hr (by omega) (by rw [hl8]; exact h1.1) (by rw [hl8]; exact h1.2))
    rw [hl8] at HT1
    have HT2 := Lib.hid (fun w hr pt => take_no b (j + 8) s [10] pt w hr (by omega) (by simp) h1.1 (by simpa using h2))
    clear h1 h2 hl8
    go_enter Tryz.func18, Tryz.ntmps18
    go_wp2_with fail
    refine HP.out.mono ?_
    rintro e w1 ⟨rfl, hr1, hb1⟩
    have HR1 := Lib.hid hr1
    have HB1 := Lib.hid hb1; clear hr1 hb1
    go_wp2_with fail
    refine (HS.out _).mono ?_
    rintro e w2 ⟨rfl, hb2⟩
    have HR2 := Lib.hid (HR1.out.later hb2)
    have HB2 := Lib.hid (HB1.out.trans (hb2.mono (show b ≤ w1.heap.size by have := HB1.out.size; omega))); clear hb2
    go_wp2_with fail
    refine (HX.out _).mono ?_
    rintro e w3 ⟨rfl, hb3⟩
    have HR3 := Lib.hid (HR2.out.later hb3)
    have HB3 := Lib.hid (HB2.out.trans (hb3.mono (show b ≤ w2.heap.size by have := HB2.out.size; omega))); clear hb3
    go_wp2_with fail
    refine (HT1.out _ HR3.out _).mono ?_
    rintro e w4 ⟨rfl, hr4, hb4⟩
    have HR4 := Lib.hid hr4
    have HB4 := Lib.hid (HB3.out.trans hb4); clear hr4 hb4
    go_wp2_with fail
    refine (HT2.out _ HR4.out _).mono ?_
    rintro e w5 ⟨⟨c, rfl⟩, hb5⟩
    have HB5 := Lib.hid (HB4.out.trans (hb5.mono (show b ≤ w4.heap.size by have := HB4.out.size; omega))); clear hb5
    have hc := two_cells w5 .nilIface (.iface 53 (.pointer (some c))) 41
    go_wp2_with fail
    refine (join_right _ _ _ hc.1 hc.2).mono ?_
    rintro e w6 ⟨v, rfl, hv, hb6⟩
    have HV := Lib.hid hv
    have HB6 := Lib.hid ((HB5.out.alloc (show b ≤ w5.heap.size by have := HB5.out.size; omega) _).trans (hb6.mono (show b ≤ _ by have := HB5.out.size; simp; omega))); clear hb6 hv hc
    go_wp2_with fail
    go_returns
    exact ⟨_, _, rfl, HV.out, HB6.out⟩

theorem nextS_none {s : List UInt8} {i : Int} (h : nextS s i = none) : getTAt s i = none ∨ ∃ p j, getTAt s i = some (p, ((j : Nat) : Int)) ∧ (s.length ≤ 4194304 → ¬ (j + 9 ≤ s.length ∧ (s.drop j).take 9 = tailB p)) := by
  unfold nextS at h
  cases hg : getTAt s i with
  | none => exact .inl rfl
  | some x =>
    obtain ⟨p, j⟩ := x
    have hin := getTAt_in hg
    obtain ⟨k, rfl⟩ := Int.eq_ofNat_of_zero_le (show 0 ≤ j by omega)
    rw [hg] at h
    simp only at h
    split at h
    · cases h
    · rename_i hc
      refine .inr ⟨p, k, rfl, fun hs hh => hc ⟨by unfold maxFrame; omega, by omega, ?_⟩⟩
      simpa using hh.2
theorem nextS_some {s p : List UInt8} {i q : Int} (h : nextS s i = some (p, q)) : ∃ j : Nat, getTAt s i = some (p, (j : Int)) ∧ q = ((j + 9 : Nat) : Int) ∧ j + 9 ≤ s.length ∧ (s.drop j).take 9 = tailB p := by
  unfold nextS at h
  cases hg : getTAt s i with
  | none => rw [hg] at h; cases h
  | some x =>
    obtain ⟨p', j⟩ := x
    have hin := getTAt_in hg
    obtain ⟨k, rfl⟩ := Int.eq_ofNat_of_zero_le (show 0 ≤ j by omega)
    rw [hg] at h
    simp only at h
    split at h
    · rename_i hc
      simp only [Option.some.injEq, Prod.mk.injEq] at h
      obtain ⟨rfl, rfl⟩ := h
      exact ⟨k, rfl, by omega, by omega, by simpa using hc.2.2⟩
    · cases h
set_option maxHeartbeats 1000000 in
theorem next_any (s : List UInt8) (i : Int) (w : World) (hs : s.length ≤ 4194304) (he : EnvF w) :
    Calls Tryz.prog 8 #[.string ⟨s.toArray⟩, .int .i64 i] w fun e w' => e = .returned (getTV (nextS s i)) ∧ Below w.heap.size w w' := by
  have hb0 := (Below.refl w.heap.size w).alloc (Nat.le_refl _) (.cells #[.string ⟨s.toArray⟩, .int .i64 i] 39)
  have hrd : Rd (w.alloc (.cells #[.string ⟨s.toArray⟩, .int .i64 i] 39)) w.heap.size s i := heap_alloc_new _ _
  have HE := Lib.hid he
  have he0 := he.later hb0
  have hlt : w.heap.size < (w.alloc (.cells #[.string ⟨s.toArray⟩, .int .i64 i] 39)).heap.size := by simp
  have HB0 := Lib.hid hb0; clear hb0 he
  cases hn : nextS s i with
  | none =>
    have HF : Hid (Calls Tryz.prog 18 #[.pointer (some ⟨w.heap.size, 0, none⟩)] (w.alloc (.cells #[.string ⟨s.toArray⟩, .int .i64 i] 39)) (FrameNo w.heap.size (w.alloc (.cells #[.string ⟨s.toArray⟩, .int .i64 i] 39)))) := by
      rcases nextS_none hn with hg | ⟨p, j, hg, h⟩
      · exact frame_no0 _ _ _ _ hlt hrd hs he0.e hg
      · exact frame_no1 _ _ _ p j _ hlt hrd hs he0.e hg (h hs)
    clear hrd he0 hlt hn
    unfold getTV
    go_enter Tryz.func8, Tryz.ntmps8
    go_wp2_with fail
    refine (show Calls _ _ _ _ _ from HF.out).mono ?_
    rintro e w1 ⟨u, v, rfl, hv, hb1⟩
    have HV := Lib.hid hv
    have HB1 := Lib.hid (HB0.out.trans hb1); clear hb1 hv
    go_wp2_with fail
    refine (none_err _ _ (HE.out.later HB1.out).t HV.out).mono ?_
    rintro e w2 ⟨rfl, hb2⟩
    have HB2 := Lib.hid (step2 HB1.out hb2); clear hb2
    go_wp2_with fail
    go_returns
    exact ⟨rfl, HB2.out⟩
  | some x =>
    obtain ⟨p, q⟩ := x
    obtain ⟨j, hg, rfl, h1, h2⟩ := nextS_some hn
    have HF := Lib.hid (frame_yes _ _ _ p j _ hlt hrd hs he0.e hg h1 h2)
    clear hrd he0 hlt hn hg h1 h2
    unfold getTV
    generalize j + 9 = q at *
    go_enter Tryz.func8, Tryz.ntmps8
    go_wp2_with fail
    refine HF.out.mono ?_
    rintro e w1 ⟨rfl, hr1, hb1⟩
    have HR1 := Lib.hid hr1
    have HB1 := Lib.hid (HB0.out.trans hb1); clear hb1 hr1
    go_wp2_with fail
    refine (none_nil _).mono ?_
    rintro e w2 ⟨rfl, hb2⟩
    obtain ⟨d0, d1, g1⟩ := (HR1.out.later hb2).cells
    have HB2 := Lib.hid (step2 HB1.out hb2); clear hb2
    go_wp2_with fail
    go_quiet (fail)
    go_wp2_with fail
    go_returns
    exact ⟨rfl, below_drewN HB2.out _⟩
end Go.Proofs.YtagemjjhiddpgaaGreatDoor
