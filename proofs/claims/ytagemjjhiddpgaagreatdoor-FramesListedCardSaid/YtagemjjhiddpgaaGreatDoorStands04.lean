/- The walk of chapter 04's examples (inkhornlaw04.stands): they come out. -/
import Derived.Test.YtagemjjhiddpgaaGreatDoorFrm6
namespace Go.Proofs.YtagemjjhiddpgaaGreatDoor
open Go Go.Proofs Go.RowKit Go.Ink Go.Sort

theorem sx1 : frameB [97] = [49, 58, 97, 48, 48, 54, 49, 48, 48, 54, 49, 10] := by decide +kernel
theorem sx2 : frameB [] = [48, 58, 48, 48, 48, 48, 48, 48, 48, 48, 10] := by decide +kernel
theorem sx3 : nextS [49, 58, 97, 48, 48, 54, 49, 48, 48, 54, 49, 10] 0 = some ([97], 12) := by decide +kernel
theorem sx4 : nextS [49, 58, 97, 48, 48, 54, 49, 48, 48, 54, 49, 10] 1 = none := by decide +kernel
theorem sx5 : wholeS [49, 58, 97, 48, 48, 54, 49, 48, 48, 54, 49, 10, 48, 58, 48, 48, 48, 48, 48, 48, 48, 48, 10, 48, 58, 48] = ([[97], []], 23) := by decide +kernel

set_option maxRecDepth 100000 in
set_option maxHeartbeats 2000000 in
theorem stands_any (w : World) (he : EnvF w) : Calls Tryz.prog 5 #[] w fun e w' => e = .returned (.bool true) ∧ Below w.heap.size w w' := by
  have HE := Lib.hid he; clear he
  have H1 := Lib.hid (fun w he => by have := frame_any [97] w (by simp) he; rw [sx1] at this; exact this)
  have H2 := Lib.hid (fun w he => by have := frame_any [] w (by simp) he; rw [sx2] at this; exact this)
  have H3 := Lib.hid (fun w he => by have := next_any [49, 58, 97, 48, 48, 54, 49, 48, 48, 54, 49, 10] 0 w (by simp) he; rw [sx3] at this; exact this)
  have H4 := Lib.hid (fun w he => by have := next_any [49, 58, 97, 48, 48, 54, 49, 48, 48, 54, 49, 10] 1 w (by simp) he; rw [sx4] at this; exact this)
  have H5 := Lib.hid (fun w he => by have := whole_any [49, 58, 97, 48, 48, 54, 49, 48, 48, 54, 49, 10, 48, 58, 48, 48, 48, 48, 48, 48, 48, 48, 10, 48, 58, 48] w (by simp) he; unfold WholePost at this; rw [sx5] at this; exact this)
  simp only [getTV] at H3 H4
  go_enter Tryz.func5, Tryz.ntmps5
  go_wp2_with fail
  refine (H1.out _ HE.out).mono ?_
  rintro e w1 ⟨rfl, hb⟩
  have HB1 := Lib.hid hb; clear hb
  go_wp2_with fail
  refine (H2.out _ (HE.out.later HB1.out)).mono ?_
  rintro e w2 ⟨rfl, hb⟩
  have HB2 := Lib.hid (step2 HB1.out hb); clear hb
  go_wp2_with fail
  refine (H3.out _ (HE.out.later HB2.out)).mono ?_
  rintro e w3 ⟨rfl, hb⟩
  have HB3 := Lib.hid (step2 HB2.out hb); clear hb
  go_wp2_with fail
  refine (H4.out _ (HE.out.later HB3.out)).mono ?_
  rintro e w4 ⟨rfl, hb⟩
  have HB4 := Lib.hid (step2 HB3.out hb); clear hb
  go_wp2_with fail
  refine (H5.out _ (HE.out.later HB4.out)).mono ?_
  rintro e w5 ⟨v, rfl, ho, hb⟩
  have HB5 := Lib.hid (step2 HB4.out hb)
  obtain ⟨ao, cap, rfl, hs⟩ := ho.slOf
  obtain ⟨b, o, u, hao, hc0, hu⟩ := hs.2.2.2 0 [97] rfl
  obtain ⟨b', o', u', hao', hc1, hu'⟩ := hs.2.2.2 1 [] rfl
  subst hao
  simp only [Option.some.injEq, Addr.mk.injEq, and_true] at hao'
  obtain ⟨rfl, rfl⟩ := hao'
  have hu0 : u = .string ⟨#[97]⟩ := hu
  have hu1 : u' = .string ⟨#[]⟩ := hu'
  subst hu0 hu1
  rw [Nat.add_zero] at hc0
  simp only [List.length_cons, List.length_nil, Nat.reduceAdd]
  clear hb ho hs hu hu'
  go_wp2_with fail
  go_returns
  exact ⟨rfl, HB5.out⟩
end Go.Proofs.YtagemjjhiddpgaaGreatDoor
