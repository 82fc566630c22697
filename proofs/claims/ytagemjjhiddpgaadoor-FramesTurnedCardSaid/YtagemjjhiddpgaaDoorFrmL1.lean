/- The walks of the laws FramesRebuild and FramesWalk: they answer true. -/
import Derived.Test.YtagemjjhiddpgaaDoorStands04
namespace Go.Proofs.YtagemjjhiddpgaaDoor
open Go Go.Proofs Go.RowKit Go.Ink Go.Sort

theorem framesB_snoc {l : List (List UInt8)} {k : Nat} {p : List UInt8} (h : l[k]? = some p) : framesB (l.take (k + 1)) = framesB (l.take k) ++ frameB p := by
  obtain ⟨hk, rfl⟩ := List.getElem?_eq_some_iff.1 h
  rw [List.take_succ_eq_append_getElem hk, framesB_append, framesB_cons]
  simp [framesB]
theorem framesB_le (l : List (List UInt8)) (k : Nat) : (framesB (l.take k)).length ≤ (framesB l).length := by
  have h : framesB l = framesB (l.take k) ++ framesB (l.drop k) := by rw [← framesB_append, List.take_append_drop]
  rw [h, List.length_append]; omega
theorem frame_le (p : List UInt8) : p.length ≤ (frameB p).length := by
  unfold frameB putT
  simp only [List.length_append]; omega
theorem framesB_mem {l : List (List UInt8)} {k : Nat} {p : List UInt8} (h : l[k]? = some p) : (framesB (l.take k)).length + (frameB p).length ≤ (framesB l).length := by
  have := framesB_le l (k + 1)
  rw [framesB_snoc h, List.length_append] at this
  exact this

set_option maxRecDepth 100000 in
set_option maxHeartbeats 1000000 in
theorem framesRebuild_any (s : List UInt8) (w : World) (hs : s.length ≤ 140737488355328) (he : EnvF w) :
    Calls Tryd.prog 3 #[.string ⟨s.toArray⟩] w fun e w' => e = .returned (.bool true) ∧ Below w.heap.size w w' := by
  have HE := Lib.hid he; clear he
  by_cases hs1 : 15000 < s.length
  · go_enter Tryd.func3, Tryd.ntmps3
    go_wp2_with fail
    refine (stands_any _ HE.out).mono ?_
    rintro e w1 ⟨rfl, hb⟩
    go_wp2_with fail
    go_returns
    exact ⟨rfl, hb⟩
  have HW := Lib.hid (fun w he => whole_any s w (by omega) he)
  obtain ⟨en, h1, h2, h3, h4, h5, h6⟩ := whole_way (s := s) (by omega)
  have hfr := whole_front (s := s) (by omega) h1
  unfold WholePost at HW
  rw [h1] at HW
  have HNX := Lib.hid (fun w he => by have := next_any s (en : Int) w (by omega) he; rw [h6] at this; exact this)
  simp only [getTV] at HNX
  generalize (wholeS s).1 = l at *
  have HLE := Lib.hid h3
  have hX : (⟨s.toArray⟩ : ByteArray).extract 0 en = ⟨(framesB l).toArray⟩ := by rw [extract_mk, Nat.sub_zero, List.drop_zero, hfr]
  have HX := Lib.hid hX
  clear h1 h3 h4 h5 h6 hfr hX
  go_enter Tryd.func3, Tryd.ntmps3
  go_wp2_with fail
  refine (HW.out _ HE.out).mono ?_
  rintro e w1 ⟨v, rfl, ho, hb⟩
  obtain ⟨ao, cap, rfl, hsl⟩ := ho.slOf
  have HSL := Lib.hid hsl
  have HB1 := Lib.hid hb; clear hb ho hsl
  have hlm : l.length ≤ 9223372036854775807 := Nat.le_trans HSL.out.1 HSL.out.2.1
  go_wp2_with fail
  go_loopw [5, 6] (fun fv iv wr => ∃ k : Nat, iv = .int .i64 k ∧ k ≤ l.length ∧ fv = .string ⟨(framesB (l.take k)).toArray⟩ ∧ Hid (Below w1.heap.size w1 wr)) (fun _ iv _ => l.length - (intOf iv).toNat)
  case atStart => exact ⟨0, rfl, by omega, rfl, Lib.hid (Below.refl _ _)⟩
  case round =>
    obtain ⟨k, rfl, hk, rfl, HB⟩ := hrel
    by_cases hlt : k < l.length
    · obtain ⟨p, hkp⟩ : ∃ p, l[k]? = some p := ⟨_, List.getElem?_eq_getElem hlt⟩
      obtain ⟨g, off, u, hao, hcell, hu⟩ := (HSL.out.later lasts_str HB.out).2.2.2 k p hkp
      subst hao
      have hu' : u = .string ⟨p.toArray⟩ := hu
      subst hu'
      clear hu
      have hmem := framesB_mem hkp
      have hpl := frame_le p
      have HSN := Lib.hid (framesB_snoc hkp)
      have hpb : p.length ≤ 4194304 := by have := HLE.out; omega
      have hc : ¬ 9223372036854775807 < (framesB (l.take k)).length + (frameB p).length := by have := HLE.out; omega
      have HF := Lib.hid (fun w he => frame_any p w hpb he)
      have hlti : (k : Int) < (l.length : Int) := by omega
      clear hkp hmem hpl
      generalize frameB p = fp at *
      generalize framesB (l.take k) = A at *
      go_wp2_with fail
      refine (HF.out _ (HE.out.later (step2 HB1.out HB.out))).mono ?_
      rintro e w2 ⟨rfl, hb⟩
      have HB2 := Lib.hid (step2 HB.out hb); clear hb
      go_wp2_with fail
      go_roundw
      case rel => exact ⟨k + 1, by go_num, by omega, by rw [HSN.out, mk_append], HB2⟩
      case measure => simp [intOf]; omega
    · have hkl : k = l.length := by omega
      subst hkl
      rw [List.take_length]
      have hself : (framesB l != framesB l) = false := by simp
      have hx := HX.out
      generalize framesB l = F at *
      have he0 : ¬ (en : Int) < 0 := by omega
      have he1 : (en : Int) ≤ (s.length : Int) := by omega
      go_wp2_with fail
      refine (HNX.out _ (HE.out.later (step2 HB1.out HB.out))).mono ?_
      rintro e w2 ⟨rfl, hb⟩
      have HB2 := Lib.hid (step2 HB1.out (step2 HB.out hb)); clear hb
      go_wp2_with fail
      refine (stands_any _ (HE.out.later HB2.out)).mono ?_
      rintro e w3 ⟨rfl, hb⟩
      have HB3 := Lib.hid (step2 HB2.out hb); clear hb
      go_wp2_with fail
      go_returns
      exact ⟨rfl, HB3.out⟩
end Go.Proofs.YtagemjjhiddpgaaDoor
