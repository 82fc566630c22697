/- The walk of frames.Frame. -/
import Derived.Test.YtofllhipjaphfaaGreatDoorFrm4
namespace Go.Proofs.YtofllhipjaphfaaGreatDoor
open Go Go.Proofs Go.RowKit Go.Ink Go.Sort

theorem tabOf {w : World} (h : EnvF w) : Tab10 w := h.e.h10
theorem frame_any (p : List UInt8) (w : World) (hp : p.length ≤ 4194304) (he : EnvF w) :
    Calls Tryz.prog 19 #[.string ⟨p.toArray⟩] w fun e w' => e = .returned (.tuple #[.string ⟨(frameB p).toArray⟩, .int .i64 0]) ∧ Below w.heap.size w w' := by
  have HE := Lib.hid he; clear he
  have HP := Lib.hid (fun w ht => putText_any p w (by omega) ht)
  have HS := Lib.hid (fun w => sum_any p w (by omega))
  have HX := Lib.hid (fun w => hex_any (sumN p) w (sumN_lt p))
  have HF := Lib.hid (show frameB p = putT p ++ (hex8 (sumN p) ++ [10]) from rfl)
  have hl := putN_le (p.length : Int) (by omega)
  have hpt : (putT p).length = (putN p.length).length + p.length := by unfold putT; rw [List.length_append]
  have hl8 : (hex8 (sumN p)).length = 8 := rfl
  rw [HF.out]
  generalize sumN p = n at *
  generalize hex8 n = x at *
  have ha : (putT p).length ≤ 5000000 := by omega
  clear hl hpt HF
  generalize putT p = t at *
  have HL8 := Lib.hid hl8
  have hc1 : ¬ 9223372036854775807 < t.length + x.length := by omega
  have hc2 : ¬ 9223372036854775807 < t.length + x.length + 1 := by omega
  clear hl8
  go_enter Tryz.func19, Tryz.ntmps19
  go_wp2_with fail
  refine (HP.out _ (tabOf HE.out)).mono ?_
  rintro e w1 ⟨rfl, hb1⟩
  have HB1 := Lib.hid hb1; clear hb1
  go_wp2_with fail
  refine (HS.out _).mono ?_
  rintro e w2 ⟨rfl, hb2⟩
  have HB2 := Lib.hid (step2 HB1.out hb2); clear hb2
  go_wp2_with fail
  refine (HX.out _).mono ?_
  rintro e w3 ⟨rfl, hb3⟩
  have HB3 := Lib.hid (step2 HB2.out hb3); clear hb3
  go_wp2_with fail
  go_returns
  have e : (⟨t.toArray⟩ : ByteArray) ++ ⟨x.toArray⟩ ++ ⟨#[10]⟩ = ⟨(t ++ (x ++ [10])).toArray⟩ := by apply ByteArray.ext; simp
  exact ⟨by rw [← e]; rfl, HB3.out⟩

end Go.Proofs.YtofllhipjaphfaaGreatDoor
