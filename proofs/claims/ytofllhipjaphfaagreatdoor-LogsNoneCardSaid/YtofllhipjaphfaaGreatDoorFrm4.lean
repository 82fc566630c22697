/- The walks of frames.payload, frame, Next. -/
import Derived.Test.YtofllhipjaphfaaGreatDoorFrm3
import Derived.Test.YtofllhipjaphfaaGreatDoorSum5
namespace Go.Proofs.YtofllhipjaphfaaGreatDoor
open Go Go.Proofs Go.RowKit Go.Ink Go.Sort

/-- What the frames' calls ask of a world. -/
structure EnvF (w : World) : Prop where
  e : Env w
  t : EType w
theorem EnvF.later {w w' : World} (h : EnvF w) (hb : Below w.heap.size w w') : EnvF w' := ⟨h.e.later hb, h.t.later hb⟩
theorem step2 {w w1 w2 : World} (h : Below w.heap.size w w1) (h2 : Below w1.heap.size w1 w2) : Below w.heap.size w w2 := h.trans (h2.mono h.size)

set_option maxHeartbeats 1000000 in
theorem payload_none (b : Nat) (i : Int) (s : List UInt8) (w : World) (hr : Rd w b s i) (hs : s.length ≤ 140737488355328) (he : Env w) (hg : getTAt s i = none) :
    Calls Tryz.prog 100 #[.pointer (some ⟨b, 0, none⟩)] w fun e w' => (∃ a, e = .returned (.tuple #[.string ⟨#[]⟩, .iface 178 (.pointer (some a))])) ∧ Below w.heap.size w w' := by
  obtain ⟨c0, c1, f1⟩ := hr.cells
  have HG := fun w he => getText_any s i w (by unfold maxLen; omega) he
  rw [hg] at HG
  simp only [getTV] at HG
  have HQ := Lib.hid (fun d os => HG (grow (redrawn w d) os) (he.later (below_regrown w d os)))
  clear HG hg he hr
  go_enter Tryz.func100, Tryz.ntmps100
  go_wp2_with fail
  have k0 := fun d os => cell_regrown c0 d os
  have k1 := fun d os => cell_regrown c1 d os
  refine wp_region_quiet_below (by kernel_rfl) (by kernel_rfl) ?_
  repeat (quiet_step (exact Calls.regrown_of (HQ.out _ _)))
  refine wpQuiet_nil ?_
  intro _ hw'
  obtain ⟨⟨dq, osq⟩, hw''⟩ := hw'
  subst hw''
  clear k0 k1
  have HB := Lib.hid (below_regrown w dq osq)
  generalize grow (redrawn w dq) osq = wq at *
  go_wp2_with fail
  refine (lacks_any _ _).mono ?_
  rintro e w' ⟨⟨a, rfl⟩, hb⟩
  go_wp2_with fail
  go_returns
  exact ⟨⟨_, rfl⟩, step2 HB.out hb⟩
set_option maxHeartbeats 1000000 in
theorem payload_some (b : Nat) (i : Int) (s t : List UInt8) (j : Nat) (w : World) (hbw : b < w.heap.size) (hr : Rd w b s i) (hs : s.length ≤ 4194304) (he : Env w) (hg : getTAt s i = some (t, (j : Int))) :
    Calls Tryz.prog 100 #[.pointer (some ⟨b, 0, none⟩)] w fun e w' => e = .returned (.tuple #[.string ⟨t.toArray⟩, .nilIface]) ∧ Rd w' b s j ∧ Below b w w' := by
  obtain ⟨c0, c1, f1⟩ := hr.cells
  have hin := getTAt_in hg
  have ht : t.length ≤ 4194304 := by omega
  have HG := fun w he => getText_any s i w (by unfold maxLen; omega) he
  rw [hg] at HG
  simp only [getTV] at HG
  have HQ := Lib.hid (fun d os => HG (grow (redrawn w d) os) (he.later (below_regrown w d os)))
  have HR := Lib.hid hr
  clear HG hg he hr hin
  go_enter Tryz.func100, Tryz.ntmps100
  go_wp2_with fail
  have k0 := fun d os => cell_regrown c0 d os
  have k1 := fun d os => cell_regrown c1 d os
  refine wp_region_quiet_below (by kernel_rfl) (by kernel_rfl) ?_
  repeat (quiet_step (exact Calls.regrown_of (HQ.out _ _)))
  refine wpQuiet_nil ?_
  intro _ hw'
  obtain ⟨⟨dq, osq⟩, hw''⟩ := hw'
  subst hw''
  clear k0 k1
  have HB := Lib.hid (below_regrown w dq osq)
  have HR2 := Lib.hid (HR.out.later HB.out)
  generalize grow (redrawn w dq) osq = wq at *
  obtain ⟨d0, d1, g1⟩ := HR2.out.cells
  go_wp2_with fail
  go_returns
  exact ⟨rfl, HR2.out.set j, (HB.out.mono (show b ≤ w.heap.size by omega)).setCell (p := ⟨b, 1, none⟩) (Nat.le_refl _) _⟩

theorem two_cells (w : World) (x y : Value) (T : TypeId) : (w.alloc (.cells #[x, y] T)).cell? ⟨w.heap.size, 0, none⟩ = some x ∧ (w.alloc (.cells #[x, y] T)).cell? ⟨w.heap.size, 1, none⟩ = some y := by
  have h := Lib.cell_of_heap (heap_alloc_new w (.cells #[x, y] T))
  exact ⟨by rw [h 0]; rfl, by rw [h 1]; rfl⟩
/-- What frame answers. -/
def FrameYes (b : Nat) (s p : List UInt8) (j : Nat) (w : World) (e : Ending) (w' : World) : Prop := e = .returned (.tuple #[.string ⟨p.toArray⟩, .nilIface]) ∧ Rd w' b s j ∧ Below b w w'
def FrameNo (b : Nat) (w : World) (e : Ending) (w' : World) : Prop := ∃ u v, e = .returned (.tuple #[u, v]) ∧ ErrV w' v ∧ Below b w w'
theorem tail_parts (p : List UInt8) : tailB p = hex8 (sumN p) ++ [10] := rfl
theorem ten_toArray : (⟨#[10]⟩ : ByteArray) = ⟨([10] : List UInt8).toArray⟩ := rfl

set_option maxHeartbeats 1000000 in
theorem frame_yes (b : Nat) (i : Int) (s p : List UInt8) (j : Nat) (w : World) (hbw : b < w.heap.size) (hr : Rd w b s i) (hs : s.length ≤ 4194304) (he : Env w) (hg : getTAt s i = some (p, (j : Int))) (h1 : j + 9 ≤ s.length) (h2 : (s.drop j).take 9 = tailB p) :
    Calls Tryz.prog 80 #[.pointer (some ⟨b, 0, none⟩)] w (FrameYes b s p (j + 9) w) := by
  have hin := getTAt_in hg
  have hp : p.length ≤ 4194304 := by omega
  have ha : (s.drop j).take (hex8 (sumN p)).length = hex8 (sumN p) := by
    have : ((s.drop j).take 9).take 8 = (tailB p).take 8 := by rw [h2]
    rw [List.take_take] at this
    exact this
  have hb : (s.drop (j + (hex8 (sumN p)).length)).take ([10] : List UInt8).length = [10] := by
    have : ((s.drop j).take 9).drop 8 = (tailB p).drop 8 := by rw [h2]
    rw [List.drop_take, List.drop_drop] at this
    exact this
  have HP := Lib.hid (payload_some b i s p j w hbw hr hs he hg)
  have HS := Lib.hid (fun w => sum_any p w (by omega))
  have HX := Lib.hid (fun w => hex_any (sumN p) w (sumN_lt p))
  have HT1 := Lib.hid (fun w hr pt => take_yes b j s (hex8 (sumN p)) pt w hr (by omega) (by rw [hex8_len]; omega) ha)
  have HT2 := Lib.hid (fun w hr pt => take_yes b (j + 8) s [10] pt w hr (by omega) (by simp; omega) hb)
  have hl8 : (hex8 (sumN p)).length = 8 := rfl
  rw [hl8] at HT1
  clear ha hb h2 h1 hin he hg hr
  generalize sumN p = n at *
  generalize hex8 n = x at *
  have HL := Lib.hid hl8; clear hl8
  go_enter Tryz.func80, Tryz.ntmps80
  go_wp2_with fail
  refine HP.out.mono ?_
  rintro e w1 ⟨rfl, hr1, hb1⟩
  have HR1 := Lib.hid hr1
  have HB1 := Lib.hid hb1; clear hr1 hb1
  go_wp2_with fail
  refine (HS.out _).mono ?_
  rintro e w2 ⟨rfl, hb2⟩
  have HR2 := Lib.hid (HR1.out.later hb2)
  have HB2 := Lib.hid (HB1.out.trans (hb2.mono (show b ≤ w1.heap.size by have := HB1.out.size; omega))); clear hb2
  go_wp2_with fail
  refine (HX.out _).mono ?_
  rintro e w3 ⟨rfl, hb3⟩
  have HR3 := Lib.hid (HR2.out.later hb3)
  have HB3 := Lib.hid (HB2.out.trans (hb3.mono (show b ≤ w2.heap.size by have := HB2.out.size; omega))); clear hb3
  go_wp2_with fail
  refine (HT1.out _ HR3.out _).mono ?_
  rintro e w4 ⟨rfl, hr4, hb4⟩
  have HR4 := Lib.hid hr4
  have HB4 := Lib.hid (HB3.out.trans hb4); clear hr4 hb4
  go_wp2_with fail
  refine (HT2.out _ HR4.out _).mono ?_
  rintro e w5 ⟨rfl, hr5, hb5⟩
  have HR5 := Lib.hid hr5
  have HB5 := Lib.hid (HB4.out.trans hb5); clear hr5 hb5
  have hc := two_cells w5 .nilIface .nilIface 57
  go_wp2_with fail
  refine (join_nil _ _ hc.1 hc.2).mono ?_
  rintro e w6 ⟨rfl, rfl⟩
  go_wp2_with fail
  go_returns
  exact ⟨rfl, HR5.out.later ((Below.refl _ _).alloc (Nat.le_refl _) _), HB5.out.alloc (by have := HB5.out.size; omega) _⟩
end Go.Proofs.YtofllhipjaphfaaGreatDoor
