/- The walks of the law's beyond: Heavy at no pattern; beyond. -/
import Derived.Test.YtopbpmcanhbklaaGreatDoorMv11
set_option linter.unusedVariables false
set_option linter.unusedSimpArgs false
namespace Go.Proofs.YtopbpmcanhbklaaGreatDoor
open Go Go.Proofs Go.RowKit Go.Ink Go.Sort

/-- A reader of no pattern. -/
def rdA : Array Value := (([.string ⟨#[]⟩, .int .i64 0, .int .i64 0, .int .i64 0] : List Value) ++ List.replicate 1000 (Value.bool false) ++ ([.bool false, .bool false] : List Value)).toArray
theorem rd_built : Tryz.prog.built 83 [(0, Value.string ⟨#[]⟩)] = some rdA := by kernel_rfl
theorem rd_at : rdA[0]? = some (.string ⟨#[]⟩) ∧ rdA[1]? = some (.int .i64 0) ∧ rdA[2]? = some (.int .i64 0) ∧ rdA[3]? = some (.int .i64 0) ∧ rdA[1004]? = some (.bool false) ∧ rdA[1005]? = some (.bool false) := by
  refine ⟨?_, ?_, ?_, ?_, ?_, ?_⟩ <;> kernel_rfl
/-- A reader of no pattern, in memory. -/
structure RdAt (w : World) (r : Nat) : Prop where
  c0 : w.cell? ⟨r, 0, none⟩ = some (.string ⟨#[]⟩)
  c1 : w.cell? ⟨r, 1, none⟩ = some (.int .i64 0)
  c2 : w.cell? ⟨r, 2, none⟩ = some (.int .i64 0)
  c3 : w.cell? ⟨r, 3, none⟩ = some (.int .i64 0)
  c4 : w.cell? ⟨r, 1004, none⟩ = some (.bool false)
  c5 : w.cell? ⟨r, 1005, none⟩ = some (.bool false)
theorem RdAt.of {w : World} {r : Nat} (h : w.heap[r]? = some (.cells rdA 83 (0, 0))) : RdAt w r := by
  have hc := Lib.cell_of_heap h
  obtain ⟨a0, a1, a2, a3, a4, a5⟩ := rd_at
  exact ⟨(hc 0).trans a0, (hc 1).trans a1, (hc 2).trans a2, (hc 3).trans a3, (hc 1004).trans a4, (hc 1005).trans a5⟩
set_option maxRecDepth 100000 in
set_option maxHeartbeats 1000000 in
theorem row_none {w : World} {r : Nat} (h : RdAt w r) :
    Calls Tryz.prog 42 #[.pointer (some ⟨r, 0, none⟩)] w fun e w' => e = .returned (.slice none 0 0) ∧ ∃ n, w' = w.drewN n := by
  obtain ⟨c0, c1, c2, c3, c4, c5⟩ := h
  go_enter Tryz.func42, Tryz.ntmps42
  go_wp2_with fail
  go_loopw [3] (fun lv wr => lv = .slice none 0 0 ∧ wr = w) (fun _ _ => 0)
  case atStart => exact ⟨rfl, rfl⟩
  case round =>
    obtain ⟨rfl, rfl⟩ := hrel
    go_wp2_with fail
    go_quiet (fail)
    go_wp2_with fail
    go_returns
    exact ⟨rfl, nq, rfl⟩
set_option maxRecDepth 100000 in
set_option maxHeartbeats 1000000 in
theorem weight_none (w : World) : Calls Tryz.prog 28 #[.slice none 0 0] w fun e w' => e = .returned (.int .i64 1) ∧ w' = w := by
  go_enter Tryz.func28, Tryz.ntmps28
  go_wp2_with fail
  go_loop [3, 4] (fun nv iv => nv = .int .i64 1 ∧ iv = .int .i64 0) (fun _ _ => 0)
  case atStart => exact ⟨rfl, rfl⟩
  case round =>
    obtain ⟨rfl, rfl⟩ := hrel
    go_wp2_with fail
    go_returns
    exact ⟨rfl, rfl⟩
set_option maxRecDepth 100000 in
set_option maxHeartbeats 1000000 in
theorem parse_none (w : World) :
    Calls Tryz.prog 27 #[.string ⟨#[]⟩] w fun e w' => ∃ r, e = .returned (.tuple #[.pointer (some ⟨r, 0, none⟩), .int .i64 0]) ∧ w'.cell? ⟨r, 0, none⟩ = some (.slice none 0 0) ∧ Below w.heap.size w w' := by
  have hb1 := (Below.refl w.heap.size w).alloc (Nat.le_refl _) (.cells rdA 83)
  have hr1 := heap_alloc_new w (.cells rdA 83)
  have HB1 := Lib.hid hb1
  have HR1 := Lib.hid hr1
  clear hb1 hr1
  go_enter Tryz.func27, Tryz.ntmps27
  go_upto_region 2 with fail
  have he : Tryz.zeroCells83.setIfInBounds 0 (Value.string ⟨#[]⟩) = rdA := by kernel_rfl
  rw [he]
  have HRD := Lib.hid (RdAt.of HR1.out)
  obtain ⟨r, hr⟩ : ∃ r, w.heap.size = r := ⟨_, rfl⟩
  rw [hr] at HRD ⊢
  clear HR1 he hr
  generalize w.alloc (.cells rdA 83) = w1 at *
  generalize rdA = ra at *
  go_wp2_with fail
  refine (row_none HRD.out).mono ?_
  rintro e w2 ⟨rfl, n2, rfl⟩
  have HB2 := Lib.hid (below_drewN HB1.out n2)
  obtain ⟨c0, c1, c2, c3, c4, c5⟩ : RdAt (w1.drewN n2) r := ⟨HRD.out.c0, HRD.out.c1, HRD.out.c2, HRD.out.c3, HRD.out.c4, HRD.out.c5⟩
  clear HB1 HRD
  generalize w1.drewN n2 = w3 at *
  go_wp2_with fail
  go_region
  go_wp2_with fail
  go_returns
  have hal := (Below.refl w3.heap.size w3).alloc (Nat.le_refl _) (.cells #[.slice none 0 0, .int .i64 0, .int .i64 0, .bool false] 64)
  refine ⟨_, rfl, ?_, HB2.out.trans ((hal.drew).mono HB2.out.size)⟩
  have := Lib.cell_of_heap (heap_alloc_new w3 (.cells #[.slice none 0 0, .int .i64 0, .int .i64 0, .bool false] 64)) 0
  exact this
set_option maxRecDepth 100000 in
set_option maxHeartbeats 1000000 in
theorem heavy_none (w : World) : Calls Tryz.prog 8 #[.string ⟨#[]⟩, .string ⟨#[]⟩, .int .i64 60] w fun e w' => e = .returned (.bool false) ∧ Below w.heap.size w w' := by
  go_enter Tryz.func8, Tryz.ntmps8
  go_wp2_with fail
  refine (parse_none _).mono ?_
  rintro e w1 ⟨r, rfl, hc, hb⟩
  have HB := Lib.hid hb
  clear hb
  go_wp2_with fail
  refine (weight_none _).mono ?_
  rintro e w2 ⟨rfl, hw⟩
  subst hw
  go_wp2_with fail
  go_returns
  exact ⟨rfl, HB.out⟩
set_option maxRecDepth 100000 in
set_option maxHeartbeats 2000000 in
theorem beyond_any {w : World} {ls : List (List UInt8)} {ao : Option Addr} {cap : Nat} (h : SlOf IsStr w ao cap ls) (line col : Int) (name : Int) (count : Nat) (letter : Int) (hc : count ≤ 60) :
    Calls Tryz.prog 4 #[.agg (askA (.slice ao ls.length cap) line col name count letter)] w fun e w' => e = .returned (.bool (beyondT ls 8)) ∧ Below w.heap.size w w' := by
  have hb := (Below.refl w.heap.size w).alloc (Nat.le_refl _) (.cells (askA (.slice ao ls.length cap) line col name count letter) 31)
  have hx := heap_alloc_new w (.cells (askA (.slice ao ls.length cap) line col name count letter) 31)
  obtain ⟨w2, hw2⟩ : ∃ w2, w.alloc (.cells (askA (.slice ao ls.length cap) line col name count letter) 31) = w2 := ⟨_, rfl⟩
  rw [hw2] at hb hx
  have hcc := Lib.cell_of_heap hx
  have z0 : w2.cell? ⟨w.heap.size, 0, none⟩ = some (.slice ao ls.length cap) := by rw [hcc]; rfl
  have z4 : w2.cell? ⟨w.heap.size, 4, none⟩ = some (.int .i64 (count : Int)) := by rw [hcc]; rfl
  have z32 : w2.cell? ⟨w.heap.size, 32, none⟩ = some (.string ⟨#[]⟩) := by rw [hcc]; rfl
  have HB := Lib.hid hb
  have HS := Lib.hid (h.later lasts_str hb)
  have hci : ¬ (60 : Int) < (count : Int) := by omega
  clear h hb hx hcc
  go_enter Tryz.func4, Tryz.ntmps4
  go_wp2_with fail
  refine (beyondText_any HS.out 8).mono ?_
  rintro e w3 ⟨rfl, hw⟩
  subst hw
  cases hbt : beyondT ls 8
  · go_wp2_with fail
    refine (heavy_none _).mono ?_
    rintro e w4 ⟨rfl, hb4⟩
    have HB4 := Lib.hid (HB.out.trans (hb4.mono HB.out.size))
    clear hb4
    go_wp2_with fail
    go_returns
    refine ⟨?_, HB4.out⟩
    rw [hbt]
    exact congrArg (fun b => Ending.returned (.bool b)) (decide_eq_false (p := (60 : Int) < (count : Int)) (by omega))
  · go_wp2_with fail
    go_returns
    exact ⟨by rw [hbt]; rfl, HB.out⟩
end Go.Proofs.YtopbpmcanhbklaaGreatDoor
