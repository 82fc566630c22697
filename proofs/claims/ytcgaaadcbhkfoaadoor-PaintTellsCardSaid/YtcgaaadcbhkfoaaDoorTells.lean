/- The walk of the law PaintTells: it answers true. -/
import Derived.Test.YtcgaaadcbhkfoaaDoorAll
import Derived.Test.YtcgaaadcbhkfoaaDoorShort2
namespace Go.Proofs.YtcgaaadcbhkfoaaDoor
open Go Go.Proofs Go.RowKit Go.Ink

theorem three_at {w w2 : World} {o1 o2 o3 : Obj} (hb : Below (((w.alloc o1).alloc o2).alloc o3).heap.size (((w.alloc o1).alloc o2).alloc o3) w2) : w2.heap[w.heap.size]? = some o1 ∧ w2.heap[w.heap.size + 1]? = some o2 ∧ w2.heap[w.heap.size + 2]? = some o3 ∧ Below w.heap.size w w2 := by
  have h := @three w o1 o2 o3
  have h3 : (((w.alloc o1).alloc o2).alloc o3).heap[w.heap.size + 2]? = some o3 := by
    show (((w.heap.push o1).push o2).push o3)[w.heap.size + 2]? = _
    rw [Array.getElem?_push, if_pos (by simp)]
  have hs := h.2.2.2
  rw [hs] at hb
  exact ⟨(hb.block _ (by omega)).trans h.1, (hb.block _ (by omega)).trans h.2.1, (hb.block _ (by omega)).trans h3, h.2.2.1.trans (hb.mono (by omega))⟩

set_option maxHeartbeats 2000000 in
theorem tells_any (f t : Grd) (ao1 ao2 : Option Addr) (cap1 cap2 : Nat) (line col : Int) (w : World) (hf : SlOf IsBytes w ao1 cap1 f.cells) (ht : SlOf IsBytes w ao2 cap2 t.cells) (h10 : Tab10 w) :
    Calls Tryd.prog 4 #[gridV f ao1 cap1, gridV t ao2 cap2, .agg #[.int .i64 line, .int .i64 col]] w fun e w' => e = .returned (.bool true) ∧ Below w.heap.size w w' := by
  have HF := Lib.hid hf; clear hf
  have HT := Lib.hid ht; clear ht
  have H10 := Lib.hid h10; clear h10
  have H3 := Lib.hid (fun o1 o2 o3 => (@three w o1 o2 o3).2.2.1)
  have HDY := Lib.hid (diff_any f t ao1 ao2 cap1 cap2)
  have HRD := Lib.hid (refDiff_any f t ao1 ao2 cap1 cap2)
  have HAL := Lib.hid (all_any t ao2 cap2)
  have HRA := Lib.hid (refAll_any t ao2 cap2)
  simp only [gridV] at *
  generalize diffS f t = ds at *
  generalize okI (diffOk f t) = de at *
  generalize allS t = al at *
  generalize okI t.ok = ae at *
  cases hbf : beyondB f
  case true =>
    have HBF := Lib.hid hbf; clear hbf
    go_enter Tryd.func4, Tryd.ntmps4
    go_wp2_with fail
    refine (beyond_any f _ _ _ (HF.out.later lasts_bytes (H3.out _ _ _))).mono ?_
    rintro e w3 ⟨rfl, hb3⟩
    rw [HBF.out]
    have HB3 := Lib.hid (three_at hb3).2.2.2; clear hb3
    go_wp2_with fail
    refine (lives_any _ (H10.out.later HB3.out)).mono ?_
    rintro e w4 ⟨rfl, hb4⟩
    have HB4 := Lib.hid (HB3.out.trans (hb4.mono HB3.out.size)); clear hb4
    go_wp2_with fail
    go_ret
    exact ⟨rfl, HB4.out⟩
  have HBF := Lib.hid hbf; clear hbf
  cases hbt : beyondB t
  case true =>
    have HBT := Lib.hid hbt; clear hbt
    go_enter Tryd.func4, Tryd.ntmps4
    go_wp2_with fail
    refine (beyond_any f _ _ _ (HF.out.later lasts_bytes (H3.out _ _ _))).mono ?_
    rintro e w3 ⟨rfl, hb3⟩
    rw [HBF.out]
    obtain ⟨hx, hy, hz, hb⟩ := three_at hb3
    have HY : Hid (BoxG w3 (w.heap.size + 1) t ao2 cap2) := hy
    have HB3 := Lib.hid hb; clear hb3 hb hx hy hz
    obtain ⟨d0, d1, d2, d3, d4⟩ := HY.out.cells
    go_wp2_with fail
    refine (beyond_any t _ _ _ (HT.out.later lasts_bytes HB3.out)).mono ?_
    rintro e w4 ⟨rfl, hb4⟩
    rw [HBT.out]
    have HB4 := Lib.hid (HB3.out.trans (hb4.mono HB3.out.size)); clear hb4
    go_wp2_with fail
    refine (lives_any _ (H10.out.later HB4.out)).mono ?_
    rintro e w5 ⟨rfl, hb5⟩
    have HB5 := Lib.hid (HB4.out.trans (hb5.mono HB4.out.size)); clear hb5
    go_wp2_with fail
    go_ret
    exact ⟨rfl, HB5.out⟩
  have HBT := Lib.hid hbt; clear hbt
  go_enter Tryd.func4, Tryd.ntmps4
  go_wp2_with fail
  refine (beyond_any f _ _ _ (HF.out.later lasts_bytes (H3.out _ _ _))).mono ?_
  rintro e w3 ⟨rfl, hb3⟩
  rw [HBF.out]
  obtain ⟨hx, hy, hz, hb⟩ := three_at hb3
  have HX3 : Hid (BoxG w3 w.heap.size f ao1 cap1) := hx
  have HY3 : Hid (BoxG w3 (w.heap.size + 1) t ao2 cap2) := hy
  have HZ3 := Lib.hid hz
  have HB3 := Lib.hid hb; clear hb3 hb hx hy hz
  obtain ⟨d0, d1, d2, d3, d4⟩ := HY3.out.cells
  go_wp2_with fail
  refine (beyond_any t _ _ _ (HT.out.later lasts_bytes HB3.out)).mono ?_
  rintro e w4 ⟨rfl, hb4⟩
  rw [HBT.out]
  have HX4 := Lib.hid (HX3.out.later hb4)
  have HY4 := Lib.hid (HY3.out.later hb4)
  have HZ4 := Lib.hid ((hb4.block _ (Array.getElem?_eq_some_iff.1 HZ3.out).1).trans HZ3.out)
  have HB4 := Lib.hid (HB3.out.trans (hb4.mono HB3.out.size)); clear hb4 HB3 HX3 HY3 HZ3 d0 d1 d2 d3 d4
  obtain ⟨c0, c1, c2, c3, c4⟩ := HX4.out.cells
  obtain ⟨d0, d1, d2, d3, d4⟩ := HY4.out.cells
  go_wp2_with fail
  refine (HDY.out _ (HF.out.later lasts_bytes HB4.out) (HT.out.later lasts_bytes HB4.out) (H10.out.later HB4.out)).mono ?_
  rintro e w5 ⟨rfl, hb5⟩
  have HX5 := Lib.hid (HX4.out.later hb5)
  have HY5 := Lib.hid (HY4.out.later hb5)
  have HZ5 := Lib.hid ((hb5.block _ (Array.getElem?_eq_some_iff.1 HZ4.out).1).trans HZ4.out)
  have HB5 := Lib.hid (HB4.out.trans (hb5.mono HB4.out.size)); clear hb5 HB4 HX4 HY4 HZ4 c0 c1 c2 c3 c4 d0 d1 d2 d3 d4
  obtain ⟨c0, c1, c2, c3, c4⟩ := HX5.out.cells
  obtain ⟨d0, d1, d2, d3, d4⟩ := HY5.out.cells
  go_wp2_with fail
  refine (HRD.out _ (HF.out.later lasts_bytes HB5.out) (HT.out.later lasts_bytes HB5.out) (H10.out.later HB5.out)).mono ?_
  rintro e w6 ⟨rfl, hb6⟩
  have HY6 := Lib.hid (HY5.out.later hb6)
  have HZ6 := Lib.hid ((hb6.block _ (Array.getElem?_eq_some_iff.1 HZ5.out).1).trans HZ5.out)
  have HB6 := Lib.hid (HB5.out.trans (hb6.mono HB5.out.size)); clear hb6 HB5 HX5 HY5 HZ5 c0 c1 c2 c3 c4 d0 d1 d2 d3 d4
  obtain ⟨d0, d1, d2, d3, d4⟩ := HY6.out.cells
  go_wp2_with fail
  refine (HAL.out _ (HT.out.later lasts_bytes HB6.out) (H10.out.later HB6.out)).mono ?_
  rintro e w7 ⟨rfl, hb7⟩
  have HY7 := Lib.hid (HY6.out.later hb7)
  have HZ7 := Lib.hid ((hb7.block _ (Array.getElem?_eq_some_iff.1 HZ6.out).1).trans HZ6.out)
  have HB7 := Lib.hid (HB6.out.trans (hb7.mono HB6.out.size)); clear hb7 HB6 HY6 HZ6 d0 d1 d2 d3 d4
  obtain ⟨d0, d1, d2, d3, d4⟩ := HY7.out.cells
  go_wp2_with fail
  refine (HRA.out _ (HT.out.later lasts_bytes HB7.out) (H10.out.later HB7.out)).mono ?_
  rintro e w8 ⟨rfl, hb8⟩
  have HZ8 := Lib.hid ((hb8.block _ (Array.getElem?_eq_some_iff.1 HZ7.out).1).trans HZ7.out)
  have HB8 := Lib.hid (HB7.out.trans (hb8.mono HB7.out.size)); clear hb8 HB7 HY7 HZ7 d0 d1 d2 d3 d4
  have p0 : w8.cell? ⟨w.heap.size + 2, 0, none⟩ = some (.int .i64 line) := by rw [Lib.cell_of_heap HZ8.out]; rfl
  have p1 : w8.cell? ⟨w.heap.size + 2, 1, none⟩ = some (.int .i64 col) := by rw [Lib.cell_of_heap HZ8.out]; rfl
  have q0 := fun d os => cell_regrown p0 d os
  have q1 := fun d os => cell_regrown p1 d os
  have HC1 := Lib.hid (fun d os => go_any line col (Sort.grow (redrawn w8 d) os) ((H10.out.later HB8.out).later (below_regrown w8 d os)))
  have HC2 := Lib.hid (fun d os => refGo_any line col (Sort.grow (redrawn w8 d) os) ((H10.out.later HB8.out).later (below_regrown w8 d os)))
  have HC3 := Lib.hid (fun d os => lives_any (Sort.grow (redrawn w8 d) os) ((H10.out.later HB8.out).later (below_regrown w8 d os)))
  generalize goS line col = gs at *
  go_wp2_with fail
  refine wp_region_quiet_below (by kernel_rfl) (by kernel_rfl) ?_
  repeat (quiet_step (first | exact Calls.regrown_of (HC1.out _ _) | exact Calls.regrown_of (HC2.out _ _) | exact Calls.regrown_of (HC3.out _ _)))
  refine wpQuiet_nil ?_
  intro _ hw'
  obtain ⟨⟨dq, osq⟩, hw''⟩ := hw'
  subst hw''
  have HB9 := Lib.hid (HB8.out.trans ((below_regrown w8 dq osq).mono HB8.out.size))
  go_wp2_with fail
  go_ret
  exact ⟨rfl, HB9.out⟩
end Go.Proofs.YtcgaaadcbhkfoaaDoor
