/- The walk of the laws' examples: they come out. -/
import Derived.Test.YtcgaaadcbhkfoaaGreatDoorTwo
import Derived.Test.YtcgaaadcbhkfoaaGreatDoorPaint6
namespace Go.Proofs.YtcgaaadcbhkfoaaGreatDoor
open Go Go.Proofs Go.RowKit Go.Ink

theorem ex1 : diffOk (twoG [] 0 0) (twoG [97, 98] 0 2) = true ∧ diffS (twoG [] 0 0) (twoG [97, 98] 0 2) = [27, 91, 49, 59, 49, 72, 97, 98, 27, 91, 49, 59, 51, 72] := by decide +kernel
theorem ex2 : diffOk (twoG [97, 98, 99] 0 0) (twoG [97, 120, 99] 0 0) = true ∧ diffS (twoG [97, 98, 99] 0 0) (twoG [97, 120, 99] 0 0) = [27, 91, 49, 59, 50, 72, 120, 27, 91, 49, 59, 49, 72] := by decide +kernel
theorem ex3 : diffOk (twoG [97, 98, 99] 0 0) (twoG [97] 0 0) = true ∧ diffS (twoG [97, 98, 99] 0 0) (twoG [97] 0 0) = [27, 91, 49, 59, 50, 72, 27, 91, 75, 27, 91, 49, 59, 49, 72] := by decide +kernel
theorem ex4 : diffOk (twoG [97, 98, 99] 0 0) (twoG [97, 98, 99] 0 0) = true ∧ diffS (twoG [97, 98, 99] 0 0) (twoG [97, 98, 99] 0 0) = [] := by decide +kernel
theorem ex5 : diffOk (twoG [97, 98, 99] 0 0) (twoG [97, 98, 99] 1 0) = true ∧ diffS (twoG [97, 98, 99] 0 0) (twoG [97, 98, 99] 1 0) = [27, 91, 50, 59, 49, 72] := by decide +kernel
theorem two_lit (l : List UInt8) (row col : Int) (w : World) (hl : l.length ≤ 8) :
    Calls Tryz.prog 12 #[.string ⟨l.toArray⟩, .int .i64 row, .int .i64 col] w (TwoPost w (twoG l row col)) := two_any ⟨l.toArray⟩ row col w (by simpa using hl)
theorem diff_lit (f t : Grd) (ao1 ao2 : Option Addr) (cap1 cap2 : Nat) (w : World) (r : List UInt8) (hr : diffOk f t = true ∧ diffS f t = r) (hf : SlOf IsBytes w ao1 cap1 f.cells) (ht : SlOf IsBytes w ao2 cap2 t.cells) (h10 : Tab10 w) :
    Calls Tryz.prog 7 #[gridV f ao1 cap1, gridV t ao2 cap2] w fun e w' => e = .returned (.tuple #[.string ⟨r.toArray⟩, .int .i64 0]) ∧ Below w.heap.size w w' := by
  have h := diff_any f t ao1 ao2 cap1 cap2 w hf ht h10
  rw [hr.1, hr.2] at h
  exact h

set_option maxRecDepth 100000 in
set_option maxHeartbeats 1000000 in
theorem lives_any (w : World) (h10 : Tab10 w) : Calls Tryz.prog 5 #[] w fun e w' => e = .returned (.bool true) ∧ Below w.heap.size w w' := by
  have H10 := Lib.hid h10; clear h10
  go_enter Tryz.func5, Tryz.ntmps5
  have HB0 := Lib.hid (Below.refl w.heap.size w)
  go_wp2_with fail
  refine (two_lit [] 0 0 _ (by decide)).mono ?_
  rintro e wa ⟨ao, cap, rfl, hs, hb⟩
  have HA0 := Lib.hid (HB0.out.trans (hb.mono HB0.out.size))
  have HS0 := Lib.hid hs; clear hs hb HB0
  go_wp2_with fail
  refine (two_lit [97, 98] 0 2 _ (by decide)).mono ?_
  rintro e wb ⟨ao2, cap2, rfl, hs2, hb2⟩
  have HT0 := Lib.hid (HS0.out.later lasts_bytes hb2)
  have HC0 := Lib.hid (HA0.out.trans (hb2.mono HA0.out.size))
  have HU0 := Lib.hid hs2; clear hs2 hb2 HS0 HA0
  go_wp2_with fail
  refine (diff_lit _ _ _ _ _ _ _ _ ex1 HT0.out HU0.out (H10.out.later HC0.out)).mono ?_
  rintro e wc ⟨rfl, hb3⟩
  have HB1 := Lib.hid (HC0.out.trans (hb3.mono HC0.out.size)); clear hb3 HC0 HT0 HU0
  go_wp2_with fail
  refine (two_lit [97, 98, 99] 0 0 _ (by decide)).mono ?_
  rintro e wa ⟨ao, cap, rfl, hs, hb⟩
  have HA1 := Lib.hid (HB1.out.trans (hb.mono HB1.out.size))
  have HS1 := Lib.hid hs; clear hs hb HB1
  go_wp2_with fail
  refine (two_lit [97, 120, 99] 0 0 _ (by decide)).mono ?_
  rintro e wb ⟨ao2, cap2, rfl, hs2, hb2⟩
  have HT1 := Lib.hid (HS1.out.later lasts_bytes hb2)
  have HC1 := Lib.hid (HA1.out.trans (hb2.mono HA1.out.size))
  have HU1 := Lib.hid hs2; clear hs2 hb2 HS1 HA1
  go_wp2_with fail
  refine (diff_lit _ _ _ _ _ _ _ _ ex2 HT1.out HU1.out (H10.out.later HC1.out)).mono ?_
  rintro e wc ⟨rfl, hb3⟩
  have HB2 := Lib.hid (HC1.out.trans (hb3.mono HC1.out.size)); clear hb3 HC1 HT1 HU1
  go_wp2_with fail
  refine (two_lit [97, 98, 99] 0 0 _ (by decide)).mono ?_
  rintro e wa ⟨ao, cap, rfl, hs, hb⟩
  have HA2 := Lib.hid (HB2.out.trans (hb.mono HB2.out.size))
  have HS2 := Lib.hid hs; clear hs hb HB2
  go_wp2_with fail
  refine (two_lit [97] 0 0 _ (by decide)).mono ?_
  rintro e wb ⟨ao2, cap2, rfl, hs2, hb2⟩
  have HT2 := Lib.hid (HS2.out.later lasts_bytes hb2)
  have HC2 := Lib.hid (HA2.out.trans (hb2.mono HA2.out.size))
  have HU2 := Lib.hid hs2; clear hs2 hb2 HS2 HA2
  go_wp2_with fail
  refine (diff_lit _ _ _ _ _ _ _ _ ex3 HT2.out HU2.out (H10.out.later HC2.out)).mono ?_
  rintro e wc ⟨rfl, hb3⟩
  have HB3 := Lib.hid (HC2.out.trans (hb3.mono HC2.out.size)); clear hb3 HC2 HT2 HU2
  go_wp2_with fail
  refine (two_lit [97, 98, 99] 0 0 _ (by decide)).mono ?_
  rintro e wa ⟨ao, cap, rfl, hs, hb⟩
  have HA3 := Lib.hid (HB3.out.trans (hb.mono HB3.out.size))
  have HS3 := Lib.hid hs; clear hs hb HB3
  go_wp2_with fail
  refine (two_lit [97, 98, 99] 0 0 _ (by decide)).mono ?_
  rintro e wb ⟨ao2, cap2, rfl, hs2, hb2⟩
  have HT3 := Lib.hid (HS3.out.later lasts_bytes hb2)
  have HC3 := Lib.hid (HA3.out.trans (hb2.mono HA3.out.size))
  have HU3 := Lib.hid hs2; clear hs2 hb2 HS3 HA3
  go_wp2_with fail
  refine (diff_lit _ _ _ _ _ _ _ _ ex4 HT3.out HU3.out (H10.out.later HC3.out)).mono ?_
  rintro e wc ⟨rfl, hb3⟩
  have HB4 := Lib.hid (HC3.out.trans (hb3.mono HC3.out.size)); clear hb3 HC3 HT3 HU3
  go_wp2_with fail
  refine (two_lit [97, 98, 99] 0 0 _ (by decide)).mono ?_
  rintro e wa ⟨ao, cap, rfl, hs, hb⟩
  have HA4 := Lib.hid (HB4.out.trans (hb.mono HB4.out.size))
  have HS4 := Lib.hid hs; clear hs hb HB4
  go_wp2_with fail
  refine (two_lit [97, 98, 99] 1 0 _ (by decide)).mono ?_
  rintro e wb ⟨ao2, cap2, rfl, hs2, hb2⟩
  have HT4 := Lib.hid (HS4.out.later lasts_bytes hb2)
  have HC4 := Lib.hid (HA4.out.trans (hb2.mono HA4.out.size))
  have HU4 := Lib.hid hs2; clear hs2 hb2 HS4 HA4
  go_wp2_with fail
  refine (diff_lit _ _ _ _ _ _ _ _ ex5 HT4.out HU4.out (H10.out.later HC4.out)).mono ?_
  rintro e wc ⟨rfl, hb3⟩
  have HB5 := Lib.hid (HC4.out.trans (hb3.mono HC4.out.size)); clear hb3 HC4 HT4 HU4
  go_wp2_with fail
  go_goals
  go_ret
  exact ⟨rfl, HB5.out⟩

end Go.Proofs.YtcgaaadcbhkfoaaGreatDoor
