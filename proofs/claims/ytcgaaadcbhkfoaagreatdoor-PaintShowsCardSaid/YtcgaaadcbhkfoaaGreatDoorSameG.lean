/- The walk of grids.Same at two grids that show the same. -/
import Derived.Test.YtcgaaadcbhkfoaaGreatDoorText0
import Derived.Test.YtcgaaadcbhkfoaaGreatDoorConv
import Derived.Deep.QuietTactic
import Derived.BigQuiet
import Derived.Test.YtcgaaadcbhkfoaaGreatDoorShelf
namespace Go.Proofs.YtcgaaadcbhkfoaaGreatDoor
open Go Go.Proofs Go.RowKit Go.Ink

theorem bytesEq_self (l : List UInt8) (a1 a2 : Option Addr) (c1 c2 : Nat) (w : World) (h1 : SlOf IsByte w a1 c1 l) (h2 : SlOf IsByte w a2 c2 l) :
    Calls Tryz.prog 40 #[.slice a1 l.length c1, .slice a2 l.length c2] w fun e w' => e = .returned (.bool true) ∧ w' = w := by
  have hc1 := h1.convert Tryz.underlying37 Tryz.underlying5 Tryz.underlying9 (Below.refl _ _)
  have hc2 := h2.convert Tryz.underlying37 Tryz.underlying5 Tryz.underlying9 (Below.refl _ _)
  rw [← strOfNums_bytes] at hc1 hc2
  have h := Tryz.bytes_Equal _ _ _ _ w hc1 hc2
  rw [beq_self_eq_true] at h
  exact h
set_option maxHeartbeats 400000 in
set_option maxRecDepth 100000 in
theorem equalRows_self (ls : List (List UInt8)) (ao1 ao2 : Option Addr) (cap1 cap2 : Nat) (w : World) (h1 : SlOf IsBytes w ao1 cap1 ls) (h2 : SlOf IsBytes w ao2 cap2 ls) (hn : ls.length ≤ 1000000) :
    Calls Tryz.prog 39 #[.slice ao1 ls.length cap1, .slice ao2 ls.length cap2, .func (.func 40) #[] #[]] w fun e w' => e = .returned (.bool true) ∧ w' = w := by
  have H1 := Lib.hid h1; clear h1
  have H2 := Lib.hid h2; clear h2
  have hnm : ls.length ≤ 9223372036854775807 := by omega
  go_enter Tryz.func39, Tryz.ntmps39
  go_wp2_with fail
  go_loop [17] (fun i => ∃ k : Nat, i = .int .i64 k ∧ k ≤ ls.length) (fun i => ls.length - (intOf i).toNat)
  case atStart => exact ⟨0, rfl, by omega⟩
  case round =>
    obtain ⟨k, rfl, hk⟩ := hrel
    by_cases hlt : k < ls.length
    · obtain ⟨l, hlk⟩ : ∃ l, ls[k]? = some l := ⟨_, List.getElem?_eq_getElem hlt⟩
      obtain ⟨b, off, u, rfl, hcell, ar, cr, rfl, hrow⟩ := H1.out.2.2.2 k l hlk
      obtain ⟨b2, off2, u2, rfl, hcell2, ar2, cr2, rfl, hrow2⟩ := H2.out.2.2.2 k l hlk
      have HE := Lib.hid (bytesEq_self l ar ar2 cr cr2 w hrow hrow2)
      have hlti : (k : Int) < (ls.length : Int) := by omega
      clear hrow hrow2 hlk
      go_wp2_with fail
      refine HE.out.mono ?_
      rintro e w1 ⟨rfl, hw1⟩
      subst hw1
      go_wp2_with fail
      go_round
      case rel => exact ⟨k + 1, by go_num, by omega⟩
      case measure => simp [intOf]; omega
    · obtain rfl : k = ls.length := by omega
      go_wp2_with fail
      go_returns
      exact ⟨rfl, rfl⟩
set_option maxHeartbeats 400000 in
set_option maxRecDepth 100000 in
/-- Two grids that show the same are. -/
theorem same_self_g (g : Grd) (ao1 ao2 : Option Addr) (cap1 cap2 : Nat) (w : World) (h1 : SlOf IsBytes w ao1 cap1 g.cells) (h2 : SlOf IsBytes w ao2 cap2 g.cells) (hn : g.cells.length ≤ 1000000) :
    Calls Tryz.prog 28 #[gridV g ao1 cap1, gridV g ao2 cap2] w fun e w' => e = .returned (.bool true) ∧ Below w.heap.size w w' := by
  simp only [gridV]
  obtain ⟨hx, hy⟩ := @box_two' w g g ao1 ao2 cap1 cap2
  have hb0 : Below w.heap.size w ((w.alloc (.cells #[.int .i64 g.rows, .int .i64 g.cols, .slice ao1 g.cells.length cap1, .int .i64 g.row, .int .i64 g.col] 24 (0, 0))).alloc (.cells #[.int .i64 g.rows, .int .i64 g.cols, .slice ao2 g.cells.length cap2, .int .i64 g.row, .int .i64 g.col] 24 (0, 0))) := ((Below.refl _ _).alloc (Nat.le_refl _) _).alloc (by simp) _
  have HB0 := Lib.hid hb0
  have HE := Lib.hid (equalRows_self g.cells ao1 ao2 cap1 cap2 _ (h1.later lasts_bytes hb0) (h2.later lasts_bytes hb0) hn)
  clear hx hy hb0 h1 h2
  go_enter Tryz.func28, Tryz.ntmps28
  go_wp2_with fail
  refine HE.out.mono ?_
  rintro e w1 ⟨rfl, hw1⟩
  subst hw1
  go_wp2_with fail
  go_returns
  exact ⟨rfl, HB0.out⟩
end Go.Proofs.YtcgaaadcbhkfoaaGreatDoor
