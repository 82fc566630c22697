/- The walk of grids.Check: it answers 0 just where the grid may be, else 2; it makes one block. -/
import Derived.Test.YtcgaaadcbhkfoaaGreatDoorGrid2
namespace Go.Proofs.YtcgaaadcbhkfoaaGreatDoor
open Go Go.Proofs Go.RowKit Go.Ink

/-- A grid: rows, columns, cells, the cursor's row and column. -/
structure Grd where
  rows : Int
  cols : Int
  cells : List (List UInt8)
  row : Int
  col : Int
def Grd.ok (g : Grd) : Bool := sizedB g.rows g.cols && !((g.cells.length : Int) != g.rows) && inB g.row g.rows && inB g.col g.cols && !(g.cells.any (wrongB g.cols))
def okI (b : Bool) : Int := if b then 0 else 2
def gridV (g : Grd) (ao : Option Addr) (cap : Nat) : Value := .agg #[.int .i64 g.rows, .int .i64 g.cols, .slice ao g.cells.length cap, .int .i64 g.row, .int .i64 g.col]

set_option maxHeartbeats 1000000 in
theorem check_any (g : Grd) (ao : Option Addr) (cap : Nat) (w : World) (hs : SlOf IsBytes w ao cap g.cells) :
    Calls Tryz.prog 8 #[gridV g ao cap] w fun e w' => e = .returned (.int .i64 (okI g.ok)) ∧ Below w.heap.size w w' := by
  obtain ⟨rows, cols, ls, row, col⟩ := g
  simp only [gridV] at *
  have hm : ls.length ≤ maxLen := Nat.le_trans hs.1 hs.2.1
  unfold maxLen at hm
  have hs2 : ∀ o, SlOf IsBytes (w.alloc o) ao cap ls := fun o => hs.later lasts_bytes ((Below.refl _ _).alloc (Nat.le_refl _) _)
  have HS := Lib.hid hs2; clear hs hs2
  generalize hr : okI (Grd.ok ⟨rows, cols, ls, row, col⟩) = r
  simp only [Grd.ok] at hr
  have HR := Lib.hid hr; clear hr
  cases h1 : sizedB rows cols
  case false =>
    have H1 := Lib.hid h1; clear h1
    go_enter Tryz.func8, Tryz.ntmps8
    go_wp2_with (go_at_call 23; refine (sized_any _ _ _).mono ?_; rintro e w1 ⟨rfl, rfl⟩; rw [H1.out])
    go_ret
    rw [← HR.out, H1.out]
    exact ⟨rfl, (Below.refl _ _).alloc (Nat.le_refl _) _⟩
  have H1 := Lib.hid h1; clear h1
  cases h2 : ((ls.length : Int) != rows)
  case true =>
    go_enter Tryz.func8, Tryz.ntmps8
    go_wp2_with (go_at_call 23; refine (sized_any _ _ _).mono ?_; rintro e w1 ⟨rfl, rfl⟩; rw [H1.out])
    go_ret
    rw [← HR.out, H1.out, h2]
    exact ⟨rfl, (Below.refl _ _).alloc (Nat.le_refl _) _⟩
  cases h3 : inB row rows
  case false =>
    have H3 := Lib.hid h3; clear h3
    go_enter Tryz.func8, Tryz.ntmps8
    go_wp2_with (first | (go_at_call 23; refine (sized_any _ _ _).mono ?_; rintro e w1 ⟨rfl, rfl⟩; rw [H1.out]) | (go_at_call 22; refine (in_any _ _ _).mono ?_; rintro e w1 ⟨rfl, rfl⟩; rw [H3.out]))
    go_ret
    rw [← HR.out, H1.out, h2, H3.out]
    exact ⟨rfl, (Below.refl _ _).alloc (Nat.le_refl _) _⟩
  have H3 := Lib.hid h3; clear h3
  cases h4 : inB col cols
  case false =>
    have H4 := Lib.hid h4; clear h4
    go_enter Tryz.func8, Tryz.ntmps8
    go_wp2_with (first | (go_at_call 23; refine (sized_any _ _ _).mono ?_; rintro e w1 ⟨rfl, rfl⟩; rw [H1.out]) | (go_at_call 22; refine (in_any _ _ _).mono ?_; rintro e w1 ⟨rfl, rfl⟩; first | rw [H3.out] | rw [H4.out]))
    go_ret
    rw [← HR.out, H1.out, h2, H3.out, H4.out]
    exact ⟨rfl, (Below.refl _ _).alloc (Nat.le_refl _) _⟩
  have H4 := Lib.hid h4; clear h4
  cases h5 : ls.any (wrongB cols)
  all_goals
    have H5 := Lib.hid h5; clear h5
    go_enter Tryz.func8, Tryz.ntmps8
    go_wp2_with (first | (go_at_call 23; refine (sized_any _ _ _).mono ?_; rintro e w1 ⟨rfl, rfl⟩; rw [H1.out]) | (go_at_call 22; refine (in_any _ _ _).mono ?_; rintro e w1 ⟨rfl, rfl⟩; first | rw [H3.out] | rw [H4.out]) | (go_at_call 24; refine (containsWrong_any _ _ _ _ (HS.out _) _ cols (by simp)).mono ?_; rintro e w1 ⟨rfl, rfl⟩; rw [H5.out]))
    go_ret
    rw [← HR.out, H1.out, h2, H3.out, H4.out, H5.out]
    exact ⟨rfl, (Below.refl _ _).alloc (Nat.le_refl _) _⟩

end Go.Proofs.YtcgaaadcbhkfoaaGreatDoor
