/- The walks of the reference's Text and Same. -/
import Derived.Test.YtgfcnafhfgncoaaDoorText0
import Derived.Test.YtgfcnafhfgncoaaDoorLaw0
import Derived.Test.YtgfcnafhfgncoaaDoorConv
import Derived.Test.YtgfcnafhfgncoaaDoorCheck
import Derived.Test.YtgfcnafhfgncoaaDoorKeep
import Derived.Deep.QuietTactic
import Derived.BigQuiet
namespace Go.Proofs.YtgfcnafhfgncoaaDoor
open Go Go.Proofs Go.RowKit Go.Ink

theorem strVs_snoc (l : List (List UInt8)) (t : List UInt8) : strVs (l ++ [t]) = strVs l ++ [.string ⟨t.toArray⟩] := by simp [strVs]
set_option maxHeartbeats 400000 in
/-- A grid's rows as texts. -/
theorem text_any (g : Grd) (ao : Option Addr) (cap : Nat) (w : World) (hs : SlOf IsBytes w ao cap g.cells) (hn : g.cells.length ≤ 1000000) :
    Calls Tryd.prog 43 #[gridV g ao cap] w fun e w' => ∃ v, e = .returned v ∧ OwnStrs w' w.heap.size v g.cells ∧ Below w.heap.size w w' := by
  obtain ⟨i0, hi, hz0, hz1, hz2⟩ := info_parts str_info
  have HS := Lib.hid hs; clear hs
  have hnm : g.cells.length ≤ 9223372036854775807 := by omega
  simp only [gridV]
  have HBX : Hid (BoxAt (w.alloc (.cells #[.int .i64 g.rows, .int .i64 g.cols, .slice ao g.cells.length cap, .int .i64 g.row, .int .i64 g.col] 34 (0, 0))) w.heap.size g ao cap) := Lib.hid (heap_alloc_new w _)
  have HB0 := Lib.hid (show Below w.heap.size w (w.alloc (.cells #[.int .i64 g.rows, .int .i64 g.cols, .slice ao g.cells.length cap, .int .i64 g.row, .int .i64 g.col] 34 (0, 0))) from (Below.refl _ _).alloc (Nat.le_refl _) _)
  go_enter Tryd.func43, Tryd.ntmps43
  go_wp2_with fail
  go_loopw [3, 4] (fun v i wr => ∃ k : Nat, i = .int .i64 k ∧ k ≤ g.cells.length ∧ Hid (OwnStrs wr (w.heap.size + 1) v (g.cells.take k)) ∧ Hid (BoxAt wr w.heap.size g ao cap) ∧ Hid (Below w.heap.size w wr)) (fun _ i _ => g.cells.length - (intOf i).toNat)
  case atStart => exact ⟨0, rfl, by omega, Lib.hid (by rw [List.take_zero]; exact OwnStrs.nil _ _), HBX, HB0⟩
  case round =>
    obtain ⟨k, rfl, hk, HO, HX, HB⟩ := hrel
    obtain ⟨_, _, d2, _, _⟩ := HX.out.cells
    by_cases hlt : k < g.cells.length
    · obtain ⟨l, hlk⟩ : ∃ l, g.cells[k]? = some l := ⟨_, List.getElem?_eq_getElem hlt⟩
      obtain ⟨b, off, u, rfl, hcell, ar, cr, rfl, hrow⟩ := HS.out.2.2.2 k l hlk
      have hcell' := (HB.out.cell (p := ⟨b, off + k, none⟩) (lt_of_cell hcell)).trans hcell
      have hcv := hrow.convert Tryd.underlying39 Tryd.underlying5 Tryd.underlying9 HB.out
      have hlti : (k : Int) < (g.cells.length : Int) := by omega
      have hgl := lt_of_heap HX.out
      have HTK : Hid (g.cells.take (k + 1) = g.cells.take k ++ [l]) := Lib.hid (by rw [List.take_add_one, hlk]; rfl)
      have htl : (g.cells.take k).length = k := by rw [List.length_take]; omega
      have HTL := Lib.hid htl
      have hown := HO.out
      unfold OwnStrs at hown
      rw [htl] at hown
      have HOW := Lib.hid hown
      clear hcell hrow hlk htl hown
      go_wp2_with (at_builtin; refine wpList_append_own _ rfl _ _ 22 rfl (w.heap.size + 1) 9 i0 (.string ⟨#[]⟩) 1 16 Tryd.underlying22 hi hz0 hz1 hz2 rfl (by decide) _ _ _ rfl (HOW.out.alloc _) ⟨wr.heap.size, 0, none⟩ 1 1 [.string ⟨l.toArray⟩] rfl rfl (news_one _ _ _) (news_ok rfl) (by unfold maxLen; omega) (by omega) (by simp; omega) ?_)
      intro v' w3 hown' hgrow _
      have HO3 : Hid (OwnStrs w3 (w.heap.size + 1) v' (g.cells.take (k + 1))) := Lib.hid (by
        unfold OwnStrs
        rw [HTK.out, strVs_snoc, List.length_append, HTL.out]; exact hown')
      have HB3 : Hid (Below w.heap.size w w3) := Lib.hid ((HB.out.alloc HB.out.size _).grown hgrow (by simp; omega) (fun j hj => by have := (HOW.out.lt j hj).1; omega))
      have HX3 : Hid (BoxAt w3 w.heap.size g (some ⟨b, off, none⟩) cap) := Lib.hid ((hgrow.block w.heap.size (by simp; omega) (fun e => by have := (HOW.out.lt _ e.symm).1; omega)).trans ((Below.heap_alloc _ _ _ hgl).trans HX.out))
      clear hown' hgrow
      go_wp2_with fail
      go_roundw
      case rel => exact ⟨k + 1, by go_num, by omega, HO3, HX3, HB3⟩
      case measure => simp [intOf]; omega
    · obtain rfl : k = g.cells.length := by omega
      go_wp2_with fail
      go_returns
      have h := HO.out
      rw [List.take_length] at h
      exact ⟨_, rfl, ownsRow_base h (by omega), HB.out⟩
set_option maxHeartbeats 400000 in
set_option maxRecDepth 100000 in
/-- Two grids that show the same are. -/
theorem refSame_self (g : Grd) (ao1 ao2 : Option Addr) (cap1 cap2 : Nat) (w : World) (h1 : SlOf IsBytes w ao1 cap1 g.cells) (h2 : SlOf IsBytes w ao2 cap2 g.cells) (hn : g.cells.length ≤ 1000000) :
    Calls Tryd.prog 17 #[gridV g ao1 cap1, gridV g ao2 cap2] w fun e w' => e = .returned (.bool true) ∧ Below w.heap.size w w' := by
  have H1 := Lib.hid h1; clear h1
  have H2 := Lib.hid h2; clear h2
  have hnm : g.cells.length ≤ 9223372036854775807 := by omega
  simp only [gridV]
  obtain ⟨hx, hy⟩ := @box_two' w g g ao1 ao2 cap1 cap2
  have HX0 := Lib.hid hx
  have HY0 := Lib.hid hy
  have hb0 : Below w.heap.size w ((w.alloc (.cells #[.int .i64 g.rows, .int .i64 g.cols, .slice ao1 g.cells.length cap1, .int .i64 g.row, .int .i64 g.col] 34 (0, 0))).alloc (.cells #[.int .i64 g.rows, .int .i64 g.cols, .slice ao2 g.cells.length cap2, .int .i64 g.row, .int .i64 g.col] 34 (0, 0))) := ((Below.refl _ _).alloc (Nat.le_refl _) _).alloc (by simp) _
  have HB0 := Lib.hid hb0
  clear hx hy hb0
  go_enter Tryd.func17, Tryd.ntmps17
  go_wp2_with fail
  go_loopw [5] (fun i wr => ∃ k : Nat, i = .int .i64 k ∧ k ≤ g.cells.length ∧ Hid (BoxAt wr w.heap.size g ao1 cap1) ∧ Hid (BoxAt wr (w.heap.size + 1) g ao2 cap2) ∧ Hid (Below w.heap.size w wr)) (fun i _ => g.cells.length - (intOf i).toNat)
  case atStart => exact ⟨0, rfl, by omega, HX0, HY0, HB0⟩
  case round =>
    obtain ⟨k, rfl, hk, HX, HY, HB⟩ := hrel
    obtain ⟨_, _, d2, _, _⟩ := HX.out.cells
    obtain ⟨_, _, e2, _, _⟩ := HY.out.cells
    by_cases hlt : k < g.cells.length
    · obtain ⟨l, hlk⟩ : ∃ l, g.cells[k]? = some l := ⟨_, List.getElem?_eq_getElem hlt⟩
      obtain ⟨b, off, u, rfl, hcell, ar, cr, rfl, hrow⟩ := H1.out.2.2.2 k l hlk
      obtain ⟨b2, off2, u2, rfl, hcell2, ar2, cr2, rfl, hrow2⟩ := H2.out.2.2.2 k l hlk
      have hcell' := (HB.out.cell (p := ⟨b, off + k, none⟩) (lt_of_cell hcell)).trans hcell
      have hcell2' := (HB.out.cell (p := ⟨b2, off2 + k, none⟩) (lt_of_cell hcell2)).trans hcell2
      have hcv := fun n => hrow.convert Tryd.underlying39 Tryd.underlying5 Tryd.underlying9 (below_drewN HB.out n)
      have hcv2 := fun n => hrow2.convert Tryd.underlying39 Tryd.underlying5 Tryd.underlying9 (below_drewN HB.out n)
      have hcv0 := hrow.convert Tryd.underlying39 Tryd.underlying5 Tryd.underlying9 HB.out
      have hcv20 := hrow2.convert Tryd.underlying39 Tryd.underlying5 Tryd.underlying9 HB.out
      have hlti : (k : Int) < (g.cells.length : Int) := by omega
      clear hcell hrow hcell2 hrow2 hlk
      go_wp2_with fail
      go_quiet (fail)
      go_wp2_with fail
      go_roundw
      case rel => exact ⟨k + 1, by go_num, by omega, HX, HY, below_drewN HB.out _⟩
      case measure => simp [intOf]; omega
    · obtain rfl : k = g.cells.length := by omega
      go_wp2_with fail
      go_returns
      exact ⟨rfl, HB.out⟩
end Go.Proofs.YtgfcnafhfgncoaaDoor
