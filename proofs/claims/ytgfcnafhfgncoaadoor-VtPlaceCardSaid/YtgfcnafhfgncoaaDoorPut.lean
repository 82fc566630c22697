/- The walk of grids.Put at a mark and a place in the grid. -/
import Derived.Test.YtgfcnafhfgncoaaDoorVtQ
import Derived.Test.YtgfcnafhfgncoaaDoorVtLS
import Derived.Test.YtgfcnafhfgncoaaDoorClone
namespace Go.Proofs.YtgfcnafhfgncoaaDoor
open Go Go.Proofs Go.RowKit Go.Ink

theorem odd_mark (w : World) : Calls Tryd.prog 34 #[.int .u8 35] w fun e w' => e = .returned (.bool false) ∧ w' = w := by
  go_enter Tryd.func34, Tryd.ntmps34
  go_wp2_with fail
  go_returns
  exact ⟨rfl, rfl⟩
/-- The grid with a mark. -/
def putG (g : Grd) (r c : Nat) (l : List UInt8) : Grd := { g with cells := g.cells.set r (l.set c 35) }
set_option maxRecDepth 100000 in
set_option maxHeartbeats 1000000 in
theorem put_any (t : Tm) (hg : t.Good) (r c : Nat) (hr : r < t.rows) (hc : c < t.cols) (l : List UInt8) (hl : t.cells[r]? = some l) (ao : Option Addr) (cap : Nat) (w : World) (hs : SlOf IsBytes w ao cap t.grd.cells) :
    Calls Tryd.prog 23 #[gridV t.grd ao cap, .int .i64 (r : Int), .int .i64 (c : Int), .int .u8 35] w (GridPost w (putG t.grd r c l)) := by
  have HS := Lib.hid hs; clear hs
  have HGD := Lib.hid hg
  have hll : l.length = t.cols := hg.each l (List.mem_of_getElem? hl)
  have hri : (r : Int) < t.grd.rows := by show (r : Int) < (t.rows : Int); omega
  have hci : (c : Int) < t.grd.cols := by show (c : Int) < (t.cols : Int); omega
  have hrl : (r : Int) < (t.grd.cells.length : Int) := by show (r : Int) < (t.cells.length : Int); rw [hg.many]; omega
  have hcl : (c : Int) < (l.length : Int) := by omega
  have hr0 : (0 : Int) ≤ (r : Int) := by omega
  have hc0 : (0 : Int) ≤ (c : Int) := by omega
  have HN1 : Hid (t.grd.cells.length ≤ 1000000) := Lib.hid (by show t.cells.length ≤ _; have h1 := hg.many; have h2 := hg.rows; omega)
  have HC1 : Hid (∀ l ∈ t.grd.cells, l.length ≤ 1000000) := Lib.hid (fun l hl => by have h1 := hg.each l hl; have h2 := hg.cols; omega)
  have HL : Hid (t.grd.cells[r]? = some l) := Lib.hid hl
  have HCL := Lib.hid (show c < l.length by omega)
  have hchk := fun (W : World) (h : SlOf IsBytes W ao cap t.grd.cells) => checkP hg ao cap h
  clear hg hl hll hr hc
  generalize t.grd = g at *
  have HCK := Lib.hid hchk
  clear hchk
  have hCLN := fun (W : World) (h : SlOf IsBytes W ao cap g.cells) => clone_post g ao cap W h HN1.out HC1.out
  have HCLN := Lib.hid hCLN
  clear hCLN
  unfold gridV at HCK HCLN ⊢
  have h2 := @two_blk w (.cells #[.int .i64 g.rows, .int .i64 g.cols, .slice ao g.cells.length cap, .int .i64 g.row, .int .i64 g.col] 34 (0, 0)) (.cells #[.int .i64 0, .int .i64 0, .slice none 0 0, .int .i64 0, .int .i64 0] 34 (0, 0))
  have HZ : Hid (((w.alloc (.cells #[.int .i64 g.rows, .int .i64 g.cols, .slice ao g.cells.length cap, .int .i64 g.row, .int .i64 g.col] 34)).alloc (.cells #[.int .i64 0, .int .i64 0, .slice none 0 0, .int .i64 0, .int .i64 0] 34)).heap.size = w.heap.size + 2) := Lib.hid (by simp)
  have H2 := Lib.hid h2
  have hd : BoxAt ((w.alloc (.cells #[.int .i64 g.rows, .int .i64 g.cols, .slice ao g.cells.length cap, .int .i64 g.row, .int .i64 g.col] 34)).alloc (.cells #[.int .i64 0, .int .i64 0, .slice none 0 0, .int .i64 0, .int .i64 0] 34)) w.heap.size g ao cap := h2.1
  have HX := Lib.hid hd
  obtain ⟨d0, d1, d2, d3, d4⟩ := hd.cells
  clear h2 hd
  go_enter Tryd.func23, Tryd.ntmps23
  go_wp2_with fail
  clear d0 d1 d2 d3 d4
  refine (HCLN.out _ (HS.out.later lasts_bytes H2.out.2.2)).mono ?_
  rintro e w7 ⟨g7, bs7, rfl, hg7, ho7, hb7⟩
  rw [HZ.out] at hg7
  obtain ⟨x0, hx0⟩ : ∃ x0, w.heap.size = x0 := ⟨_, rfl⟩
  obtain ⟨xr, hxr⟩ : ∃ xr, w.heap.size + 1 = xr := ⟨_, rfl⟩
  have hbx := fun o => (Below.refl w7.heap.size w7).alloc (Nat.le_refl _) o
  have hb2 : Below w.heap.size w w7 := H2.out.2.2.trans (hb7.mono (by rw [HZ.out]; omega))
  have HB8 := Lib.hid (fun o => hb2.alloc hb2.size o)
  have HX8 := Lib.hid (fun o => (HX.out.later hb7).later (hbx o))
  have HR8 := Lib.hid (fun o => ((hbx o).block _ (Nat.lt_of_lt_of_le (lt_of_heap H2.out.2.1) hb7.size)).trans ((hb7.block _ (lt_of_heap H2.out.2.1)).trans H2.out.2.1))
  have HW8 := Lib.hid (fun o => ho7.later (hbx o))
  have HC8 : Hid (BoxAt (w7.alloc (.cells #[.int .i64 g.rows, .int .i64 g.cols, .slice (some ⟨g7, 0, none⟩) g.cells.length g.cells.length, .int .i64 g.row, .int .i64 g.col] 34)) w7.heap.size g (some ⟨g7, 0, none⟩) g.cells.length) := Lib.hid box_new
  have HLT := Lib.hid (fun i (hi : RowsS (.slice (some ⟨g7, 0, none⟩) g.cells.length g.cells.length) bs7 i) => (ho7.lt i hi).2)
  have HL7 := Lib.hid (Nat.le_trans (show w.heap.size + 2 ≤ _ from Nat.le_of_eq HZ.out.symm) hb7.size)
  obtain ⟨xx, hxx⟩ : ∃ xx, w7.heap.size = xx := ⟨_, rfl⟩
  have HXE := Lib.hid (And.intro hx0 (And.intro hxr hxx))
  have HG7 := Lib.hid hg7
  rw [hxx] at HC8
  rw [hx0] at HX8
  rw [hxr] at HR8
  have da := fun o => (HX8.out o).cells
  have d0 := fun o => (da o).1
  have d1 := fun o => (da o).2.1
  have d2 := fun o => (da o).2.2.1
  have d3 := fun o => (da o).2.2.2.1
  have d4 := fun o => (da o).2.2.2.2
  clear hbx hb2 hb7 ho7 hg7 da H2 HX HZ
  unfold gridV
  rw [hxr, hx0]
  clear hx0 hxr
  go_wp2_with fail
  refine (HCK.out _ (HS.out.later lasts_bytes (HB8.out _))).mono ?_
  rintro e w10 ⟨rfl, hb10⟩
  have HB := Lib.hid ((HB8.out _).trans (hb10.mono (HB8.out _).size))
  have HX := Lib.hid ((HX8.out _).later hb10)
  have HR := Lib.hid ((hb10.block _ (lt_of_heap (HR8.out _))).trans (HR8.out _))
  have HW := Lib.hid ((HW8.out _).later hb10)
  have HC := Lib.hid (HC8.out.later hb10)
  obtain ⟨d0, d1, d2, d3, d4⟩ := HX.out.cells
  clear hb10 HB8 HX8 HR8 HW8 HC8 hxx
  go_wp2_with fail
  refine (odd_mark _).mono ?_
  rintro e w11 ⟨rfl, rfl⟩
  obtain ⟨c0, c1, c2, c3, c4⟩ := HC.out.cells
  obtain ⟨br, l2, hbr, hl2⟩ := HW.out.at (k := r) (List.getElem?_eq_some_iff.1 HL.out).1
  obtain rfl := Option.some.inj (HL.out.symm.trans hl2)
  obtain ⟨r7, z7⟩ := HW.out.row hbr hl2
  obtain ⟨b7, hb7⟩ : ∃ x, l[c]? = some x := ⟨_, List.getElem?_eq_getElem HCL.out⟩
  obtain ⟨q7, y7⟩ := HW.out.byte hbr hl2 hb7
  unfold rowVal at r7
  have hmem : RowsS (.slice (some ⟨g7, 0, none⟩) g.cells.length g.cells.length) bs7 br.1 := .inr (List.mem_map.2 ⟨br, List.mem_of_getElem? hbr, rfl⟩)
  have hlt := HLT.out _ hmem
  have hge := (HW.out.lt _ hmem).1
  have hwn := HW.out.set hbr hl2 HCL.out 35
  have hk := (KeepT.refl (fun i => i = br.1) w11).setCell (p := ⟨br.1, c, none⟩) (.inl rfl) (.int .u8 35)
  have hne1 : ¬ xx = br.1 := by have := HXE.out.2.2; omega
  have hne2 : ¬ br.1 = xx := by have := HXE.out.2.2; omega
  have hn1 : ¬ xr = br.1 := by have := HXE.out.2.1; have := HG7.out; omega
  have hn2 : ¬ br.1 = xr := by have := HXE.out.2.1; have := HG7.out; omega
  have hn3 : ¬ xx = xr := by have h1 := HXE.out.2.1; have h2 := HXE.out.2.2; have := HL7.out; omega
  have hn4 : ¬ xr = xx := by have h1 := HXE.out.2.1; have h2 := HXE.out.2.2; have := HL7.out; omega
  have hrs := Lib.cell_of_heap HR.out
  have s0 := hrs 0; have s1 := hrs 1; have s2 := hrs 2; have s3 := hrs 3; have s4 := hrs 4
  have hrf := Lib.frozen_of_heap HR.out
  have f0 := hrf 0; have f1 := hrf 1; have f2 := hrf 2; have f3 := hrf 3; have f4 := hrf 4
  simp at s0 s1 s2 s3 s4
  have hr2 : (w11.setCell ⟨br.1, c, none⟩ (.int .u8 35)).heap[xr]? = some (.cells #[.int .i64 0, .int .i64 0, .slice none 0 0, .int .i64 0, .int .i64 0] 34 (0, 0)) := by
    rw [Below.heap_setCell _ _ _ _ (by simpa using hn1)]; exact HR.out
  obtain ⟨t0, t1, t2, t3, t4⟩ := five_cells hr2 (.int .i64 g.rows) (.int .i64 g.cols) (.slice (some ⟨g7, 0, none⟩) g.cells.length g.cells.length) (.int .i64 g.row) (.int .i64 g.col)
  have HK5 := Lib.hid (five_keep (w11.setCell ⟨br.1, c, none⟩ (.int .u8 35)) xr (.int .i64 g.rows) (.int .i64 g.cols) (.slice (some ⟨g7, 0, none⟩) g.cells.length g.cells.length) (.int .i64 g.row) (.int .i64 g.col))
  have HKB := Lib.hid hk
  have HWN := Lib.hid hwn
  have HXR : Hid (∀ i, RowsS (.slice (some ⟨g7, 0, none⟩) g.cells.length g.cells.length) bs7 i → ¬ i = xr) := Lib.hid (fun i hi e => by have h1 := (HW.out.lt i hi).1; have h2 := HXE.out.2.1; have := HG7.out; omega)
  have HLO : Hid (w.heap.size ≤ br.1 ∧ w.heap.size ≤ xr ∧ w.heap.size ≤ g7) := Lib.hid (by have h2 := HXE.out.2.1; have := HG7.out; omega)
  clear hrs hrf hr2 hk hwn hlt hge hmem hbr hl2 hb7
  go_wp2_with fail
  refine bodyPost_ret (v := .agg #[.int .i64 g.rows, .int .i64 g.cols, .slice (some ⟨g7, 0, none⟩) g.cells.length g.cells.length, .int .i64 g.row, .int .i64 g.col]) (by simp [results, Tryd.results23, go_sem, t0, t1, t2, t3, t4]) rfl ?_
  have hlen : (putG g r c l).cells.length = g.cells.length := by unfold putG; simp
  refine ⟨g7, bs7, by unfold gridV; rw [hlen]; rfl, HLO.out.2.2, ?_, HB.out.trans ((HKB.out.below HB.out.size (fun i e => by have := HLO.out.1; omega)).trans (HK5.out.below (Nat.le_trans HB.out.size HKB.out.size) (fun i e => by have := HLO.out.2.1; omega)))⟩
  rw [hlen]
  exact HWN.out.kept HK5.out (fun i hi e => HXR.out i hi e)
end Go.Proofs.YtgfcnafhfgncoaaDoor
