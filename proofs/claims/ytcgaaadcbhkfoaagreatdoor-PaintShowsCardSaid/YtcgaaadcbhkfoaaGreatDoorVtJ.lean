/- The walks of vt.New and Grid. -/
import Derived.Test.YtcgaaadcbhkfoaaGreatDoorVtI
import Derived.Test.YtcgaaadcbhkfoaaGreatDoorClone
import Derived.Test.YtcgaaadcbhkfoaaGreatDoorNew
namespace Go.Proofs.YtcgaaadcbhkfoaaGreatDoor
open Go Go.Proofs Go.RowKit Go.Ink

def Tm.grd (t : Tm) : Grd := ⟨t.rows, t.cols, t.cells, t.row, t.col⟩
/-- A grid that is handed back: its rows in memory of its own. -/
def GridPost (w : World) (g : Grd) (e : Ending) (w' : World) : Prop :=
  ∃ gr bs, e = .returned (gridV g (some ⟨gr, 0, none⟩) g.cells.length) ∧ w.heap.size ≤ gr ∧ OwnRows w' gr (.slice (some ⟨gr, 0, none⟩) g.cells.length g.cells.length) bs g.cells ∧ Below w.heap.size w w'
theorem clone_post (g : Grd) (ao : Option Addr) (cap : Nat) (w : World) (hs : SlOf IsBytes w ao cap g.cells) (hn : g.cells.length ≤ 1000000) (hl : ∀ l ∈ g.cells, l.length ≤ 1000000) :
    Calls Tryz.prog 41 #[gridV g ao cap] w (GridPost w g) := clone_any g ao cap w hs hn hl
theorem VtAt.sl {B : Nat} {w : World} {v gr cap ga : Nat} {os : List Nat} {pv : Value} {t : Tm} (h : VtAt B w v gr cap ga os pv t) (hg : t.Good) : SlOf IsBytes w (some ⟨gr, 0, none⟩) cap t.cells :=
  h.grid.sl (by have := hg.cols; unfold maxLen; omega) (by rw [hg.many]; exact h.fits.1) h.fits.2
set_option maxRecDepth 100000 in
set_option maxHeartbeats 400000 in
/-- What is shown. -/
theorem grid_any {B : Nat} {w : World} {v gr cap ga : Nat} {os : List Nat} {pv : Value} {t : Tm} (h : VtAt B w v gr cap ga os pv t) (hg : t.Good) :
    Calls Tryz.prog 29 #[.pointer (some ⟨v, 0, none⟩)] w (GridPost w t.grd) := by
  have hb : ∀ o, Below w.heap.size w (w.alloc o) := fun o => (Below.refl _ _).alloc (Nat.le_refl _) o
  have HC := Lib.hid (fun o => clone_post t.grd (some ⟨gr, 0, none⟩) cap (w.alloc o) ((h.sl hg).later lasts_bytes (hb o)) (by show t.cells.length ≤ _; have := hg.many; have := hg.rows; omega) (fun l hl => by have := hg.each l hl; have := hg.cols; omega))
  have hgv : gridV t.grd (some ⟨gr, 0, none⟩) cap = .agg #[.int .i64 (t.rows : Int), .int .i64 (t.cols : Int), .slice (some ⟨gr, 0, none⟩) t.rows cap, .int .i64 (t.row : Int), .int .i64 (t.col : Int)] := by
    unfold gridV Tm.grd; rw [← hg.many]
  rw [hgv] at HC
  have hv := lt_of_heap h.head
  obtain ⟨c0, c1, c2, c3, c4, c5, c6, cf⟩ := h.cells
  have HN := Lib.hid (fun o => none_any v t.esc (w.alloc o) (by rw [(hb o).cell (p := ⟨v, 6, none⟩) hv]; exact c6))
  have HH := Lib.hid (fun o => h.later (hb o))
  have HB := Lib.hid hb
  clear h hg cf c5 c6 hgv hb
  go_enter Tryz.func29, Tryz.ntmps29
  go_wp2_with fail
  refine (HN.out _).mono ?_
  rintro e w1 ⟨rfl, hw1⟩
  subst hw1
  go_wp2_with fail
  refine (HC.out _).mono ?_
  rintro e w2 ⟨G, bs, rfl, hG, hO, hb2⟩
  have hres : w2.heap[w.heap.size]? = some (.cells #[.int .i64 0, .int .i64 0, .slice none 0 0, .int .i64 0, .int .i64 0] 24 (0, 0)) := (hb2.block _ (by simp)).trans (heap_alloc_new _ _)
  have HO := Lib.hid hO
  have HG : Hid (w.heap.size + 1 ≤ G) := Lib.hid (by simpa using hG)
  have HB2 : Hid (Below w.heap.size w w2) := Lib.hid ((HB.out _).trans (hb2.mono (by simp)))
  have hrs := Lib.cell_of_heap hres
  have s0 := hrs 0; have s1 := hrs 1; have s2 := hrs 2; have s3 := hrs 3; have s4 := hrs 4
  have hrf := Lib.frozen_of_heap hres
  have f0 := hrf 0; have f1 := hrf 1; have f2 := hrf 2; have f3 := hrf 3; have f4 := hrf 4
  simp at s0 s1 s2 s3 s4
  obtain ⟨t0, t1, t2, t3, t4⟩ := five_cells hres (.int .i64 t.grd.rows) (.int .i64 t.grd.cols) (.slice (some ⟨G, 0, none⟩) t.grd.cells.length t.grd.cells.length) (.int .i64 t.grd.row) (.int .i64 t.grd.col)
  have hkeep : Hid (KeepT (fun i => i = w.heap.size) w2 (((((w2.setCell ⟨w.heap.size, 0, none⟩ (.int .i64 t.grd.rows)).setCell ⟨w.heap.size, 1, none⟩ (.int .i64 t.grd.cols)).setCell ⟨w.heap.size, 2, none⟩ (.slice (some ⟨G, 0, none⟩) t.grd.cells.length t.grd.cells.length)).setCell ⟨w.heap.size, 3, none⟩ (.int .i64 t.grd.row)).setCell ⟨w.heap.size, 4, none⟩ (.int .i64 t.grd.col))) :=
    Lib.hid (five_keep w2 w.heap.size _ _ _ _ _)
  clear hrs hrf hres hb2 hO HN HC
  generalize t.grd = g at *
  unfold gridV
  go_wp2_with fail
  refine bodyPost_ret (v := .agg #[.int .i64 g.rows, .int .i64 g.cols, .slice (some ⟨G, 0, none⟩) g.cells.length g.cells.length, .int .i64 g.row, .int .i64 g.col]) (by simp [results, Tryz.results29, go_sem, t0, t1, t2, t3, t4]) rfl ?_
  refine ⟨G, bs, rfl, by have := HG.out; omega, HO.out.kept hkeep.out (fun i hi e => ?_), HB2.out.trans (hkeep.out.below HB2.out.size (fun i e => by omega))⟩
  have h1 := (HO.out.lt i hi).1
  have h2 := HG.out
  omega
end Go.Proofs.YtcgaaadcbhkfoaaGreatDoor
