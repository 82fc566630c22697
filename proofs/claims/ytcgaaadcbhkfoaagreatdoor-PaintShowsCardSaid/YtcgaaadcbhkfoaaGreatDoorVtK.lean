/- The walk of vt.New. -/
import Derived.Test.YtcgaaadcbhkfoaaGreatDoorVtJ
namespace Go.Proofs.YtcgaaadcbhkfoaaGreatDoor
open Go Go.Proofs Go.RowKit Go.Ink

def startOs (rows cols : Nat) : List Nat := (List.range rows).map (· * cols)
theorem startOs_at {rows cols k : Nat} (h : k < rows) : (startOs rows cols)[k]? = some (k * cols) := by
  unfold startOs; rw [List.getElem?_map, List.getElem?_range h]; rfl
/-- A new grid's memory, as a terminal has it. -/
theorem start_grid {w : World} {rows cols gb gr cap : Nat} (h1 : 2 ≤ rows) (hb : RowAt w gb (rows * cols) (rows * cols) 32) (ho : w.ownsRow (gb + 1) 37 1 (.slice (some ⟨gr, 0, none⟩) rows cap) rows (rowsV gb cols rows)) :
    GridMem w gr gb 37 5 cols (startOs rows cols) (Tm.start rows cols).cells ∧ gb < gr ∧ rows ≤ cap ∧ cap ≤ maxLen := by
  rcases ho.2 with ⟨hv, h0⟩ | ⟨g, cp, cu, hv, hg, hh, h2, h3, h4, h5⟩
  · omega
  · injection hv with e1 e2 e3
    injection e1 with e1; injection e1 with e1
    subst e1 e3
    obtain ⟨cur, hc1, hc2, hc3⟩ := hb
    refine ⟨⟨by simp [Tm.start, startOs], fun l hl => ?_, ?_, ⟨cu, hh, fun k o hk => ?_⟩, ⟨_, hc1, fun k o l j c hk hl hj => ?_⟩, by omega⟩, hg, h2, h3⟩
    · simp only [Tm.start, List.mem_replicate] at hl
      rw [hl.2]; simp [blankL]
    · rw [startOs, List.pairwise_map]
      refine List.Pairwise.imp (R := (· < ·)) (fun {a b} hab => ?_) List.pairwise_lt_range
      left
      have := Nat.mul_le_mul_right cols (show a + 1 ≤ b from hab)
      rw [Nat.succ_mul] at this
      exact this
    · have hkr : k < rows := by have := (List.getElem?_eq_some_iff.1 hk).1; simpa [startOs] using this
      rw [startOs_at hkr] at hk
      injection hk with hk
      subst hk
      have h6 : (cu.toList.take (rows * 1))[k]? = (rowsV gb cols rows)[k]? := by rw [h5]
      rw [List.getElem?_take, if_pos (by omega)] at h6
      simpa [rowsV, rowV, hkr] using h6
    · have hkr : k < rows := by have := (List.getElem?_eq_some_iff.1 hk).1; simpa [startOs] using this
      rw [startOs_at hkr] at hk
      injection hk with hk
      subst hk
      have hlb : l = blankL cols := by
        simp only [Tm.start] at hl
        exact List.eq_of_mem_replicate (List.mem_of_getElem? hl)
      subst hlb
      have hjc : j < cols := by have := (List.getElem?_eq_some_iff.1 hj).1; simpa [blankL] using this
      have hcc : c = 32 := by
        unfold blankL at hj
        exact List.eq_of_mem_replicate (List.mem_of_getElem? hj)
      subst hcc
      have hlt : k * cols + j < rows * cols := by
        have := Nat.mul_le_mul_right cols (show k + 1 ≤ rows from hkr)
        rw [Nat.succ_mul] at this
        omega
      have := hc3 (k * cols + j) hlt
      simpa using this
/-- What New leaves. -/
def VtNew (w : World) (rows cols : Nat) (e : Ending) (w' : World) : Prop :=
  ∃ v gr cap ga os, e = .returned (.pointer (some ⟨v, 0, none⟩)) ∧ VtAt w.heap.size w' v gr cap ga os (.slice none 0 0) (Tm.start rows cols) ∧ Below w.heap.size w w'
set_option maxRecDepth 100000 in
set_option maxHeartbeats 400000 in
theorem vtNew_no (m n : Int) (w : World) (hno : sizedB m n = false) :
    Calls Tryz.prog 9 #[.int .i64 m, .int .i64 n] w fun e w' => e = .returned (.pointer none) ∧ Below w.heap.size w w' := by
  go_enter Tryz.func9, Tryz.ntmps9
  go_wp2_with fail
  refine (new_no m n w hno).mono ?_
  rintro e w1 ⟨rfl, hb⟩
  have HB := Lib.hid hb; clear hb
  go_wp2_with fail
  go_returns
  exact ⟨rfl, HB.out.alloc HB.out.size _⟩
set_option maxRecDepth 100000 in
set_option maxHeartbeats 400000 in
theorem vtNew_yes (rows cols : Nat) (w : World) (h1 : 2 ≤ rows) (h2 : rows ≤ 60) (h3 : 8 ≤ cols) (h4 : cols ≤ 132) :
    Calls Tryz.prog 9 #[.int .i64 rows, .int .i64 cols] w (VtNew w rows cols) := by
  go_enter Tryz.func9, Tryz.ntmps9
  go_wp2_with fail
  refine (new_yes rows cols w h1 h2 h3 h4).mono ?_
  rintro e w1 ⟨gb, vv, rfl, hng⟩
  have hfr := hng.fresh
  have hrows := hng.rows
  obtain ⟨ao, cap, rfl⟩ := ownsRow_shape hrows
  obtain ⟨gr, rfl⟩ : ∃ gr, ao = some ⟨gr, 0, none⟩ := by
    rcases hrows.2 with ⟨hv, h0⟩ | ⟨g, cp, cu, hv, _⟩
    · omega
    · injection hv with e1; exact ⟨g, e1⟩
  obtain ⟨hgm, hlt, hc1, hc2⟩ := start_grid h1 hng.bytes hrows
  have HB := Lib.hid hng.below
  have HG := Lib.hid hgm
  have hgr := (hrows.lt gr rfl).2
  have hgb : gb < w1.heap.size := by
    obtain ⟨cs, hh, _⟩ := hgm.bytes
    exact lt_of_heap hh
  clear hng hrows hgm
  go_wp2_with fail
  go_returns
  have hsz := HB.out.size
  refine ⟨w1.heap.size + 1, gr, cap, gb, startOs rows cols, rfl, ⟨?_, ?_, World.ownsRow_nil _ _ _ _, ⟨by omega, by omega, by omega, by omega⟩, hc1, hc2⟩, (HB.out.alloc HB.out.size _).alloc (by simp; omega) _⟩
  · have := heap_alloc_new (w1.alloc (.cells #[.int .i64 (rows : Int), .int .i64 (cols : Int), .slice (some ⟨gr, 0, none⟩) rows cap, .int .i64 0, .int .i64 0] 24)) (.cells #[.int .i64 (rows : Int), .int .i64 (cols : Int), .slice (some ⟨gr, 0, none⟩) rows cap, .int .i64 0, .int .i64 0, .slice none 0 0, .func (.func 25) #[] #[]] 60)
    have hs : ∀ o : Obj, (w1.alloc o).heap.size = w1.heap.size + 1 := fun o => by simp
    rw [hs] at this
    exact this
  · exact HG.out.later ((Below.heap_alloc _ _ _ (by simp; omega)).trans (Below.heap_alloc _ _ _ hgr)) ((Below.heap_alloc _ _ _ (by simp; omega)).trans (Below.heap_alloc _ _ _ hgb))
end Go.Proofs.YtcgaaadcbhkfoaaGreatDoor
