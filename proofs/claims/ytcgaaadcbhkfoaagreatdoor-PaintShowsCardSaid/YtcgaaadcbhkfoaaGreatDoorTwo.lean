/- The walk of the laws' own small screen: two rows of eight columns. -/
import Derived.Test.YtcgaaadcbhkfoaaGreatDoorNew
import Derived.Test.YtcgaaadcbhkfoaaGreatDoorCheck
import Derived.StillTailTactics
namespace Go.Proofs.YtcgaaadcbhkfoaaGreatDoor
open Go Go.Proofs Go.RowKit Go.Ink

/-- A grid's memory as New lays it: its bytes in block gb, its rows in a block of their own. -/
theorem slOf_rows {w : World} {gb rows cols : Nat} {ao : Option Addr} {cap : Nat} {cur : List Value} {cells : List (List UInt8)} (ho : w.ownsRow (gb + 1) 37 1 (.slice ao rows cap) rows (rowsV gb cols rows))
    (hc : w.heap[gb]? = some (.cells cur.toArray 5 (0, 0))) (hr : cells.length = rows) (hpos : cols ≤ maxLen) (hl : ∀ (i : Nat) (l : List UInt8), cells[i]? = some l → l.length = cols) (hcell : ∀ (i j : Nat) (l : List UInt8) (c : UInt8), cells[i]? = some l → l[j]? = some c → cur[i * cols + j]? = some (.int .u8 (c.toNat : Int))) :
    SlOf IsBytes w ao cap cells := by
  rcases ho.2 with ⟨hv, h0⟩ | ⟨g, cp, cu, hv, hg, hh, h1, h2, h3, h4⟩
  · injection hv with e1 e2 e3
    subst e1 e3
    have : cells = [] := List.eq_nil_of_length_eq_zero (by omega)
    subst this
    exact ⟨by simp, by simp [maxLen], fun _ => rfl, fun k x h => by simp at h⟩
  · injection hv with e1 e2 e3
    subst e1 e3
    refine ⟨by omega, h2, by simp, fun k x hk => ⟨g, 0, rowV gb cols k, rfl, ?_, some ⟨gb, k * cols, none⟩, cols, ?_, ?_⟩⟩
    · have hkr : k < rows := by rw [← hr]; exact (List.getElem?_eq_some_iff.1 hk).1
      rw [Lib.cell_of_heap hh, Nat.zero_add]
      have h5 : (cu.toList.take (rows * 1))[k]? = (rowsV gb cols rows)[k]? := by rw [h4]
      rw [List.getElem?_take, if_pos (by omega)] at h5
      simpa [rowsV, hkr] using h5
    · rw [rowV, hl k x hk]
    · refine ⟨by rw [hl k x hk]; exact Nat.le_refl _, hpos, by simp, fun j c hj => ⟨gb, k * cols, _, rfl, ?_, rfl⟩⟩
      rw [Lib.cell_of_heap hc]
      simpa using hcell k j x c hk hj

/-- Bytes of a text, and blanks behind them. -/
def padS (s : List UInt8) (n : Nat) : List UInt8 := s ++ List.replicate (n - s.length) 32
def twoG (s : List UInt8) (row col : Int) : Grd := ⟨2, 8, [padS s 8, List.replicate 8 32], row, col⟩
def TwoPost (w : World) (g : Grd) (e : Ending) (w' : World) : Prop := ∃ ao cap, e = .returned (gridV g ao cap) ∧ SlOf IsBytes w' ao cap g.cells ∧ Below w.heap.size w w'

/-- What stands at the head of the loop: the first k cells of row 0 are the text's. -/
structure TwoAt (w wr : World) (s : List UInt8) (gb gr cp gx k : Nat) : Prop where
  a : wr.heap[w.heap.size]? = some (.cells #[.int .i64 0, .int .i64 0, .slice none 0 0, .int .i64 0, .int .i64 0] 24 (0, 0))
  g : wr.heap[gx]? = some (.cells #[.int .i64 2, .int .i64 8, .slice (some ⟨gr, 0, none⟩) 2 cp, .int .i64 0, .int .i64 0] 24 (0, 0))
  o : wr.ownsRow (gb + 1) 37 1 (.slice (some ⟨gr, 0, none⟩) 2 cp) 2 (rowsV gb 8 2)
  r : ∃ cur : List Value, wr.heap[gb]? = some (.cells cur.toArray 5 (0, 0)) ∧ ∀ j, j < 16 → cur[j]? = some (.int .u8 (if j < k then ((s[j]?.getD 0).toNat : Int) else 32))
  b : Below w.heap.size w wr
  n1 : w.heap.size < gb
  n2 : gb < gr
  n3 : gr < gx
theorem TwoAt.row0 {w wr : World} {s : List UInt8} {gb gr cp gx k : Nat} (h : TwoAt w wr s gb gr cp gx k) : wr.cell? ⟨gr, 0, none⟩ = some (.slice (some ⟨gb, 0, none⟩) 8 8) := by
  rw [h.o.cellAt 0 (by decide)]
  simp [rowsV, rowV, List.range_succ]
theorem TwoAt.drew {w wr : World} {s : List UInt8} {gb gr cp gx k : Nat} (h : TwoAt w wr s gb gr cp gx k) : TwoAt w wr.drew s gb gr cp gx k := ⟨h.a, h.g, h.o.drew, h.r, h.b.drew, h.n1, h.n2, h.n3⟩
theorem TwoAt.next {w wr : World} {s : List UInt8} {gb gr cp gx k : Nat} (h : TwoAt w wr s gb gr cp gx k) (hk : k < 16) : TwoAt w ((wr.setCell ⟨gb, k, none⟩ (.int .u8 ((s[k]?.getD 0).toNat : Int)))) s gb gr cp gx (k + 1) := by
  obtain ⟨a, g, o, ⟨cur, hc, hr⟩, b, n1, n2, n3⟩ := h
  refine ⟨?_, ?_, ownsRow_setCell_below o (by simp) _, ⟨cur.set k (.int .u8 ((s[k]?.getD 0).toNat : Int)), ?_, fun j hj => ?_⟩, b.setCell (by simp; omega) _, n1, n2, n3⟩
  · rw [Below.heap_setCell _ _ _ _ (by simp; omega)]; exact a
  · rw [Below.heap_setCell _ _ _ _ (by simp; omega)]; exact g
  · rw [heap_set hc]; simp
  · by_cases e : j = k
    · subst e
      rw [List.getElem?_set_self (by have := hr j hj; exact (List.getElem?_eq_some_iff.1 this).1)]
      simp
    · rw [List.getElem?_set_ne (by omega), hr j hj]
      congr 3
      by_cases h1 : j < k
      · simp [h1, show j < k + 1 by omega]
      · simp [h1, show ¬ j < k + 1 by omega]
theorem TwoAt.frozen {w wr : World} {s : List UInt8} {gb gr cp gx k : Nat} (h : TwoAt w wr s gb gr cp gx k) (j : Nat) (hj : j < 16) : wr.frozen? ⟨gb, j, none⟩ = false ∧ ∃ u, wr.cell? ⟨gb, j, none⟩ = some u := by
  obtain ⟨cur, hc, hr⟩ := h.r
  exact ⟨Lib.frozen_of_heap hc j, _, by rw [Lib.cell_of_heap hc]; simpa using hr j hj⟩

theorem pad_cells {s : List UInt8} {cur : List Value} (hs : s.length ≤ 8) (hr : ∀ j, j < 16 → cur[j]? = some (.int .u8 (if j < s.length then ((s[j]?.getD 0).toNat : Int) else 32))) :
    ∀ (i j : Nat) (l : List UInt8) (c : UInt8), [padS s 8, List.replicate 8 32][i]? = some l → l[j]? = some c → cur[i * 8 + j]? = some (.int .u8 (c.toNat : Int)) := by
  intro i j l c hl hj
  match i, hl with
  | 0, hl =>
    have hl' : padS s 8 = l := by simpa using hl
    subst hl'
    have hj8 : j < 8 := by have := (List.getElem?_eq_some_iff.1 hj).1; simp [padS] at this; omega
    rw [Nat.zero_mul, Nat.zero_add, hr j (by omega)]
    by_cases h5 : j < s.length
    · rw [if_pos h5]
      simp only [padS] at hj
      rw [List.getElem?_append_left h5] at hj
      rw [hj]; rfl
    · rw [if_neg h5]
      simp only [padS] at hj
      rw [List.getElem?_append_right (by omega), List.getElem?_replicate] at hj
      split at hj
      · cases hj; rfl
      · cases hj
  | 1, hl =>
    have hl' : List.replicate 8 32 = l := by simpa using hl
    subst hl'
    have hj8 : j < 8 := by have := (List.getElem?_eq_some_iff.1 hj).1; simpa using this
    rw [hr _ (by omega), if_neg (by omega)]
    have : c = 32 := List.eq_of_mem_replicate (n := 8) (List.mem_of_getElem? hj)
    subst this; rfl
theorem pad_len {s : List UInt8} (hs : s.length ≤ 8) : ∀ (i : Nat) (l : List UInt8), [padS s 8, List.replicate 8 32][i]? = some l → l.length = 8 := by
  intro i l hl
  match i, hl with
  | 0, hl => have hl' : padS s 8 = l := by simpa using hl
             subst hl'; simp [padS]; omega
  | 1, hl => have hl' : List.replicate 8 32 = l := by simpa using hl
             subst hl'; simp

set_option maxRecDepth 100000 in
set_option maxHeartbeats 1000000 in
theorem two_any (s : ByteArray) (row col : Int) (w : World) (hs : s.size ≤ 8) :
    Calls Tryz.prog 12 #[.string s, .int .i64 row, .int .i64 col] w (TwoPost w (twoG s.data.toList row col)) := by
  go_enter Tryz.func12, Tryz.ntmps12
  go_wp2_with fail
  refine (new_yes 2 8 _ (by omega) (by omega) (by omega) (by omega)).mono ?_
  rintro e w4 ⟨gb, v, rfl, hnew⟩
  obtain ⟨gr, cp, hv, hgr⟩ : ∃ gr cp, v = .slice (some ⟨gr, 0, none⟩) 2 cp ∧ gb < gr ∧ gr < w4.heap.size := by
    rcases hnew.rows.2 with ⟨_, h⟩ | ⟨g, cap, cur, hv, hg, hh, _⟩
    · cases h
    · exact ⟨g, cap, hv, by omega, (Array.getElem?_eq_some_iff.1 hh).1⟩
  subst hv
  obtain ⟨hgr1, hgr2⟩ := hgr
  have hfr := hnew.fresh
  have hbel := hnew.below
  have hst : Hid (TwoAt w (w4.alloc (.cells #[.int .i64 2, .int .i64 8, .slice (some ⟨gr, 0, none⟩) 2 cp, .int .i64 0, .int .i64 0] 24 (0, 0))) s.data.toList gb gr cp w4.heap.size 0) := by
    have hsz : (w.alloc (.cells #[.int .i64 0, .int .i64 0, .slice none 0 0, .int .i64 0, .int .i64 0] 24 (0, 0))).heap.size = w.heap.size + 1 := by simp
    rw [hsz] at hfr hbel
    refine ⟨?_, ?_, hnew.rows.alloc _, ?_, ?_, by omega, hgr1, hgr2⟩
    · refine (Below.heap_alloc _ _ _ (by omega)).trans ((hbel.block _ (by omega)).trans ?_)
      show (w.heap.push _)[w.heap.size]? = _
      rw [Array.getElem?_push, if_pos rfl]
    · show (w4.heap.push _)[w4.heap.size]? = _
      rw [Array.getElem?_push, if_pos rfl]
    · obtain ⟨cur, hc, _, hr⟩ := hnew.bytes
      exact ⟨cur, (Below.heap_alloc _ _ _ (by omega)).trans hc, fun j hj => by rw [hr j (by omega)]; simp⟩
    · exact (((Below.refl _ _).alloc (Nat.le_refl _) _).trans (hbel.mono (by omega))).alloc (by omega) _
  clear hnew hfr hbel
  go_wp2_with fail
  go_loopw [9] (fun i wr => ∃ k : Nat, i = .int .i64 k ∧ k ≤ s.size ∧ Hid (TwoAt w wr s.data.toList gb gr cp w4.heap.size k)) (fun i _ => s.size - (intOf i).toNat)
  case atStart => exact ⟨0, rfl, by omega, hst⟩
  case round =>
    obtain ⟨k, rfl, hk, H⟩ := hrel
    have hd := Lib.cell_of_heap H.out.g
    have d0 := hd 0
    have d1 := hd 1
    have d2 := hd 2
    have d3 := hd 3
    have d4 := hd 4
    simp at d0 d1 d2 d3 d4
    clear hd
    by_cases hlt : k < s.size
    · have hlti : (k : Int) < (s.size : Int) := by omega
      have hr0 := H.out.row0
      obtain ⟨hfz, u, hu⟩ := H.out.frozen k (by omega)
      have hN := Lib.hid (H.out.next (show k < 16 by omega))
      have h8 : (k : Int) < 8 := by omega
      have es : s.data.toList[k]?.getD 0 = s[k] := by
        rw [List.getElem?_eq_getElem (by simpa using hlt)]; rfl
      rw [es] at hN
      clear es
      go_wp2_with fail
      go_still_tail 9, (by kernel_rfl)
      go_wp2_with fail
      go_roundw
      case rel => exact ⟨k + 1, by go_num, by omega, hN.out.drew⟩
      case measure => simp [intOf] <;> omega
    · obtain rfl : k = s.size := by omega
      have ea := Lib.cell_of_heap H.out.a
      have e0 := ea 0
      have e1 := ea 1
      have e2 := ea 2
      have e3 := ea 3
      have e4 := ea 4
      simp at e0 e1 e2 e3 e4
      clear ea
      have f0 := Lib.frozen_of_heap H.out.a 0
      have f1 := Lib.frozen_of_heap H.out.a 1
      have f2 := Lib.frozen_of_heap H.out.a 2
      have f3 := Lib.frozen_of_heap H.out.a 3
      have f4 := Lib.frozen_of_heap H.out.a 4
      have q3 := Lib.frozen_of_heap H.out.g 3
      have q4 := Lib.frozen_of_heap H.out.g 4
      have hlt1 : w.heap.size < w4.heap.size := by have := H.out.n1; omega
      have hne1 : ¬ w.heap.size = w4.heap.size := by omega
      have hne2 : ¬ w4.heap.size = w.heap.size := by omega
      have x3 := heap_set (j := 3) H.out.g (.int .i64 row)
      have x4 := heap_set (j := 4) x3 (.int .i64 col)
      have t3 := cell_set (j := 3) H.out.g (by simp) (.int .i64 row)
      have t4 := cell_set (j := 4) x3 (by simp) (.int .i64 col)
      clear x3 x4
      go_wp2_with fail
      have hW : ((wr.setCell ⟨w4.heap.size, 3, none⟩ (.int .i64 row)).setCell ⟨w4.heap.size, 4, none⟩ (.int .i64 col)).heap[w.heap.size]? = some (.cells #[.int .i64 0, .int .i64 0, .slice none 0 0, .int .i64 0, .int .i64 0] 24 (0, 0)) := by
        rw [Below.heap_setCell _ _ _ _ hne1, Below.heap_setCell _ _ _ _ hne1]; exact H.out.a
      obtain ⟨s0, s1, s2, s3, s4⟩ := five_cells hW (.int .i64 2) (.int .i64 8) (.slice (some ⟨gr, 0, none⟩) 2 cp) (.int .i64 row) (.int .i64 col)
      refine bodyPost_ret (v := .agg #[.int .i64 2, .int .i64 8, .slice (some ⟨gr, 0, none⟩) 2 cp, .int .i64 row, .int .i64 col]) (by simp [results, Tryz.results12, go_sem, s0, s1, s2, s3, s4]) rfl ?_
      refine ⟨some ⟨gr, 0, none⟩, cp, rfl, ?_, ?_⟩
      · obtain ⟨cur, hc, hr⟩ := H.out.r
        have h1 := H.out.n1
        have h2 := H.out.n2
        have h3 := H.out.n3
        refine slOf_rows (gb := gb) (rows := 2) (cols := 8) (cur := cur) ?_ ?_ rfl (by decide) ?_ ?_
        · exact ownsRow_setCell_below (ownsRow_setCell_below (ownsRow_setCell_below (ownsRow_setCell_below (ownsRow_setCell_below (ownsRow_setCell_other (ownsRow_setCell_other H.out.o (by simp [Value.ownBlock]; omega) _) (by simp [Value.ownBlock]; omega) _) (by simp; omega) _) (by simp; omega) _) (by simp; omega) _) (by simp; omega) _) (by simp; omega) _
        · rw [five_other (by omega), Below.heap_setCell _ _ _ _ (by simp; omega), Below.heap_setCell _ _ _ _ (by simp; omega)]; exact hc
        · exact pad_len hs
        · exact pad_cells hs hr
      · exact (((((((H.out.b.setCell (by simp; omega) _).setCell (by simp; omega) _).setCell (Nat.le_refl _) _).setCell (Nat.le_refl _) _).setCell (Nat.le_refl _) _).setCell (Nat.le_refl _) _).setCell (Nat.le_refl _) _)
end Go.Proofs.YtcgaaadcbhkfoaaGreatDoor
