/- The reference's terminal in memory. -/
import Derived.Test.YtgfcnafhfgncoaaDoorVtQ
import Derived.BigRegion
import Derived.BigQuiet
import Derived.StillTailTactics
import Derived.Test.YtgfcnafhfgncoaaDoorVtD
import Derived.Test.YtgfcnafhfgncoaaDoorClone
import Derived.Maps.AppendAt
namespace Go.Proofs.YtgfcnafhfgncoaaDoor
open Go Go.Proofs Go.RowKit Go.Ink

/-- The reference's terminal: its block r; its rows, each in a block of its own. -/
structure RtAt (w : World) (r lo g cap : Nat) (bs : List (Nat × Nat)) (t : Tm) : Prop where
  box : w.heap[r]? = some (.cells #[.int .i64 (t.rows : Int), .int .i64 (t.cols : Int), .slice (some ⟨g, 0, none⟩) t.cells.length cap, .int .i64 (t.row : Int), .int .i64 (t.col : Int), .int .i64 (t.esc : Int), .string ⟨t.par.toArray⟩] 38 (0, 0))
  rows : OwnRows w lo (.slice (some ⟨g, 0, none⟩) t.cells.length cap) bs t.cells
  apart : ¬ RowsS (.slice (some ⟨g, 0, none⟩) t.cells.length cap) bs r
  lo : lo ≤ r
def RtS (r g cap n : Nat) (bs : List (Nat × Nat)) (i : Nat) : Prop := i = r ∨ RowsS (.slice (some ⟨g, 0, none⟩) n cap) bs i
/-- The blocks do not hang on the length. -/
theorem rowsS_len {g cap n m : Nat} {bs : List (Nat × Nat)} {i : Nat} : RowsS (.slice (some ⟨g, 0, none⟩) n cap) bs i ↔ RowsS (.slice (some ⟨g, 0, none⟩) m cap) bs i := Iff.rfl
theorem RtAt.lts {w : World} {r lo g cap : Nat} {bs : List (Nat × Nat)} {t : Tm} (h : RtAt w r lo g cap bs t) : ∀ i, RtS r g cap t.cells.length bs i → lo ≤ i ∧ i < w.heap.size := by
  rintro i (rfl | e)
  · exact ⟨h.lo, lt_of_heap h.box⟩
  · exact h.rows.lt i e
theorem RtAt.kept {w w' : World} {r lo g cap : Nat} {bs : List (Nat × Nat)} {t : Tm} {S : Nat → Prop} (h : RtAt w r lo g cap bs t) (hk : KeepT S w w') (hn : ∀ i, RtS r g cap t.cells.length bs i → ¬ S i) : RtAt w' r lo g cap bs t :=
  ⟨(hk.block r (lt_of_heap h.box) (hn r (.inl rfl))).trans h.box, h.rows.kept hk (fun i hi => hn i (.inr hi)), h.apart, h.lo⟩
theorem RtAt.later {w w' : World} {r lo g cap : Nat} {bs : List (Nat × Nat)} {t : Tm} (h : RtAt w r lo g cap bs t) (hb : Below w.heap.size w w') : RtAt w' r lo g cap bs t :=
  h.kept (S := fun _ => False) (KeepT.of_below hb) (fun _ _ e => e)
theorem RtAt.cells {w : World} {r lo g cap : Nat} {bs : List (Nat × Nat)} {t : Tm} (h : RtAt w r lo g cap bs t) :
    w.cell? ⟨r, 0, none⟩ = some (.int .i64 (t.rows : Int)) ∧ w.cell? ⟨r, 1, none⟩ = some (.int .i64 (t.cols : Int)) ∧ w.cell? ⟨r, 2, none⟩ = some (.slice (some ⟨g, 0, none⟩) t.cells.length cap) ∧ w.cell? ⟨r, 3, none⟩ = some (.int .i64 (t.row : Int)) ∧ w.cell? ⟨r, 4, none⟩ = some (.int .i64 (t.col : Int)) ∧ w.cell? ⟨r, 5, none⟩ = some (.int .i64 (t.esc : Int)) ∧ w.cell? ⟨r, 6, none⟩ = some (.string ⟨t.par.toArray⟩) := by
  have hc := Lib.cell_of_heap h.box
  refine ⟨?_, ?_, ?_, ?_, ?_, ?_, ?_⟩ <;> rw [hc] <;> rfl
theorem RtAt.free {w : World} {r lo g cap : Nat} {bs : List (Nat × Nat)} {t : Tm} (h : RtAt w r lo g cap bs t) (j : Nat) : w.frozen? ⟨r, j, none⟩ = false := Lib.frozen_of_heap h.box j
/-- A word of the terminal is turned. -/
theorem RtAt.word {w : World} {r lo g cap : Nat} {bs : List (Nat × Nat)} {t t' : Tm} {j : Nat} {u : Value} (h : RtAt w r lo g cap bs t) (hc : t'.cells = t.cells)
    (hb : (#[.int .i64 (t.rows : Int), .int .i64 (t.cols : Int), .slice (some ⟨g, 0, none⟩) t.cells.length cap, .int .i64 (t.row : Int), .int .i64 (t.col : Int), .int .i64 (t.esc : Int), .string ⟨t.par.toArray⟩] : Array Value).setIfInBounds j u = #[.int .i64 (t'.rows : Int), .int .i64 (t'.cols : Int), .slice (some ⟨g, 0, none⟩) t.cells.length cap, .int .i64 (t'.row : Int), .int .i64 (t'.col : Int), .int .i64 (t'.esc : Int), .string ⟨t'.par.toArray⟩]) :
    RtAt (w.setCell ⟨r, j, none⟩ u) r lo g cap bs t' := by
  refine ⟨?_, ?_, by rw [hc]; exact h.apart, h.lo⟩
  · rw [heap_set h.box, hb, hc]
  · rw [hc]
    exact h.rows.kept ((KeepT.refl (fun i => i = r) w).setCell (p := ⟨r, j, none⟩) (.inl rfl) u) (fun i hi e => h.apart (e ▸ hi))
/-- A byte of a row is turned. -/
theorem RtAt.put {w : World} {r lo g cap : Nat} {bs : List (Nat × Nat)} {t : Tm} {k j : Nat} {b : Nat × Nat} {l : List UInt8} (h : RtAt w r lo g cap bs t) (hb : bs[k]? = some b) (hl : t.cells[k]? = some l) (hj : j < l.length) (c : UInt8) :
    RtAt (w.setCell ⟨b.1, j, none⟩ (.int .u8 (c.toNat : Int))) r lo g cap bs { t with cells := t.cells.set k (l.set j c) } := by
  have hmem : RowsS (.slice (some ⟨g, 0, none⟩) t.cells.length cap) bs b.1 := .inr (List.mem_map.2 ⟨b, List.mem_of_getElem? hb, rfl⟩)
  have hlen : (t.cells.set k (l.set j c)).length = t.cells.length := by simp
  refine ⟨?_, ?_, by rw [hlen]; exact h.apart, h.lo⟩
  · rw [Below.heap_setCell _ _ _ _ (fun e => h.apart (by have e' : r = b.1 := e; rw [e']; exact hmem)), hlen]
    exact h.box
  · rw [hlen]
    exact h.rows.set hb hl hj c
/-- What a method of the reference's terminal leaves. -/
def RtStep (w : World) (r lo g cap n : Nat) (bs : List (Nat × Nat)) (t' : Tm) (w' : World) : Prop :=
  ∃ g' cap' bs', RtAt w' r lo g' cap' bs' t' ∧ KeepT (RtS r g cap n bs) w w' ∧ ∀ i, RtS r g' cap' t'.cells.length bs' i → RtS r g cap n bs i ∨ w.heap.size ≤ i
theorem RtStep.same {w w' : World} {r lo g cap n : Nat} {bs : List (Nat × Nat)} {t' : Tm} (h : RtAt w' r lo g cap bs t') (hk : KeepT (RtS r g cap n bs) w w') : RtStep w r lo g cap n bs t' w' :=
  ⟨g, cap, bs, h, hk, fun _ e => .inl e⟩
theorem RtStep.trans {w w1 w2 : World} {r lo g cap n : Nat} {bs : List (Nat × Nat)} {t1 t2 : Tm} (h1 : RtStep w r lo g cap n bs t1 w1)
    (h2 : ∀ g1 cap1 bs1, RtAt w1 r lo g1 cap1 bs1 t1 → RtStep w1 r lo g1 cap1 t1.cells.length bs1 t2 w2) : RtStep w r lo g cap n bs t2 w2 := by
  obtain ⟨g1, cap1, bs1, a1, k1, p1⟩ := h1
  obtain ⟨g2, cap2, bs2, a2, k2, p2⟩ := h2 g1 cap1 bs1 a1
  refine ⟨g2, cap2, bs2, a2, k1.trans k2 (fun i hi hs => ?_), fun i e => ?_⟩
  · rcases p1 i hs with h | h
    · exact h
    · omega
  · rcases p2 i e with h | h
    · exact p1 i h
    · exact .inr (Nat.le_trans k1.size h)
theorem RtStep.drewN {w w' : World} {r lo g cap n : Nat} {bs : List (Nat × Nat)} {t' : Tm} (h : RtStep w r lo g cap n bs t' w') (k : Nat) : RtStep w r lo g cap n bs t' (w'.drewN k) := by
  obtain ⟨g', cap', bs', h1, h2, h3⟩ := h
  exact ⟨g', cap', bs', h1.later (below_drewN (Below.refl _ _) k), h2.drewN k, h3⟩
theorem RtAt.step {w : World} {r lo g cap : Nat} {bs : List (Nat × Nat)} {t : Tm} (h : RtAt w r lo g cap bs t) : RtStep w r lo g cap t.cells.length bs t w := RtStep.same h (KeepT.refl _ _)
/-- A word is turned: the step. -/
theorem RtAt.wordS {w : World} {r lo g cap : Nat} {bs : List (Nat × Nat)} {t t' : Tm} {j : Nat} {u : Value} (h : RtAt w r lo g cap bs t) (hc : t'.cells = t.cells)
    (hb : (#[.int .i64 (t.rows : Int), .int .i64 (t.cols : Int), .slice (some ⟨g, 0, none⟩) t.cells.length cap, .int .i64 (t.row : Int), .int .i64 (t.col : Int), .int .i64 (t.esc : Int), .string ⟨t.par.toArray⟩] : Array Value).setIfInBounds j u = #[.int .i64 (t'.rows : Int), .int .i64 (t'.cols : Int), .slice (some ⟨g, 0, none⟩) t.cells.length cap, .int .i64 (t'.row : Int), .int .i64 (t'.col : Int), .int .i64 (t'.esc : Int), .string ⟨t'.par.toArray⟩]) :
    RtStep w r lo g cap t.cells.length bs t' (w.setCell ⟨r, j, none⟩ u) :=
  RtStep.same (h.word hc hb) ((KeepT.refl _ _).setCell (.inl (.inl rfl)) _)
end Go.Proofs.YtgfcnafhfgncoaaDoor
/- The reference's plain, all but the last row's line end. -/
namespace Go.Proofs.YtgfcnafhfgncoaaDoor
open Go Go.Proofs Go.RowKit Go.Ink

theorem rt_self {w : World} {r g cap n : Nat} {bs : List (Nat × Nat)} : ∀ i, RtS r g cap n bs i → RtS r g cap n bs i ∨ w.heap.size ≤ i := fun _ e => .inl e
set_option maxRecDepth 100000 in
theorem refPlain_put {w : World} {r lo g cap : Nat} {bs : List (Nat × Nat)} {t : Tm} (c : UInt8) (h : RtAt w r lo g cap bs t) (hg : t.Good) (h13 : c ≠ 13) (h8 : c ≠ 8) (h10 : c ≠ 10) (hp : 32 ≤ c ∧ c ≤ 126) :
    Calls Tryd.prog 45 #[.pointer (some ⟨r, 0, none⟩), .int .u8 (c.toNat : Int)] w fun e w' => e = .returned (.tuple #[]) ∧ RtStep w r lo g cap t.cells.length bs (t.plain c) w' := by
  have hrow := hg.row
  have hcol := hg.col
  have hcols := hg.cols
  have hrows := hg.rows
  have hmany := hg.many
  obtain ⟨b, l, hb, hl⟩ := h.rows.at (k := t.row) (by omega)
  have hll : l.length = t.cols := hg.each l (List.mem_of_getElem? hl)
  obtain ⟨r7, z7⟩ := h.rows.row hb hl
  obtain ⟨x, hx⟩ : ∃ x, l[t.col]? = some x := ⟨_, List.getElem?_eq_getElem (by omega)⟩
  obtain ⟨q7, y7⟩ := h.rows.byte hb hl hx
  unfold rowVal at r7
  have e2 : t.cells.getD t.row [] = l := by rw [List.getD_eq_getElem?_getD, hl]; rfl
  have e3 : t.plain c = { t with cells := t.cells.set t.row (l.set t.col c), col := min (t.col + 1) (t.cols - 1) } := by
    unfold Tm.plain Tm.putAt; rw [if_neg h13, if_neg h8, if_neg h10, if_pos hp, e2]
  have hmem : RtS r g cap t.cells.length bs b.1 := .inr (.inr (List.mem_map.2 ⟨b, List.mem_of_getElem? hb, rfl⟩))
  have hne : ¬ r = b.1 := fun e => h.apart (by have : RowsS (.slice (some ⟨g, 0, none⟩) t.cells.length cap) bs b.1 := .inr (List.mem_map.2 ⟨b, List.mem_of_getElem? hb, rfl⟩); rw [e]; exact this)
  have hne' : ¬ b.1 = r := fun e => hne e.symm
  have hd : ∀ n, RtAt (w.drewN n) r lo g cap bs t := fun n => h.later (below_drewN (Below.refl _ _) n)
  have HM : Hid (∀ n m x, x = min ((t.col : Int) + 1) ((t.cols : Int) - 1) → RtStep w r lo g cap t.cells.length bs (t.plain c) ((((w.drewN n).setCell ⟨b.1, t.col, none⟩ (.int .u8 (c.toNat : Int))).drewN m).setCell ⟨r, 4, none⟩ (.int .i64 x))) := Lib.hid fun n m x hx => by
    have hc4 : x = ((min (t.col + 1) (t.cols - 1) : Nat) : Int) := by omega
    subst hc4
    rw [e3]
    have h1 := (hd n).put hb hl (show t.col < l.length by omega) c
    have h2 := h1.later (below_drewN (Below.refl _ _) m)
    refine RtStep.same (h2.word (t' := { t with cells := t.cells.set t.row (l.set t.col c), col := min (t.col + 1) (t.cols - 1) }) rfl rfl) ?_
    exact ((((KeepT.refl _ _).drewN n).setCell (.inl hmem) _).drewN m).setCell (.inl (.inl rfl)) _
  have HB : Hid (∀ n, RtAt ((w.drewN n).setCell ⟨b.1, t.col, none⟩ (.int .u8 (c.toNat : Int))) r lo g cap bs { t with cells := t.cells.set t.row (l.set t.col c) }) := Lib.hid fun n => (hd n).put hb hl (show t.col < l.length by omega) c
  obtain ⟨c0, c1, c2, c3, c4, c5, c6⟩ := h.cells
  have e13 : ((c.toNat : Int) == 13) = false := byte_ne 13 h13
  have e8 : ((c.toNat : Int) == 8) = false := byte_ne 8 h8
  have e10 : ((c.toNat : Int) == 10) = false := byte_ne 10 h10
  have hlo : (32 : Int) ≤ (c.toNat : Int) := byte_le 32 hp.1
  have hhi : (c.toNat : Int) ≤ 126 := by have := UInt8.le_iff_toNat_le.1 hp.2; have e : (126 : UInt8).toNat = 126 := rfl; omega
  have i1 : (t.row : Int) < (t.cells.length : Int) := by omega
  have i2 : (t.col : Int) < (l.length : Int) := by omega
  have i3 : (t.col : Int) + 1 ≤ 132 := by omega
  have i4 : (t.cols : Int) ≤ 132 := by omega
  have i5 : t.row < t.cells.length := by omega
  have i6 : t.col < l.length := by omega
  clear h hg h13 h8 h10 hp c0 c5 c6 hl hb hx hll e2 e3 hmem hd hmany hrow hcol hcols hrows
  go_enter Tryd.func45, Tryd.ntmps45
  go_wp2_with fail
  go_still_tail 19, (by kernel_rfl)
  go_wp2_with fail
  obtain ⟨wx, hwx⟩ : ∃ wx, (w.setCell ⟨b.1, t.col, none⟩ (.int .u8 (c.toNat : Int))).drew = wx := ⟨_, rfl⟩
  rw [hwx]
  have hwx' : (w.drewN 1).setCell ⟨b.1, t.col, none⟩ (.int .u8 (c.toNat : Int)) = wx := by rw [← hwx]; rfl
  have hq := HB.out 1
  rw [hwx'] at hq
  obtain ⟨c0, c1, c2, c3, c4, c5, c6⟩ := hq.cells
  have cf4 := hq.free 4
  have HM2 : Hid (∀ m x, x = min ((t.col : Int) + 1) ((t.cols : Int) - 1) → RtStep w r lo g cap t.cells.length bs (t.plain c) ((wx.drewN m).setCell ⟨r, 4, none⟩ (.int .i64 x))) := Lib.hid fun m x hx => by
    have := HM.out 1 m x hx
    rw [hwx'] at this
    exact this
  clear hwx hwx' hq c0 c2 c3 c5 c6
  go_still_tail 17, (by kernel_rfl)
  go_wp2_with fail
  all_goals
    go_quiet (fail)
    go_wp2_with fail
    go_returns
    exact ⟨rfl, (HM2.out 0 _ rfl).drewN _⟩
set_option maxRecDepth 100000 in
theorem refPlain_cr {w : World} {r lo g cap : Nat} {bs : List (Nat × Nat)} {t : Tm} (h : RtAt w r lo g cap bs t) :
    Calls Tryd.prog 45 #[.pointer (some ⟨r, 0, none⟩), .int .u8 13] w fun e w' => e = .returned (.tuple #[]) ∧ RtStep w r lo g cap t.cells.length bs (t.plain 13) w' := by
  obtain ⟨c0, c1, c2, c3, c4, c5, c6⟩ := h.cells
  have cf4 := h.free 4
  have HF : Hid (RtStep w r lo g cap t.cells.length bs (t.plain 13) (w.setCell ⟨r, 4, none⟩ (.int .i64 0))) := Lib.hid (by
    unfold Tm.plain
    rw [if_pos rfl]
    exact h.wordS (t' := { t with col := 0 }) rfl rfl)
  clear h
  go_enter Tryd.func45, Tryd.ntmps45
  go_wp2_with fail
  go_quiet (fail)
  go_wp2_with fail
  go_returns
  exact ⟨rfl, HF.out.drewN _⟩
set_option maxRecDepth 100000 in
theorem refPlain_bs {w : World} {r lo g cap : Nat} {bs : List (Nat × Nat)} {t : Tm} (h : RtAt w r lo g cap bs t) (hg : t.Good) :
    Calls Tryd.prog 45 #[.pointer (some ⟨r, 0, none⟩), .int .u8 8] w fun e w' => e = .returned (.tuple #[]) ∧ RtStep w r lo g cap t.cells.length bs (t.plain 8) w' := by
  obtain ⟨c0, c1, c2, c3, c4, c5, c6⟩ := h.cells
  have cf4 := h.free 4
  have i1 : (t.col : Int) ≤ 132 := by have h1 := hg.col; have h2 := hg.cols; omega
  have HF : Hid (∀ x, x = max ((t.col : Int) - 1) 0 → RtStep w r lo g cap t.cells.length bs (t.plain 8) (w.setCell ⟨r, 4, none⟩ (.int .i64 x))) := Lib.hid (by
    intro x hx
    have hx' : x = ((t.col - 1 : Nat) : Int) := by omega
    subst hx'
    unfold Tm.plain
    rw [if_neg (by decide), if_pos rfl]
    exact h.wordS (t' := { t with col := t.col - 1 }) rfl rfl)
  clear h hg
  go_enter Tryd.func45, Tryd.ntmps45
  go_wp2_with fail
  go_quiet (fail)
  go_wp2_with fail
  go_returns
  exact ⟨rfl, (HF.out _ rfl).drewN _⟩
set_option maxRecDepth 100000 in
theorem refPlain_more {w : World} {r lo g cap : Nat} {bs : List (Nat × Nat)} {t : Tm} (h : RtAt w r lo g cap bs t) (hg : t.Good) (hr : t.row + 1 < t.rows) :
    Calls Tryd.prog 45 #[.pointer (some ⟨r, 0, none⟩), .int .u8 10] w fun e w' => e = .returned (.tuple #[]) ∧ RtStep w r lo g cap t.cells.length bs (t.plain 10) w' := by
  obtain ⟨c0, c1, c2, c3, c4, c5, c6⟩ := h.cells
  have h60 := hg.rows.2
  have hlt : (t.row : Int) < (t.rows : Int) - 1 := by omega
  have HF : Hid (∀ n, RtStep w r lo g cap t.cells.length bs (t.plain 10) ((w.drewN n).setCell ⟨r, 3, none⟩ (.int .i64 ((t.row : Int) + 1)))) := Lib.hid (by
    intro n
    have e : t.plain 10 = { t with row := t.row + 1 } := by
      unfold Tm.plain
      rw [if_neg (by decide), if_neg (by decide), if_pos rfl]
      unfold Tm.down
      rw [if_pos hr]
    rw [e]
    exact RtStep.same ((h.later (below_drewN (Below.refl _ _) n)).word (t' := { t with row := t.row + 1 }) rfl rfl) (((KeepT.refl _ _).drewN n).setCell (.inl (.inl rfl)) _))
  have HC : Hid (∀ n, (w.drewN n).frozen? ⟨r, 3, none⟩ = false) := Lib.hid (fun n => (h.later (below_drewN (Below.refl _ _) n)).free 3)
  have cf3 := h.free 3
  clear h hg hr
  go_enter Tryd.func45, Tryd.ntmps45
  go_wp2_with fail
  go_quiet (fail)
  go_wp2_with fail
  go_returns
  exact ⟨rfl, HF.out _⟩
set_option maxRecDepth 100000 in
theorem refPlain_no {w : World} {r lo g cap : Nat} {bs : List (Nat × Nat)} {t : Tm} (c : UInt8) (h : RtAt w r lo g cap bs t) (h13 : c ≠ 13) (h8 : c ≠ 8) (h10 : c ≠ 10) (hp : ¬ (32 ≤ c ∧ c ≤ 126)) :
    Calls Tryd.prog 45 #[.pointer (some ⟨r, 0, none⟩), .int .u8 (c.toNat : Int)] w fun e w' => e = .returned (.tuple #[]) ∧ RtStep w r lo g cap t.cells.length bs (t.plain c) w' := by
  have HF : Hid (RtStep w r lo g cap t.cells.length bs (t.plain c) w) := Lib.hid (by
    unfold Tm.plain
    rw [if_neg h13, if_neg h8, if_neg h10, if_neg hp]
    exact h.step)
  have e13 : ((c.toNat : Int) == 13) = false := byte_ne 13 h13
  have e8 : ((c.toNat : Int) == 8) = false := byte_ne 8 h8
  have e10 : ((c.toNat : Int) == 10) = false := byte_ne 10 h10
  clear h
  by_cases hlo : (32 : Int) ≤ (c.toNat : Int)
  · have hhi : ¬ (c.toNat : Int) ≤ 126 := fun e => hp ⟨UInt8.le_iff_toNat_le.2 (by show 32 ≤ c.toNat; omega), UInt8.le_iff_toNat_le.2 (by show c.toNat ≤ 126; omega)⟩
    clear hp h13 h8 h10
    go_enter Tryd.func45, Tryd.ntmps45
    go_wp2_with fail
    go_quiet (fail)
    go_wp2_with fail
    go_returns
    exact ⟨rfl, HF.out.drewN _⟩
  · clear hp h13 h8 h10
    go_enter Tryd.func45, Tryd.ntmps45
    go_wp2_with fail
    go_quiet (fail)
    go_wp2_with fail
    go_returns
    exact ⟨rfl, HF.out.drewN _⟩
end Go.Proofs.YtgfcnafhfgncoaaDoor
/- A header of rows that is made anew, without the first row. -/
namespace Go.Proofs.YtgfcnafhfgncoaaDoor
open Go Go.Proofs Go.RowKit Go.Ink

theorem rowVals_drop (bs : List (Nat × Nat)) (cells : List (List UInt8)) (k : Nat) : (rowVals bs cells).drop k = rowVals (bs.drop k) (cells.drop k) := by
  unfold rowVals; rw [List.drop_zipWith]
/-- The rows but the first, behind a header of their own. -/
theorem OwnRows.tail {w w' : World} {lo : Nat} {v v' : Value} {bs : List (Nat × Nat)} {cells : List (List UInt8)} (h : OwnRows w lo v bs cells) (hb : Below w.heap.size w w')
    (hrows : w'.ownsRow lo 39 1 v' (cells.length - 1) (rowVals (bs.drop 1) (cells.drop 1))) : OwnRows w' lo v' (bs.drop 1) (cells.drop 1) := by
  have hlen := h.len
  refine ⟨by simp [hlen], ?_, by rw [List.length_drop, ← hlen]; exact hrows, fun b hbm => h.ge b (List.mem_of_mem_drop hbm), fun k b l hbk hlk => ?_⟩
  · rw [List.map_drop]
    exact h.nodup.sublist (List.drop_sublist _ _)
  · rw [List.getElem?_drop] at hbk hlk
    obtain ⟨h1, h2, cs, h3, h4⟩ := h.bytes _ b l hbk hlk
    exact ⟨h1, h2, cs, (hb.block b.1 (lt_of_heap h3)).trans h3, h4⟩
/-- An empty row of slices, just made. -/
theorem own_empty (w : World) (lo : Nat) (hlo : lo ≤ w.heap.size) : (w.alloc (.cells #[] 39)).ownsRow lo 39 1 (.slice (some ⟨w.heap.size, 0, none⟩) 0 0) 0 [] :=
  ⟨rfl, .inr ⟨w.heap.size, 0, #[], rfl, hlo, heap_alloc_new w _, Nat.le_refl _, Nat.zero_le _, rfl, rfl⟩⟩
/-- The header's cells behind the first, as append reads them. -/
theorem OwnRows.rest {w : World} {lo g n cap : Nat} {bs : List (Nat × Nat)} {cells : List (List UInt8)} (h : OwnRows w lo (.slice (some ⟨g, 0, none⟩) n cap) bs cells) :
    ∀ j u, (rowVals (bs.drop 1) (cells.drop 1))[j]? = some u → w.cell? ((⟨g, 1, none⟩ : Addr).add j) = some u := by
  intro j u hu
  rw [← rowVals_drop, List.getElem?_drop] at hu
  have hlen := h.len
  have hj : 1 + j < cells.length := by have := (List.getElem?_eq_some_iff.1 hu).1; rw [rowVals_len hlen] at this; omega
  obtain ⟨b, l, hb, hl⟩ := h.at hj
  rw [rowVals_at hb hl] at hu
  rw [← Option.some.inj hu]
  have := (h.row hb hl).1
  rw [← this]
  exact congrArg w.cell? (by simp [Addr.add])
theorem rowVals_one {bs : List (Nat × Nat)} {cells : List (List UInt8)} : ∀ u ∈ rowVals bs cells, u.oneCell' = true := by
  intro u hu
  unfold rowVals at hu
  obtain ⟨i, hi⟩ := List.getElem?_of_mem hu
  rw [List.getElem?_zipWith] at hi
  split at hi
  · injection hi with hi
    rw [← hi]; rfl
  · cases hi
/-- Cells that are filled one by one. -/
def fillV (n j : Nat) : List Value := List.replicate j (.int .u8 32) ++ List.replicate (n - j) (.int .u8 0)
theorem fillV_set {n j : Nat} (h : j < n) : (fillV n j).set j (.int .u8 32) = fillV n (j + 1) := by
  unfold fillV
  refine List.ext_getElem? fun i => ?_
  by_cases e : j = i
  · subst e
    rw [List.getElem?_set_self (by simp; omega), List.getElem?_append_left (by simp), List.getElem?_replicate, if_pos (by omega)]
  · rw [List.getElem?_set_ne e]
    rcases Nat.lt_or_ge i j with h1 | h1
    · rw [List.getElem?_append_left (by simpa using h1), List.getElem?_append_left (by simp; omega), List.getElem?_replicate, List.getElem?_replicate, if_pos h1, if_pos (by omega)]
    · rw [List.getElem?_append_right (by simpa using h1), List.getElem?_append_right (by simp; omega), List.getElem?_replicate, List.getElem?_replicate]
      simp only [List.length_replicate]
      by_cases h2 : i < n
      · rw [if_pos (by omega), if_pos (by omega)]
      · rw [if_neg (by omega), if_neg (by omega)]
theorem fillV_len (n j : Nat) (h : j ≤ n) : (fillV n j).length = n := by unfold fillV; simp; omega
theorem fillV_all (n : Nat) : fillV n n = (blankL n).map byteV := by unfold fillV blankL byteV; simp
end Go.Proofs.YtgfcnafhfgncoaaDoor
/- The reference's plain at the last row's line end. -/
namespace Go.Proofs.YtgfcnafhfgncoaaDoor
open Go Go.Proofs Go.RowKit Go.Ink

set_option maxRecDepth 100000 in
set_option maxHeartbeats 1000000 in
theorem refPlain_last {w : World} {r lo g cap : Nat} {bs : List (Nat × Nat)} {t : Tm} (h : RtAt w r lo g cap bs t) (hg : t.Good) (hr : ¬ t.row + 1 < t.rows) :
    Calls Tryd.prog 45 #[.pointer (some ⟨r, 0, none⟩), .int .u8 10] w fun e w' => e = .returned (.tuple #[]) ∧ RtStep w r lo g cap t.cells.length bs (t.plain 10) w' := by
  obtain ⟨i0, hi, hz0, hz1, hz2⟩ := info_parts cl_info
  obtain ⟨i1, hi1, hy0, hy1, hy2⟩ := info_parts cl_info1
  obtain ⟨c0, c1, c2, c3, c4, c5, c6⟩ := h.cells
  have h60 := hg.rows
  have hge : ¬ (t.row : Int) < (t.rows : Int) - 1 := by have := hg.row; omega
  have hln : (1 : Int) ≤ (t.cells.length : Int) := by have := hg.many; omega
  have H := Lib.hid h
  have HG := Lib.hid hg
  clear h hg hr
  go_enter Tryd.func45, Tryd.ntmps45
  go_wp2_with fail
  go_quiet (fail)
  have hb1 := below_drewN (Below.refl w.heap.size w) nq
  have H1 := Lib.hid (H.out.later hb1)
  have HB1 := Lib.hid hb1
  have HZ1 : Hid ((w.drewN nq).heap.size = w.heap.size) := Lib.hid rfl
  generalize w.drewN nq = w1 at *
  have hb2 := (Below.refl w1.heap.size w1).alloc (Nat.le_refl _) (.cells #[] 39)
  obtain ⟨-, e1, e2, -, -, -, -⟩ := (H1.out.later hb2).cells
  have HOE := Lib.hid (own_empty w1 w1.heap.size (Nat.le_refl _))
  have HRS := Lib.hid ((H1.out.later hb2).rows.rest)
  have hlen := H.out.rows.len
  have HRL : Hid ((rowVals (bs.drop 1) (t.cells.drop 1)).length = t.cells.length - 1) := Lib.hid (by rw [rowVals_len (by simp [hlen]), List.length_drop, hlen])
  have HLN : Hid (t.cells.length = t.rows) := Lib.hid HG.out.many
  have hn60 : t.cells.length ≤ 60 := by rw [HLN.out]; exact h60.2
  have hn1 : 2 ≤ t.cells.length := by rw [HLN.out]; exact h60.1
  have hcc : t.cells.length ≤ cap := H.out.rows.sl.1
  have hc1 : ¬ cap = 1 := by omega
  have hc2 : ¬ cap - 1 = 0 := by omega
  have hc3 : (t.cells.length : Int) ≤ (cap : Int) := by omega
  clear hb1 hb2 c0 c1 c2 c3 c4 c5 c6 hlen
  go_wp2_with (at_builtin; refine wpList_append_own_at _ rfl (.tmp 95) (.tmp 101) 32 rfl w1.heap.size 39 i0 (.slice none 0 0) 1 24 Tryd.underlying32 hi hz0 hz1 hz2 rfl (by decide) _ 0 [] rfl HOE.out ⟨g, 1, none⟩ (t.cells.length - 1) (cap - 1) (rowVals (bs.drop 1) (t.cells.drop 1)) rfl (by rw [HRL.out]; omega) HRS.out rowVals_one (by unfold maxLen; omega) (by omega) (by simp) ?_)
  intro v1 w2 hown1 hgrow1 hnn hat1
  clear hat1
  have hb2 : Below w1.heap.size w1 w2 := ((Below.refl w1.heap.size w1).alloc (Nat.le_refl _) _).grown hgrow1 (by simp) (fun j hj => by simp [Value.ownBlock] at hj; omega)
  obtain ⟨-, hr1⟩ := id hown1
  rcases hr1 with ⟨e, -⟩ | ⟨g1, cp1, cur1, rfl, hg1, -, -, -, -, -⟩
  · exact absurd e hnn
  have HO2 : Hid (OwnRows w2 lo (.slice (some ⟨g1, 0, none⟩) (t.cells.length - 1) cp1) (bs.drop 1) (t.cells.drop 1)) := Lib.hid (H1.out.rows.tail hb2 (by
    refine ownsRow_base (by simpa using hown1) ?_
    have := H1.out.lo; have := lt_of_heap H1.out.box; omega))
  have H2 := Lib.hid (H1.out.later hb2)
  have HB2 := Lib.hid (HB1.out.trans (hb2.mono (by rw [HZ1.out]; exact Nat.le_refl _)))
  have HG1 : Hid (w.heap.size ≤ g1) := Lib.hid (by rw [← HZ1.out]; exact hg1)
  obtain ⟨-, d1, -, -, -, -, -⟩ := H2.out.cells
  have hbm : i1.bytes * t.cols ≤ 281474976710656 := by rw [hy2]; have := HG.out.cols; omega
  have HBM := Lib.hid hbm
  have hcols : t.cols ≤ 132 := HG.out.cols.2
  clear hown1 hgrow1 hnn hb2 hg1 e1 e2 HOE HRS hbm
  go_wp2_with (at_make; refine wpList_make_row _ rfl _ _ 39 rfl 5 i1 (.int .u8 0) Tryd.underlying39 hi1 hy0 hy1 rfl .i64 .i64 t.cols rfl rfl HBM.out (by omega) ?_)
  clear d1
  go_loopw [6] (fun i wr => ∃ j : Nat, i = .int .i64 j ∧ j ≤ t.cols ∧ Hid (wr.heap[w2.heap.size]? = some (.cells (fillV t.cols j).toArray 5 (0, 0))) ∧ Hid (KeepT (fun i => i = w2.heap.size) w2 wr)) (fun i _ => t.cols - (intOf i).toNat)
  case atStart => exact ⟨0, rfl, by omega, Lib.hid (by rw [heap_alloc_new]; simp [fillV, made_eq]), Lib.hid ((KeepT.refl _ _).alloc _)⟩
  case round =>
    obtain ⟨j, rfl, hj, HL, HK⟩ := hrel
    obtain ⟨-, d1, d2, -, -, -, -⟩ := (H2.out.kept HK.out (fun i hi e => by have := (H2.out.lts i hi).2; omega)).cells
    by_cases hlt : j < t.cols
    · have hlti : (j : Int) < (t.cols : Int) := by omega
      obtain ⟨u, hu⟩ : ∃ u, wr.cell? ⟨w2.heap.size, j, none⟩ = some u := ⟨_, by rw [Lib.cell_of_heap HL.out, Array.getElem?_eq_getElem (by rw [List.size_toArray, fillV_len _ _ hj]; exact hlt)]⟩
      have hfz := Lib.frozen_of_heap HL.out j
      have HL2 := Lib.hid (heap_set (j := j) HL.out (.int .u8 32))
      have HK2 := Lib.hid (HK.out.setCell (p := ⟨w2.heap.size, j, none⟩) (.inl rfl) (.int .u8 32))
      go_wp2_with fail
      go_roundw
      case rel => exact ⟨j + 1, by go_num, by omega, Lib.hid (by rw [HL2.out, List.setIfInBounds_toArray, fillV_set hlt]), HK2⟩
      case measure => simp [intOf]; omega
    · obtain rfl : j = t.cols := by omega
      have hb3 : Below w2.heap.size w2 wr := HK.out.below (Nat.le_refl _) (fun i e => by omega)
      have H3 := Lib.hid (H2.out.later hb3)
      have HO3 := Lib.hid (HO2.out.later hb3)
      have HB3 := Lib.hid (HB2.out.trans (hb3.mono HB2.out.size))
      have HOW : Hid (wr.ownsRow lo 39 1 (.slice (some ⟨g1, 0, none⟩) (t.cells.length - 1) cp1) (t.cells.length - 1) (rowVals (bs.drop 1) (t.cells.drop 1))) := Lib.hid (by
        have h := HO3.out.rows
        have e := HO3.out.len
        rw [List.length_drop] at e
        rw [← e] at h
        exact h)
      have hlo : lo ≤ wr.heap.size := by have := H3.out.lo; have := lt_of_heap H3.out.box; omega
      go_wp2_with (at_builtin; refine wpList_append_own_at _ rfl (.tmp 122) (.tmp 124) 32 rfl lo 39 i0 (.slice none 0 0) 1 24 Tryd.underlying32 hi hz0 hz1 hz2 rfl (by decide) _ (t.cells.length - 1) (rowVals (bs.drop 1) (t.cells.drop 1)) rfl (HOW.out.alloc _) ⟨wr.heap.size, 0, none⟩ 1 1 [.slice (some ⟨w2.heap.size, 0, none⟩) t.cols t.cols] rfl rfl (news_one _ _ _) (news_ok rfl) (by unfold maxLen; omega) (by omega) (by simp; omega) ?_)
      intro v3 w4 hown3 hgrow3 hnn3 hat3
      obtain ⟨-, hr3⟩ := id hown3
      rcases hr3 with ⟨e, -⟩ | ⟨g3, cp3, cur3, rfl, -, -, -, -, -, -⟩
      · exact absurd e hnn3
      have hrw : r < w.heap.size := lt_of_heap H.out.box
      have hg1w : w.heap.size ≤ g1 := HG1.out
      have hL : w.heap.size ≤ w2.heap.size := HB2.out.size
      have hLr : w2.heap.size ≤ wr.heap.size := hb3.size
      have hg1L : g1 < w2.heap.size := (HO2.out.lt g1 (.inl rfl)).2
      have hk4 : KeepT (fun i => i = g1) wr w4 := ((KeepT.refl _ _).alloc _).grown hgrow3 (fun k e => by simp [Value.ownBlock] at e; exact .inl e.symm)
      have hb4 : Below w.heap.size w w4 := HB3.out.trans (hk4.below HB3.out.size (fun i e => by omega))
      have hL4 : w4.heap[w2.heap.size]? = some (.cells ((blankL t.cols).map byteV).toArray 5 (0, 0)) := by
        rw [hk4.block _ (lt_of_heap HL.out) (by omega), HL.out, fillV_all]
      have hbl : (blankL t.cols).length = t.cols := by simp [blankL]
      have HO4 : Hid (OwnRows w4 lo (.slice (some ⟨g3, 0, none⟩) (t.cells.length - 1 + 1) cp3) (bs.drop 1 ++ [(w2.heap.size, t.cols)]) (t.cells.drop 1 ++ [blankL t.cols])) := Lib.hid (by
        refine HO3.out.snoc hk4 (fun i _ e => by rw [e]; rfl) ?_ ?_ ?_ ⟨by rw [hbl]; exact Nat.le_refl _, by show t.cols ≤ maxLen; unfold maxLen; omega, _, hL4, fun j c hj => ?_⟩
        · have e := HO3.out.len
          rw [List.length_drop] at e
          rw [← e]
          have : rowVal (w2.heap.size, t.cols) (blankL t.cols) = .slice (some ⟨w2.heap.size, 0, none⟩) t.cols t.cols := by unfold rowVal; rw [hbl]
          rw [this, List.drop_one, List.drop_one]
          exact hown3
        · show lo ≤ w2.heap.size
          have := H.out.lo; omega
        · intro hm
          have := (HO2.out.lt _ (.inr hm)).2
          exact Nat.lt_irrefl _ this
        · simp only [List.getElem?_toArray, List.getElem?_map, hj]; rfl)
      have hbox4 := (hk4.block r (lt_of_heap H3.out.box) (by omega)).trans H3.out.box
      obtain ⟨s2⟩ : Nonempty (w4.cell? ⟨r, 2, none⟩ = some (.slice (some ⟨g, 0, none⟩) t.cells.length cap)) := ⟨by rw [Lib.cell_of_heap hbox4]; rfl⟩
      have f2 := Lib.frozen_of_heap hbox4 2
      have hg3 : w.heap.size ≤ g3 := by
        simp [Value.ownBlock] at hat3
        rcases hat3 with e | e <;> omega
      have hln3 : (t.cells.drop 1 ++ [blankL t.cols]).length = t.cells.length - 1 + 1 := by simp
      have hnew : ∀ i, RowsS (.slice (some ⟨g3, 0, none⟩) (t.cells.length - 1 + 1) cp3) (bs.drop 1 ++ [(w2.heap.size, t.cols)]) i → i ∈ bs.map (·.1) ∨ w.heap.size ≤ i := by
        intro i e
        rcases e with e | e
        · simp [Value.ownBlock] at e; omega
        · rw [List.map_append, List.mem_append] at e
          rcases e with e | e
          · obtain ⟨b, hb, rfl⟩ := List.mem_map.1 e
            exact .inl (List.mem_map.2 ⟨b, List.mem_of_mem_drop hb, rfl⟩)
          · simp at e; subst e; exact .inr hL
      have HF : Hid (RtStep w r lo g cap t.cells.length bs (t.plain 10) (w4.setCell ⟨r, 2, none⟩ (.slice (some ⟨g3, 0, none⟩) (t.cells.length - 1 + 1) cp3))) := Lib.hid (by
        have hr : ¬ t.row + 1 < t.rows := by omega
        have e : t.plain 10 = { t with cells := t.cells.drop 1 ++ [blankL t.cols] } := by
          unfold Tm.plain
          rw [if_neg (by decide), if_neg (by decide), if_pos rfl, down_last t hr]
        rw [e]
        have hap : ¬ RowsS (.slice (some ⟨g3, 0, none⟩) (t.cells.length - 1 + 1) cp3) (bs.drop 1 ++ [(w2.heap.size, t.cols)]) r := fun e => by
          rcases hnew r e with h | h
          · exact H.out.apart (.inr h)
          · omega
        refine ⟨g3, cp3, bs.drop 1 ++ [(w2.heap.size, t.cols)], ⟨?_, ?_, ?_, H.out.lo⟩, (KeepT.of_below hb4).setCell (.inl (.inl rfl)) _, fun i e => ?_⟩
        · rw [heap_set hbox4, hln3]; rfl
        · rw [hln3]
          exact HO4.out.kept ((KeepT.refl (fun i => i = r) w4).setCell (p := ⟨r, 2, none⟩) (.inl rfl) _) (fun i hi e => hap (e ▸ hi))
        · rw [hln3]; exact hap
        · rcases e with e | e
          · exact .inl (.inl e)
          · rw [hln3] at e
            rcases hnew i e with h | h
            · exact .inl (.inr (.inr h))
            · exact .inr h)
      clear hown3 hgrow3 hnn3 hat3 hrw hg1w hL hLr hg1L hk4 hb4 hL4 hbl hbox4 hg3 hln3 hnew hb3 hlo
      go_wp2_with fail
      go_returns
      exact ⟨rfl, HF.out⟩
end Go.Proofs.YtgfcnafhfgncoaaDoor
