/- The walk of grids.New. -/
import Derived.Test.YtcgaaadcbhkfoaaGreatDoorRepeat
import Derived.Test.YtcgaaadcbhkfoaaGreatDoorGrid2
namespace Go.Proofs.YtcgaaadcbhkfoaaGreatDoor
open Go Go.Proofs Go.RowKit Go.Ink

theorem bytes_info : (Tryz.prog.info? 37).map (fun i => (i.zero, i.size, i.bytes)) = some (some (.slice none 0 0), 1, 24) := by kernel_rfl

/-- Row i of a new grid's cells. -/
def rowV (gb cols i : Nat) : Value := .slice (some ⟨gb, i * cols, none⟩) cols cols
def rowsV (gb cols k : Nat) : List Value := (List.range k).map (rowV gb cols)
theorem rowsV_succ (gb cols k : Nat) : rowsV gb cols (k + 1) = rowsV gb cols k ++ [rowV gb cols k] := by simp [rowsV, List.range_succ]
theorem rowsV_length (gb cols k : Nat) : (rowsV gb cols k).length = k := by simp [rowsV]
theorem rowV_one (gb cols k : Nat) : ∀ u ∈ [rowV gb cols k], u.oneCell' = true := by intro u hu; simp at hu; subst hu; rfl

/-- A new grid's memory: all its bytes in block gb, its rows' slices owned by v. -/
structure NewGrid (w w' : World) (rows cols : Nat) (gb : Nat) (v : Value) : Prop where
  fresh : w.heap.size ≤ gb
  bytes : RowAt w' gb (rows * cols) (rows * cols) 32
  rows : w'.ownsRow (gb + 1) 37 1 v rows (rowsV gb cols rows)
  below : Below w.heap.size w w'
def NewPost (w : World) (rows cols : Nat) (e : Ending) (w' : World) : Prop :=
  ∃ gb v, e = .returned (.tuple #[.agg #[.int .i64 rows, .int .i64 cols, v, .int .i64 0, .int .i64 0], .int .i64 0]) ∧ NewGrid w w' rows cols gb v

set_option maxRecDepth 100000 in
set_option maxHeartbeats 400000 in
theorem new_no (m n : Int) (w : World) (hno : sizedB m n = false) :
    Calls Tryz.prog 13 #[.int .i64 m, .int .i64 n] w
      fun e w' => e = .returned (.tuple #[.agg #[.int .i64 0, .int .i64 0, .slice none 0 0, .int .i64 0, .int .i64 0], .int .i64 2]) ∧ Below w.heap.size w w' := by
  have HNO := Lib.hid hno; clear hno
  go_enter Tryz.func13, Tryz.ntmps13
  go_wp2_with fail
  refine (sized_any _ _ _).mono ?_
  rintro e w1 ⟨rfl, rfl⟩
  rw [HNO.out]
  go_wp2_with fail
  go_returns
  exact ⟨rfl, (Below.refl _ _).alloc (Nat.le_refl _) _⟩

theorem three {w : World} (o1 o2 o3 : Obj) : (((w.alloc o1).alloc o2).alloc o3).heap[w.heap.size]? = some o1 ∧ (((w.alloc o1).alloc o2).alloc o3).heap[w.heap.size + 1]? = some o2 ∧ Below w.heap.size w (((w.alloc o1).alloc o2).alloc o3) ∧ (((w.alloc o1).alloc o2).alloc o3).heap.size = w.heap.size + 3 := by
  refine ⟨?_, ?_, (((Below.refl _ _).alloc (Nat.le_refl _) _).alloc (by simp) _).alloc (by simp <;> omega) _, by simp⟩
  · show (((w.heap.push o1).push o2).push o3)[w.heap.size]? = _
    rw [Array.getElem?_push, if_neg (by simp; omega), Array.getElem?_push, if_neg (by simp), Array.getElem?_push, if_pos rfl]
  · show (((w.heap.push o1).push o2).push o3)[w.heap.size + 1]? = _
    rw [Array.getElem?_push, if_neg (by simp), Array.getElem?_push, if_pos (by simp)]

/-- What stands at the head of New's loop. -/
structure NewAt (w wr : World) (rows cols N gb k : Nat) (v : Value) : Prop where
  a : wr.heap[w.heap.size]? = some (.cells #[.int .i64 0, .int .i64 0, .slice none 0 0, .int .i64 0, .int .i64 0] 24 (0, 0))
  g : wr.heap[w.heap.size + 1]? = some (.cells #[.int .i64 rows, .int .i64 cols, v, .int .i64 0, .int .i64 0] 24 (0, 0))
  r : RowAt wr gb N N 32
  o : wr.ownsRow (gb + 1) 37 1 v k (rowsV gb cols k)
  b : Below w.heap.size w wr
  z : gb < wr.heap.size
theorem NewAt.next {w wr w5 : World} {rows cols N gb k : Nat} {v v' : Value} {ob : Obj} (h : NewAt w wr rows cols N gb k v) (hgb : w.heap.size + 3 ≤ gb) (hg : (wr.alloc ob).drew.grownBy w5 v.ownBlock)
    (ho : w5.ownsRow (gb + 1) 37 1 v' (k + 1) (rowsV gb cols k ++ [rowV gb cols k])) : NewAt w (w5.setCell ⟨w.heap.size + 1, 2, none⟩ v') rows cols N gb (k + 1) v' := by
  obtain ⟨a, g, r, o, b, z⟩ := h
  have hold : ∀ j, j < gb + 1 → j < wr.heap.size → w5.heap[j]? = wr.heap[j]? := fun j h1 h2 =>
    (hg.block j (by simp; omega) (fun e => ownsRow_ne o h1 e.symm)).trans (Below.heap_alloc wr _ _ h2)
  have h0 : w.heap.size < wr.heap.size := (Array.getElem?_eq_some_iff.1 a).1
  have h1 : w.heap.size + 1 < wr.heap.size := (Array.getElem?_eq_some_iff.1 g).1
  refine ⟨?_, ?_, ?_, ?_, ?_, ?_⟩
  · rw [Below.heap_setCell _ _ _ _ (by simp), hold _ (by omega) h0]; exact a
  · have := (hold _ (by omega) h1).trans g
    simp [World.setCell, Array.getElem?_modify, this]
  · obtain ⟨cur, hc, hr⟩ := r
    exact ⟨cur, by rw [Below.heap_setCell _ _ _ _ (by simp; omega), hold _ (by omega) z]; exact hc, hr⟩
  · rw [rowsV_succ]; exact ownsRow_setCell_below ho (by simp; omega) _
  · refine Below.setCell ?_ (by simp) _
    exact ((b.alloc (by omega) _).drew).grown hg (by simp; omega) (fun j hj => by have := (o.lt j hj).1; omega)
  · have := hg.size
    simp at this
    simp; omega

set_option maxRecDepth 100000 in
set_option maxHeartbeats 1000000 in
theorem new_yes (rows cols : Nat) (w : World) (h1 : 2 ≤ rows) (h2 : rows ≤ 60) (h3 : 8 ≤ cols) (h4 : cols ≤ 132) :
    Calls Tryz.prog 13 #[.int .i64 rows, .int .i64 cols] w (NewPost w rows cols) := by
  have hs : sizedB (rows : Int) (cols : Int) = true := by simp [sizedB]; omega
  have HS := Lib.hid hs; clear hs
  obtain ⟨i0, hi, hz0, hz1, hz2⟩ := info_parts bytes_info
  obtain ⟨N, hN, hN1, hN2⟩ : ∃ N : Nat, Hid (N = rows * cols) ∧ 16 ≤ N ∧ N ≤ 7920 := ⟨_, Lib.hid rfl, Nat.le_trans (by decide) (Nat.mul_le_mul h1 h3), Nat.le_trans (Nat.mul_le_mul h2 h4) (by decide)⟩
  have hmul : (rows : Int) * (cols : Int) = (N : Int) := by rw [hN.out]; simp
  go_enter Tryz.func13, Tryz.ntmps13
  go_wp2_with fail
  refine (sized_any _ _ _).mono ?_
  rintro e w1 ⟨rfl, rfl⟩
  rw [HS.out]
  go_wp2_with fail
  refine (repeat1_any (w.heap.size + 1 + 1) 1 32 N _ ?hc (by omega) (by omega)).mono ?_
  case hc => rw [Lib.cell_of_heap (cs := #[.int .u8 32]) (T := 5) (fr := (0, 0)) (show (((w.heap.push _).push _).push _)[w.heap.size + 1 + 1]? = _ by rw [Array.getElem?_push, if_pos (by simp)])]; rfl
  rintro e w4 ⟨gb, rfl, hnr⟩
  have h3b := @three w (.cells #[.int .i64 0, .int .i64 0, .slice none 0 0, .int .i64 0, .int .i64 0] 24) (.cells #[.int .i64 rows, .int .i64 cols, .slice none 0 0, .int .i64 0, .int .i64 0] 24) (.cells #[.int .u8 32] 5)
  have hrow := hnr.row
  have hfr2 : w.heap.size + 3 ≤ gb := h3b.2.2.2 ▸ hnr.fresh
  have hbel := hnr.below
  rw [h3b.2.2.2] at hbel
  have hg0 := (hbel.block w.heap.size (by omega)).trans h3b.1
  have hg1 := (hbel.block (w.heap.size + 1) (by omega)).trans h3b.2.1
  have HB4 := Lib.hid (h3b.2.2.1.trans (hbel.mono (by omega)))
  have hsz4 : gb < w4.heap.size := by obtain ⟨cur, hc, _⟩ := hrow; exact (Array.getElem?_eq_some_iff.1 hc).1
  have HROW : Hid (RowAt w4 gb N N 32) := hrow
  have HG0 := Lib.hid hg0
  have HG1 := Lib.hid hg1
  clear hg0 hg1 hrow hbel hnr h3b
  go_wp2_with fail
  go_loopw [8] (fun i wr => ∃ (k : Nat) (v : Value), k ≤ rows ∧ i = .int .i64 ((k * cols : Nat) : Int) ∧ Hid (wr.heap[w.heap.size]? = some (.cells #[.int .i64 0, .int .i64 0, .slice none 0 0, .int .i64 0, .int .i64 0] 24 (0, 0))) ∧
      Hid (wr.heap[w.heap.size + 1]? = some (.cells #[.int .i64 rows, .int .i64 cols, v, .int .i64 0, .int .i64 0] 24 (0, 0))) ∧ Hid (RowAt wr gb N N 32) ∧ Hid (wr.ownsRow (gb + 1) 37 1 v k (rowsV gb cols k)) ∧ Hid (Below w.heap.size w wr) ∧ Hid (gb < wr.heap.size)) (fun i _ => N - (intOf i).toNat)
  case atStart => exact ⟨0, _, by omega, by simp, HG0, HG1, HROW, World.ownsRow_nil _ _ _ _, HB4, hsz4⟩
  case round =>
    obtain ⟨k, v, hk, rfl, HA, HG, HR, HO, HB, HZ⟩ := hrel
    obtain ⟨F, hF⟩ : ∃ F : Nat, k * cols = F := ⟨_, rfl⟩
    rw [hF]
    have HF := Lib.hid hF; clear hF
    obtain ⟨ao, cp, rfl⟩ := ownsRow_shape HO.out
    by_cases hlt : k < rows
    · have hFN : F + cols ≤ N := by
        have h := Nat.mul_le_mul_right cols (show k + 1 ≤ rows from hlt)
        rw [Nat.succ_mul, HF.out, ← hN.out] at h; exact h
      have hd := Lib.cell_of_heap HG.out
      have d0 := hd 0
      have d1 := hd 1
      have d2 := hd 2
      simp at d0 d1 d2
      clear hd
      have hne : ¬ F + cols = F := by omega
      have hlti : (F : Int) < (N : Int) := by omega
      go_wp2_with fail
      have hgb : gb < wr.heap.size := HZ.out
      have hB1 : gb + 1 ≤ wr.heap.size := hgb
      have hFc0 : (0 : Int) ≤ (F : Int) + (cols : Int) := by omega
      have hFc1 : (F : Int) + (cols : Int) ≤ (N : Int) := by omega
      have hFc2 : F ≤ F + cols := by omega
      have hFc3 : ((F : Int) + (cols : Int)).toNat = F + cols := by omega
      have hFc4 : IntKind.i64.wrap ((F : Int) + (cols : Int)) = (F : Int) + (cols : Int) := IntWalk.i64_in _ (by omega)
      have hc0 : ¬ cols = 0 := by omega
      have hrv : rowV gb cols k = .slice (some ⟨gb, F, none⟩) cols cols := by rw [rowV, HF.out]
      have hone := rowV_one gb cols k
      rw [hrv] at hone
      have hnews : ∀ wd : World, wd.heap = (wr.alloc (.cells #[.slice (some ⟨gb, F, none⟩) cols cols] 37 (0, 0))).heap → ∀ j u, [Value.slice (some ⟨gb, F, none⟩) cols cols][j]? = some u → wd.cell? ((⟨wr.heap.size, 0, none⟩ : Addr).add j) = some u := by
        intro wd hwd j u hj
        match j, hj with
        | 0, hj =>
          simp at hj; subst hj
          show wd.cell? ⟨wr.heap.size, 0, none⟩ = _
          rw [Lib.cell_of_heap (cs := #[.slice (some ⟨gb, F, none⟩) cols cols]) (T := 37) (fr := (0, 0)) (by rw [hwd]; show (wr.heap.push _)[wr.heap.size]? = _; rw [Array.getElem?_push, if_pos rfl])]
          rfl
      have HNEWS := Lib.hid hnews
      have HONE := Lib.hid hone
      have HRV := Lib.hid hrv
      have hlt1 : w.heap.size + 1 < wr.heap.size := (Array.getElem?_eq_some_iff.1 HG.out).1
      have HLT1 := Lib.hid hlt1
      have hne2 := ownsRow_ne HO.out (show w.heap.size + 1 < gb + 1 by omega)
      have hne1 := ownsRow_ne HO.out (show w.heap.size < gb + 1 by omega)
      have hne3 := ownsRow_ne HO.out (show gb < gb + 1 by omega)
      have HNE2 := Lib.hid hne2
      have HNE1 := Lib.hid hne1
      have HNE3 := Lib.hid hne3
      clear hrv hone hnews hne2 hne1 hne3
      go_region_law (refine step_append_own rfl (.tmp 30) (.tmp 40) 22 rfl (gb + 1) 37 i0 (.slice none 0 0) 1 24 Tryz.underlying22 hi hz0 hz1 hz2 rfl (by decide) _ k (rowsV gb cols k) (by kernel_rfl) (HO.out.drew.alloc _) ⟨wr.heap.size, 0, none⟩ 1 1 [.slice (some ⟨gb, F, none⟩) cols cols] (by kernel_rfl) rfl (HNEWS.out _ rfl) HONE.out (by unfold maxLen; omega) (by omega) (by simp; omega) ?_; intro v' w5 hown' hgrow hnil; clear hnil; obtain ⟨ao', cp', rfl⟩ := ownsRow_shape hown'; have HO5 := Lib.hid hown'; have HGR := Lib.hid hgrow; clear hown' hgrow; have hG5 := (HGR.out.block (w.heap.size + 1) (by simp; have := HLT1.out; omega) (fun e => HNE2.out e.symm)).trans ((Below.heap_alloc wr _ _ HLT1.out).trans HG.out); have e2 := Lib.cell_of_heap hG5 2; have f2 := Lib.frozen_of_heap hG5 2; simp only [List.getElem?_toArray, List.getElem?_cons_succ, List.getElem?_cons_zero] at e2; have HG5 := Lib.hid hG5; clear hG5)
      all_goals
        have HN5 : Hid (NewAt w _ rows cols N gb (k + 1) _) := NewAt.next ⟨HA.out, HG.out, HR.out, HO.out, HB.out, HZ.out⟩ hfr2 HGR.out (HRV.out ▸ HO5.out)
        go_wp2_with fail
        go_roundw
        case rel => exact ⟨k + 1, _, by omega, by rw [Nat.succ_mul, HF.out]; go_num, HN5.out.a, HN5.out.g, HN5.out.r, HN5.out.o, HN5.out.b, HN5.out.z⟩
        case measure => simp [intOf] <;> omega
    · obtain rfl : k = rows := by omega
      have hFN : F = N := by rw [← HF.out, hN.out]
      have hd := Lib.cell_of_heap HG.out
      have d0 := hd 0
      have d1 := hd 1
      have d2 := hd 2
      have d3 := hd 3
      have d4 := hd 4
      have ea := Lib.cell_of_heap HA.out
      have e0 := ea 0
      have e1 := ea 1
      have e2 := ea 2
      have e3 := ea 3
      have e4 := ea 4
      have f0 := Lib.frozen_of_heap HA.out 0
      have f1 := Lib.frozen_of_heap HA.out 1
      have f2 := Lib.frozen_of_heap HA.out 2
      have f3 := Lib.frozen_of_heap HA.out 3
      have f4 := Lib.frozen_of_heap HA.out 4
      simp at d0 d1 d2 d3 d4 e0 e1 e2 e3 e4
      clear hd ea
      subst hFN
      have z0 := heap_set (j := 0) HA.out (.int .i64 k)
      have z1 := heap_set (j := 1) z0 (.int .i64 cols)
      have z2 := heap_set (j := 2) z1 (.slice ao k cp)
      have z3 := heap_set (j := 3) z2 (.int .i64 0)
      have z4 := heap_set (j := 4) z3 (.int .i64 0)
      have s0 := cell_set (j := 0) HA.out (by simp) (.int .i64 k)
      have s1 := cell_set (j := 1) z0 (by simp) (.int .i64 cols)
      have s2 := cell_set (j := 2) z1 (by simp) (.slice ao k cp)
      have s3 := cell_set (j := 3) z2 (by simp) (.int .i64 0)
      have s4 := cell_set (j := 4) z3 (by simp) (.int .i64 0)
      have hfin : Hid (Below w.heap.size w (((((wr.setCell ⟨w.heap.size, 0, none⟩ (.int .i64 k)).setCell ⟨w.heap.size, 1, none⟩ (.int .i64 cols)).setCell ⟨w.heap.size, 2, none⟩ (.slice ao k cp)).setCell ⟨w.heap.size, 3, none⟩ (.int .i64 0)).setCell ⟨w.heap.size, 4, none⟩ (.int .i64 0))) :=
        ((((HB.out.setCell (Nat.le_refl _) _).setCell (Nat.le_refl _) _).setCell (Nat.le_refl _) _).setCell (Nat.le_refl _) _).setCell (Nat.le_refl _) _
      have hrow : Hid (RowAt (((((wr.setCell ⟨w.heap.size, 0, none⟩ (.int .i64 k)).setCell ⟨w.heap.size, 1, none⟩ (.int .i64 cols)).setCell ⟨w.heap.size, 2, none⟩ (.slice ao k cp)).setCell ⟨w.heap.size, 3, none⟩ (.int .i64 0)).setCell ⟨w.heap.size, 4, none⟩ (.int .i64 0)) gb F F 32) := by
        obtain ⟨cur, hc, hr⟩ := HR.out
        refine ⟨cur, ?_, hr⟩
        rw [Below.heap_setCell _ _ _ _ (by simp; omega), Below.heap_setCell _ _ _ _ (by simp; omega), Below.heap_setCell _ _ _ _ (by simp; omega), Below.heap_setCell _ _ _ _ (by simp; omega), Below.heap_setCell _ _ _ _ (by simp; omega)]
        exact hc
      have hown : Hid ((((((wr.setCell ⟨w.heap.size, 0, none⟩ (.int .i64 k)).setCell ⟨w.heap.size, 1, none⟩ (.int .i64 cols)).setCell ⟨w.heap.size, 2, none⟩ (.slice ao k cp)).setCell ⟨w.heap.size, 3, none⟩ (.int .i64 0)).setCell ⟨w.heap.size, 4, none⟩ (.int .i64 0)).ownsRow (gb + 1) 37 1 (.slice ao k cp) k (rowsV gb cols k)) :=
        ownsRow_setCell_below (ownsRow_setCell_below (ownsRow_setCell_below (ownsRow_setCell_below (ownsRow_setCell_below HO.out (by simp; omega) _) (by simp; omega) _) (by simp; omega) _) (by simp; omega) _) (by simp; omega) _
      clear z0 z1 z2 z3 z4
      go_wp2_with fail
      refine bodyPost_ret (v := .tuple #[.agg #[.int .i64 k, .int .i64 cols, .slice ao k cp, .int .i64 0, .int .i64 0], .int .i64 0]) (by simp [results, Tryz.results13, go_sem, s0, s1, s2, s3, s4]) rfl ?_
      exact ⟨gb, .slice ao k cp, rfl, by omega, by have := hrow.out; rw [HF.out]; exact this, hown.out, hfin.out⟩

end Go.Proofs.YtcgaaadcbhkfoaaGreatDoor
