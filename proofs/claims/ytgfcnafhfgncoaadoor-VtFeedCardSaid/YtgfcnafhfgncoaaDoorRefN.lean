/- The walk of the reference's New: blanks in memory of its own. -/
import Derived.Test.YtgfcnafhfgncoaaDoorRefS
import Derived.Test.YtgfcnafhfgncoaaDoorClone
import Derived.Test.YtgfcnafhfgncoaaDoorVt1
namespace Go.Proofs.YtgfcnafhfgncoaaDoor
open Go Go.Proofs Go.RowKit Go.Ink

/-- A row of bytes that was appended from nothing. -/
theorem own_bytesRow {w : World} {B : Nat} {u : Value} {l : List UInt8} (hl : l ≠ []) (h : w.ownsRow B 5 1 u l.length (l.map byteV)) :
    ∃ b : Nat × Nat, u = rowVal b l ∧ B ≤ b.1 ∧ b.1 < w.heap.size ∧ l.length ≤ b.2 ∧ b.2 ≤ maxLen ∧ ∃ cs : Array Value, w.heap[b.1]? = some (.cells cs 5 (0, 0)) ∧ ∀ (j : Nat) (c : UInt8), l[j]? = some c → cs[j]? = some (Value.int .u8 (c.toNat : Int)) := by
  rcases h.2 with ⟨_, h0⟩ | ⟨g, cap, cur, rfl, hg, hh, h1, h2, h3, h4⟩
  · exact absurd (List.eq_nil_of_length_eq_zero h0) hl
  · refine ⟨(g, cap), rfl, hg, lt_of_heap hh, h1, h2, cur, hh, fun j c hj => ?_⟩
    have hjl := (List.getElem?_eq_some_iff.1 hj).1
    have h5 : (cur.toList.take (l.length * 1))[j]? = (l.map byteV)[j]? := by rw [h4]
    rw [List.getElem?_take, if_pos (by omega), List.getElem?_map, hj] at h5
    simpa [byteV] using h5
/-- What stands at the head of the outer loop: k rows of blanks. -/
structure BlankO (w wr : World) (rows cols k : Nat) (v : Value) (bs : List (Nat × Nat)) : Prop where
  a : wr.heap[w.heap.size]? = some (.cells #[.int .i64 0, .int .i64 0, .slice none 0 0, .int .i64 0, .int .i64 0] 34 (0, 0))
  g : wr.heap[w.heap.size + 1]? = some (.cells #[.int .i64 rows, .int .i64 cols, v, .int .i64 0, .int .i64 0] 34 (0, 0))
  o : OwnRows wr (w.heap.size + 2) v bs (List.replicate k (blankL cols))
  b : Below w.heap.size w wr
theorem BlankO.next {w wr wi w5 : World} {rows cols k : Nat} {v v' u : Value} {bs : List (Nat × Nat)} {ob : Obj} (h : BlankO w wr rows cols k v bs) (hc : 0 < cols) (hi : Below wr.heap.size wr wi)
    (hu : wi.ownsRow wr.heap.size 5 1 u cols ((blankL cols).map byteV)) (hg : (wi.alloc ob).grownBy w5 v.ownBlock)
    (ho : w5.ownsRow (w.heap.size + 2) 39 1 v' (k + 1) (rowVals bs (List.replicate k (blankL cols)) ++ [u])) : ∃ bs', BlankO w (w5.setCell ⟨w.heap.size + 1, 2, none⟩ v') rows cols (k + 1) v' bs' := by
  obtain ⟨a, g, o, b⟩ := h
  have hlen := o.len
  rw [List.length_replicate] at hlen
  have hbl : (blankL cols).length = cols := by simp [blankL]
  have hu' : wi.ownsRow wr.heap.size 5 1 u (blankL cols).length ((blankL cols).map byteV) := by rw [hbl]; exact hu
  obtain ⟨nb, rfl, hb1, hb2, hb3, hb4, cs, hb5, hb6⟩ := own_bytesRow (by intro e; rw [e] at hbl; simp at hbl; omega) hu'
  have oi := o.later hi
  have hz := hi.size
  have hbz := b.size
  have hk : KeepT (fun i => v.ownBlock = some i) wi w5 := ((KeepT.refl _ _).alloc ob).grown hg (fun j e => .inl e)
  have hvlt : ∀ i, v.ownBlock = some i → w.heap.size + 2 ≤ i ∧ i < wr.heap.size := fun i e => o.lt i (.inl e)
  have h5 : OwnRows w5 (w.heap.size + 2) v' (bs ++ [nb]) (List.replicate k (blankL cols) ++ [blankL cols]) :=
    oi.snoc hk (fun i _ e => e) (by rw [← hlen]; exact ho) (by have := lt_of_heap g; omega) (fun hm => by have := (o.lt nb.1 (.inr hm)).2; omega)
      ⟨hb3, hb4, cs, (hk.block nb.1 hb2 (fun e => by have := (hvlt _ e).2; omega)).trans hb5, hb6⟩
  have hold : ∀ j, j < w.heap.size + 2 → j < wr.heap.size → w5.heap[j]? = wr.heap[j]? := fun j h1 h2 =>
    (hk.block j (by omega) (fun e => by have := (hvlt _ e).1; omega)).trans (hi.block j h2)
  refine ⟨bs ++ [nb], ?_, ?_, ?_, ?_⟩
  · rw [Below.heap_setCell _ _ _ _ (by simp), hold _ (by omega) (lt_of_heap a)]; exact a
  · rw [heap_set ((hold _ (by omega) (lt_of_heap g)).trans g)]; rfl
  · rw [List.replicate_succ']
    refine h5.kept (S := fun i => i = w.heap.size + 1) ((KeepT.refl (fun i => i = w.heap.size + 1) w5).setCell (p := ⟨w.heap.size + 1, 2, none⟩) (.inl rfl) _) (fun i hi e => ?_)
    have := (h5.lt i hi).1; omega
  · have : Below w.heap.size w w5 := b.trans ((hi.mono b.size).trans (hk.below (by omega) (fun i e => by have := (hvlt _ e).1; omega)))
    exact this.setCell (by simp) _
def RefNewPost (w : World) (rows cols : Nat) (e : Ending) (w' : World) : Prop :=
  ∃ gr cap bs, e = .returned (.tuple #[.agg #[.int .i64 rows, .int .i64 cols, .slice (some ⟨gr, 0, none⟩) rows cap, .int .i64 0, .int .i64 0], .int .i64 0]) ∧ OwnRows w' (w.heap.size + 2) (.slice (some ⟨gr, 0, none⟩) rows cap) bs (List.replicate rows (blankL cols)) ∧ Below w.heap.size w w'
set_option maxHeartbeats 400000 in
theorem refNew_not (m n : Int) (w : World) (hno : sizedB m n = false) :
    Calls Tryd.prog 26 #[.int .i64 m, .int .i64 n] w
      fun e w' => e = .returned (.tuple #[.agg #[.int .i64 0, .int .i64 0, .slice none 0 0, .int .i64 0, .int .i64 0], .int .i64 2]) ∧ Below w.heap.size w w' := by
  have HNO := Lib.hid hno; clear hno
  go_enter Tryd.func26, Tryd.ntmps26
  go_wp2_with fail
  refine (refSized_any _ _ _).mono ?_
  rintro e w1 ⟨rfl, rfl⟩
  rw [HNO.out]
  go_wp2_with fail
  go_returns
  exact ⟨rfl, (Below.refl _ _).alloc (Nat.le_refl _) _⟩
set_option maxHeartbeats 2000000 in
theorem refNewO (rows cols : Nat) (w : World) (h1 : 2 ≤ rows) (h2 : rows ≤ 60) (h3 : 8 ≤ cols) (h4 : cols ≤ 132) :
    Calls Tryd.prog 26 #[.int .i64 rows, .int .i64 cols] w (RefNewPost w rows cols) := by
  have hs : sizedB (rows : Int) (cols : Int) = true := by simp [sizedB]; omega
  have HS := Lib.hid hs; clear hs
  obtain ⟨i0, hi, hz0, hz1, hz2⟩ := info_parts cl_info1
  obtain ⟨i1, hi1, hy0, hy1, hy2⟩ := info_parts cl_info
  have hc0 : 0 < cols := by omega
  go_enter Tryd.func26, Tryd.ntmps26
  go_wp2_with fail
  refine (refSized_any _ _ _).mono ?_
  rintro e w1 ⟨rfl, rfl⟩
  rw [HS.out]
  go_wp2_with fail
  go_loopw [7] (fun i wr => ∃ (k : Nat) (v : Value) (bs : List (Nat × Nat)), i = .int .i64 k ∧ k ≤ rows ∧ Hid (BlankO w wr rows cols k v bs)) (fun i _ => rows - (intOf i).toNat)
  case atStart =>
    have h2 := @two_blk w (.cells #[.int .i64 0, .int .i64 0, .slice none 0 0, .int .i64 0, .int .i64 0] 34 (0, 0)) (.cells #[.int .i64 rows, .int .i64 cols, .slice none 0 0, .int .i64 0, .int .i64 0] 34 (0, 0))
    exact ⟨0, _, [], rfl, by omega, h2.1, h2.2.1, OwnRows.nil _ _, h2.2.2⟩
  case round =>
    obtain ⟨k, v, bs, rfl, hk, H⟩ := hrel
    by_cases hlt : k < rows
    · have hlti : (k : Int) < (rows : Int) := by omega
      obtain ⟨wo, hwo⟩ : ∃ wo : World, wo = wr := ⟨_, rfl⟩
      subst hwo
      go_wp2_with fail
      go_loopw [8, 9] (fun u i wi => ∃ j : Nat, i = .int .i64 j ∧ j ≤ cols ∧ Hid (wi.ownsRow wo.heap.size 5 1 u j ((blankL j).map byteV)) ∧ Hid (Below wo.heap.size wo wi)) (fun _ i _ => cols - (intOf i).toNat)
      case atStart => exact ⟨0, rfl, by omega, World.ownsRow_nil _ _ _ _, Below.refl _ _⟩
      case round =>
        rename_i u8v u9v
        obtain ⟨j, rfl, hj, HO, HB⟩ := hrel
        by_cases hjl : j < cols
        · have hji : (j : Int) < (cols : Int) := by omega
          have hzz := HB.out.size
          have HSN : Hid ((blankL (j + 1)).map byteV = (blankL j).map byteV ++ [.int .u8 32]) := Lib.hid (by unfold blankL; rw [List.replicate_succ', List.map_append]; rfl)
          go_wp2_with (at_builtin; refine wpList_append_own _ rfl (.tmp 28) (.tmp 29) 39 rfl wo.heap.size 5 i0 (.int .u8 0) 1 1 Tryd.underlying39 hi hz0 hz1 hz2 rfl (by decide) _ j ((blankL j).map byteV) rfl (HO.out.alloc _) ⟨wr.heap.size, 0, none⟩ 1 1 [.int .u8 32] rfl rfl (news_one _ _ _) (news_ok rfl) (by unfold maxLen; omega) (by omega) (by simp; omega) ?_)
          intro v' w5 hown' hgrow hnil
          clear hnil
          have HO5 : Hid (w5.ownsRow wo.heap.size 5 1 v' (j + 1) ((blankL (j + 1)).map byteV)) := Lib.hid (by rw [HSN.out]; exact hown')
          have HB5 : Hid (Below wo.heap.size wo w5) := (HB.out.alloc HB.out.size _).grown hgrow (by have := HB.out.size; simp; omega) (fun g hg => (HO.out.lt g hg).1)
          clear hown' hgrow
          go_wp2_with fail
          go_roundw
          case rel => exact ⟨j + 1, by go_num, by omega, HO5, HB5⟩
          case measure => simp [intOf] <;> omega
        · obtain rfl : j = cols := by omega
          have hgi : wr.heap[w.heap.size + 1]? = _ := (HB.out.block _ (lt_of_heap H.out.g)).trans H.out.g
          have hlt1 : w.heap.size + 1 < wr.heap.size := lt_of_heap hgi
          have oi := Lib.hid ((H.out.o.later HB.out).rows)
          have hbk : bs.length = k := by have := H.out.o.len; rw [List.length_replicate] at this; exact this.symm
          rw [hbk] at oi
          obtain ⟨ao, cp, rfl⟩ := ownsRow_shape oi.out
          obtain ⟨au, cu, rfl⟩ := ownsRow_shape HO.out
          have d2 := Lib.cell_of_heap hgi 2
          simp at d2
          have HGI := Lib.hid hgi; clear hgi
          have hne2 := Lib.hid (ownsRow_ne oi.out (show w.heap.size + 1 < w.heap.size + 2 by omega))
          have HRV : Hid ((rowVals bs (List.replicate k (blankL j))).length = k) := Lib.hid (by rw [rowVals_len (by rw [List.length_replicate, hbk])]; exact hbk)
          clear hbk
          go_wp2_with (at_builtin; refine wpList_append_own _ rfl (.tmp 32) (.tmp 34) 32 rfl (w.heap.size + 2) 39 i1 (.slice none 0 0) 1 24 Tryd.underlying32 hi1 hy0 hy1 hy2 rfl (by decide) _ k (rowVals bs (List.replicate k (blankL j))) rfl (oi.out.alloc _) ⟨wr.heap.size, 0, none⟩ 1 1 [.slice au j cu] rfl rfl (news_one _ _ _) (news_ok rfl) (by unfold maxLen; omega) (by omega) (by simp; omega) ?_)
          intro v' w5 hown' hgrow hnil
          clear hnil
          obtain ⟨ao', cp', rfl⟩ := ownsRow_shape hown'
          have hG5 := (hgrow.block (w.heap.size + 1) (by simp; omega) (fun e => hne2.out e.symm)).trans ((Below.heap_alloc wr _ _ hlt1).trans HGI.out)
          have e2 := Lib.cell_of_heap hG5 2
          have f2 := Lib.frozen_of_heap hG5 2
          simp at e2
          obtain ⟨bs', hN5⟩ := BlankO.next H.out hc0 HB.out HO.out hgrow hown'
          have HN5 := Lib.hid hN5
          clear hG5 hgrow hown' oi d2 hN5
          go_wp2_with fail
          go_roundw
          case rel => exact ⟨k + 1, _, bs', by go_num, by omega, HN5⟩
          case measure => simp [intOf] <;> omega
    · obtain rfl : k = rows := by omega
      have hown := H.out.o.rows
      have hbk : bs.length = k := by have := H.out.o.len; rw [List.length_replicate] at this; exact this.symm
      rw [hbk] at hown
      obtain ⟨ao, cp, rfl⟩ := ownsRow_shape hown
      obtain ⟨gr, rfl⟩ : ∃ gr, ao = some ⟨gr, 0, none⟩ := by
        rcases hown.2 with ⟨hv, h0⟩ | ⟨g, cp, cu, hv, _⟩
        · omega
        · injection hv with e1; exact ⟨g, e1⟩
      clear hown hbk
      have hd := Lib.cell_of_heap H.out.g
      have d0 := hd 0
      have d1 := hd 1
      have d2 := hd 2
      have d3 := hd 3
      have d4 := hd 4
      have ea := Lib.cell_of_heap H.out.a
      have e0 := ea 0
      have e1 := ea 1
      have e2 := ea 2
      have e3 := ea 3
      have e4 := ea 4
      have f0 := Lib.frozen_of_heap H.out.a 0
      have f1 := Lib.frozen_of_heap H.out.a 1
      have f2 := Lib.frozen_of_heap H.out.a 2
      have f3 := Lib.frozen_of_heap H.out.a 3
      have f4 := Lib.frozen_of_heap H.out.a 4
      simp at d0 d1 d2 d3 d4 e0 e1 e2 e3 e4
      clear hd ea
      obtain ⟨s0, s1, s2, s3, s4⟩ := five_cells H.out.a (.int .i64 k) (.int .i64 cols) (.slice (some ⟨gr, 0, none⟩) k cp) (.int .i64 0) (.int .i64 0)
      have hkeep := Lib.hid (five_keep wr w.heap.size (.int .i64 k) (.int .i64 cols) (.slice (some ⟨gr, 0, none⟩) k cp) (.int .i64 0) (.int .i64 0))
      go_wp2_with fail
      refine bodyPost_ret (v := .tuple #[.agg #[.int .i64 k, .int .i64 cols, .slice (some ⟨gr, 0, none⟩) k cp, .int .i64 0, .int .i64 0], .int .i64 0]) (by simp [results, Tryd.results26, go_sem, s0, s1, s2, s3, s4]) rfl ?_
      exact ⟨gr, cp, bs, rfl, H.out.o.kept hkeep.out (fun i hi e => by have := (H.out.o.lt i hi).1; omega), H.out.b.trans (hkeep.out.below H.out.b.size (fun i e => by omega))⟩
end Go.Proofs.YtgfcnafhfgncoaaDoor
