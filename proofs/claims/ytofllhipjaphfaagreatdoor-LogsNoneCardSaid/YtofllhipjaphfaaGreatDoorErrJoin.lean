/- errors.Join of two errors each of which is none, or a *missing. -/
import Derived.Test.YtofllhipjaphfaaGreatDoorErrAs
import Derived.Laws.AppendOwnNone
import Derived.Maps.AppendAt
namespace Go.Proofs.YtofllhipjaphfaaGreatDoor
open Go Go.Proofs Go.RowKit Go.Ink

theorem err_info : (Tryz.prog.info? 57).map (fun i => (i.zero, i.size, i.bytes)) = some (some .nilIface, 1, 16) := by kernel_rfl
/-- An error that says that no frame stands there. -/
def ErrV (w : World) (v : Value) : Prop :=
  (∃ a, v = .iface 178 (.pointer (some a))) ∨
  ∃ q g n cap e, v = .iface 190 (.pointer (some ⟨q, 0, none⟩)) ∧ w.cell? ⟨q, 0, none⟩ = some (.slice (some ⟨g, 0, none⟩) (n + 1) cap) ∧ n + 1 ≤ 2 ∧ w.cell? ⟨g, 0, none⟩ = some (.iface 178 (.pointer (some e)))

theorem join_nil (b : Nat) (w : World) (c0 : w.cell? ⟨b, 0, none⟩ = some .nilIface) (c1 : w.cell? ⟨b, 1, none⟩ = some .nilIface) :
    Calls Tryz.prog 101 #[.slice (some ⟨b, 0, none⟩) 2 2] w fun e w' => e = .returned .nilIface ∧ w = w' := by
  go_enter Tryz.func101, Tryz.ntmps101
  go_wp2_with fail
  refine wp_loop_rounds 3 ?_
  rw [rounds_succ]
  go_wp2_with fail
  rw [rounds_succ]
  go_wp2_with fail
  rw [rounds_succ]
  go_wp2_with fail
  go_returns
  exact ⟨rfl, rfl⟩
/-- The join's block, and the list that its cell holds. -/
structure JoinAt (w wr : World) (q : Nat) (v : Value) (L : List Value) : Prop where
  h : wr.heap[q]? = some (.cells #[v] 192 (0, 0))
  own : wr.ownsRow w.heap.size 57 1 v L.length L
  b : Below w.heap.size w wr
  q : w.heap.size ≤ q
theorem JoinAt.ne {w wr : World} {q : Nat} {v : Value} {L : List Value} (h : JoinAt w wr q v L) : v.ownBlock ≠ some q := by
  rcases h.own.2 with ⟨rfl, _⟩ | ⟨g, cap, cur, rfl, hg, hh, _⟩
  · simp [Value.ownBlock]
  · simp only [Value.ownBlock, ne_eq, Option.some.injEq]
    rintro rfl
    have := h.h.symm.trans hh
    simp at this
theorem JoinAt.next {w wr w2 : World} {q : Nat} {v v' : Value} {L : List Value} (h : JoinAt w wr q v L) (x : Value) (o : Obj) (hown : w2.ownsRow w.heap.size 57 1 v' (L.length + 1) (L ++ [x])) (hg : (wr.alloc o).grownBy w2 v.ownBlock) :
    w2.heap[q]? = some (.cells #[v] 192 (0, 0)) ∧ Below w.heap.size w w2 ∧ (∃ g cap, v' = .slice (some ⟨g, 0, none⟩) (L.length + 1) cap) ∧ JoinAt w (w2.setCell ⟨q, 0, none⟩ v') q v' (L ++ [x]) := by
  have hq := lt_of_heap h.h
  have h1 : w2.heap[q]? = some (.cells #[v] 192 (0, 0)) := by
    rw [hg.block q (by simp; omega) (fun e => h.ne e.symm), Below.heap_alloc _ _ _ hq]; exact h.h
  have hb : Below w.heap.size w w2 := (h.b.alloc h.b.size _).grown hg (by have := h.b.size; simp; omega) (fun k hk => (h.own.lt k hk).1)
  refine ⟨h1, hb, ?_, ⟨by rw [heap_set h1]; rfl, ?_, hb.setCell (p := ⟨q, 0, none⟩) h.q _, h.q⟩⟩
  · rcases hown.2 with ⟨rfl, h0⟩ | ⟨g, cap, cur, rfl, _⟩
    · omega
    · exact ⟨g, cap, rfl⟩
  · rw [List.length_append, List.length_singleton]
    obtain ⟨a1, a2⟩ := hown
    refine ⟨a1, ?_⟩
    rcases a2 with a2 | ⟨g, cap, cur, hv, hgb, hh, r⟩
    · exact .inl a2
    · refine .inr ⟨g, cap, cur, hv, hgb, ?_, r⟩
      rw [Below.heap_setCell _ _ _ _ (by rintro rfl; have := h1.symm.trans hh; simp at this)]
      exact hh
theorem JoinAt.err {w wr : World} {q : Nat} {v : Value} {e : Addr} {L : List Value} (h : JoinAt w wr q v (.iface 178 (.pointer (some e)) :: L)) (hL : L.length ≤ 1) : ErrV wr (.iface 190 (.pointer (some ⟨q, 0, none⟩))) := by
  rcases h.own.2 with ⟨_, h0⟩ | ⟨g, cap, cur, rfl, _⟩
  · simp at h0
  · refine .inr ⟨q, g, L.length, cap, e, rfl, by rw [Lib.cell_of_heap h.h]; rfl, by omega, ?_⟩
    have := World.ownsRow.cellAt h.own 0 (by simp)
    simpa using this

set_option maxRecDepth 100000 in
set_option maxHeartbeats 1000000 in
theorem join_left (b : Nat) (w : World) (x : Addr) (c0 : w.cell? ⟨b, 0, none⟩ = some (.iface 178 (.pointer (some x)))) (c1 : w.cell? ⟨b, 1, none⟩ = some .nilIface) :
    Calls Tryz.prog 101 #[.slice (some ⟨b, 0, none⟩) 2 2] w fun e w' => ∃ v, e = .returned v ∧ ErrV w' v ∧ Below w.heap.size w w' := by
  obtain ⟨i0, hi, hz0, hz1, hz2⟩ := info_parts err_info
  go_enter Tryz.func101, Tryz.ntmps101
  go_wp2_with fail
  refine wp_loop_rounds 3 ?_
  rw [rounds_succ]
  go_wp2_with fail
  rw [rounds_succ]
  go_wp2_with fail
  rw [rounds_succ]
  go_wp2_with (at_make; refine wpList_make_own _ rfl _ _ 170 rfl w.heap.size 57 i0 .nilIface 1 Tryz.underlying170 hi hz0 hz1 .i64 .i64 1 1 rfl rfl rfl ?c1 ?c2 ?c3 ?_)
  case c1 => rw [hz2]; omega
  case c2 => unfold maxLen; omega
  case c3 => exact Nat.le_refl _
  intro w1 hown hgr
  have hb1 := (Below.refl w.heap.size w).grown hgr (Nat.le_refl _) (fun k hk => by cases hk)
  have HJ1 := Lib.hid (show JoinAt w (w1.alloc (.cells #[.slice (some ⟨w.heap.size, 0, none⟩) 0 1] 192)) w1.heap.size (.slice (some ⟨w.heap.size, 0, none⟩) 0 1) [] from ⟨heap_alloc_new _ _, hown.alloc _, hb1.alloc hb1.size _, hb1.size⟩)
  have hlt := lt_of_cell c0
  have d0 := (hb1.cell (p := ⟨b, 0, none⟩) hlt).trans c0
  have d1 := (hb1.cell (p := ⟨b, 1, none⟩) hlt).trans c1
  have hlt1 : b < w1.heap.size := lt_of_cell d0
  clear hown hgr hb1
  go_wp2_with fail
  refine wp_loop_rounds 3 ?_
  rw [rounds_succ]
  go_wp2_with (at_builtin; refine wpList_append_own _ rfl _ _ 170 rfl w.heap.size 57 i0 .nilIface 1 16 Tryz.underlying170 hi hz0 hz1 hz2 rfl (by decide) _ _ _ rfl (HJ1.out.own.alloc _) ⟨w1.heap.size + 1, 0, none⟩ 1 1 [.iface 178 (.pointer (some x))] rfl rfl ?c1 ?c2 ?c3 ?c4 ?c5 ?_)
  case c1 => 
    have := cell_one_new (w1.alloc (.cells #[.slice (some ⟨w.heap.size, 0, none⟩) 0 1] 192)) (.iface 178 (.pointer (some x))) 57
    rw [World.size_alloc] at this
    exact this
  case c2 => intro u hu; simp at hu; subst hu; rfl
  case c3 => unfold maxLen; simp
  case c4 => simp
  case c5 => have := HJ1.out.b.size; simp at this ⊢; omega
  intro v' w2 hown' hgrow _
  obtain ⟨hq, hb2, ⟨g, cap, rfl⟩, hj⟩ := HJ1.out.next _ _ hown' hgrow
  have HJ2 := Lib.hid hj
  have q0 : w2.cell? ⟨w1.heap.size, 0, none⟩ = some (.slice (some ⟨w.heap.size, 0, none⟩) 0 1) := by rw [Lib.cell_of_heap hq]; rfl
  have qf := Lib.frozen_of_heap hq 0
  have e1 := (hb2.cell (p := ⟨b, 1, none⟩) hlt).trans c1
  have hbq : ¬ w1.heap.size = b := by omega
  clear hown' hgrow hq hb2 hj c0 c1 d0 d1
  go_wp2_with fail
  rw [rounds_succ]
  go_wp2_with fail
  rw [rounds_succ]
  go_wp2_with fail
  go_returns
  exact ⟨_, rfl, HJ2.out.err (by simp), HJ2.out.b⟩
set_option maxRecDepth 100000 in
set_option maxHeartbeats 1000000 in
theorem join_right (b : Nat) (w : World) (x : Addr) (c0 : w.cell? ⟨b, 0, none⟩ = some .nilIface) (c1 : w.cell? ⟨b, 1, none⟩ = some (.iface 178 (.pointer (some x)))) :
    Calls Tryz.prog 101 #[.slice (some ⟨b, 0, none⟩) 2 2] w fun e w' => ∃ v, e = .returned v ∧ ErrV w' v ∧ Below w.heap.size w w' := by
  obtain ⟨i0, hi, hz0, hz1, hz2⟩ := info_parts err_info
  go_enter Tryz.func101, Tryz.ntmps101
  go_wp2_with fail
  refine wp_loop_rounds 3 ?_
  rw [rounds_succ]
  go_wp2_with fail
  rw [rounds_succ]
  go_wp2_with fail
  rw [rounds_succ]
  go_wp2_with (at_make; refine wpList_make_own _ rfl _ _ 170 rfl w.heap.size 57 i0 .nilIface 1 Tryz.underlying170 hi hz0 hz1 .i64 .i64 1 1 rfl rfl rfl ?c1 ?c2 ?c3 ?_)
  case c1 => rw [hz2]; omega
  case c2 => unfold maxLen; omega
  case c3 => exact Nat.le_refl _
  intro w1 hown hgr
  have hb1 := (Below.refl w.heap.size w).grown hgr (Nat.le_refl _) (fun k hk => by cases hk)
  have HJ1 := Lib.hid (show JoinAt w (w1.alloc (.cells #[.slice (some ⟨w.heap.size, 0, none⟩) 0 1] 192)) w1.heap.size (.slice (some ⟨w.heap.size, 0, none⟩) 0 1) [] from ⟨heap_alloc_new _ _, hown.alloc _, hb1.alloc hb1.size _, hb1.size⟩)
  have hlt := lt_of_cell c0
  have d0 := (hb1.cell (p := ⟨b, 0, none⟩) hlt).trans c0
  have d1 := (hb1.cell (p := ⟨b, 1, none⟩) hlt).trans c1
  have hlt1 : b < w1.heap.size := lt_of_cell d0
  clear hown hgr hb1
  go_wp2_with fail
  refine wp_loop_rounds 3 ?_
  rw [rounds_succ]
  go_wp2_with fail
  rw [rounds_succ]
  go_wp2_with (at_builtin; refine wpList_append_own _ rfl _ _ 170 rfl w.heap.size 57 i0 .nilIface 1 16 Tryz.underlying170 hi hz0 hz1 hz2 rfl (by decide) _ _ _ rfl (HJ1.out.own.alloc _) ⟨w1.heap.size + 1, 0, none⟩ 1 1 [.iface 178 (.pointer (some x))] rfl rfl ?c1 ?c2 ?c3 ?c4 ?c5 ?_)
  case c1 => 
    have := cell_one_new (w1.alloc (.cells #[.slice (some ⟨w.heap.size, 0, none⟩) 0 1] 192)) (.iface 178 (.pointer (some x))) 57
    rw [World.size_alloc] at this
    exact this
  case c2 => intro u hu; simp at hu; subst hu; rfl
  case c3 => unfold maxLen; simp
  case c4 => simp
  case c5 => have := HJ1.out.b.size; simp at this ⊢; omega
  intro v' w2 hown' hgrow _
  obtain ⟨hq, hb2, ⟨g, cap, rfl⟩, hj⟩ := HJ1.out.next _ _ hown' hgrow
  have HJ2 := Lib.hid hj
  have q0 : w2.cell? ⟨w1.heap.size, 0, none⟩ = some (.slice (some ⟨w.heap.size, 0, none⟩) 0 1) := by rw [Lib.cell_of_heap hq]; rfl
  have qf := Lib.frozen_of_heap hq 0
  have hbq : ¬ w1.heap.size = b := by omega
  clear hown' hgrow hq hb2 hj c0 c1 d0 d1
  go_wp2_with fail
  rw [rounds_succ]
  go_wp2_with fail
  go_returns
  exact ⟨_, rfl, HJ2.out.err (by simp), HJ2.out.b⟩

set_option maxRecDepth 100000 in
set_option maxHeartbeats 1000000 in
theorem join_both (b : Nat) (w : World) (x y : Addr) (c0 : w.cell? ⟨b, 0, none⟩ = some (.iface 178 (.pointer (some x)))) (c1 : w.cell? ⟨b, 1, none⟩ = some (.iface 178 (.pointer (some y)))) :
    Calls Tryz.prog 101 #[.slice (some ⟨b, 0, none⟩) 2 2] w fun e w' => ∃ v, e = .returned v ∧ ErrV w' v ∧ Below w.heap.size w w' := by
  obtain ⟨i0, hi, hz0, hz1, hz2⟩ := info_parts err_info
  go_enter Tryz.func101, Tryz.ntmps101
  go_wp2_with fail
  refine wp_loop_rounds 3 ?_
  rw [rounds_succ]
  go_wp2_with fail
  rw [rounds_succ]
  go_wp2_with fail
  rw [rounds_succ]
  go_wp2_with (at_make; refine wpList_make_own _ rfl _ _ 170 rfl w.heap.size 57 i0 .nilIface 1 Tryz.underlying170 hi hz0 hz1 .i64 .i64 2 2 rfl rfl rfl ?c1 ?c2 ?c3 ?_)
  case c1 => rw [hz2]; omega
  case c2 => unfold maxLen; omega
  case c3 => exact Nat.le_refl _
  intro w1 hown hgr
  have hb1 := (Below.refl w.heap.size w).grown hgr (Nat.le_refl _) (fun k hk => by cases hk)
  have HJ1 := Lib.hid (show JoinAt w (w1.alloc (.cells #[.slice (some ⟨w.heap.size, 0, none⟩) 0 2] 192)) w1.heap.size (.slice (some ⟨w.heap.size, 0, none⟩) 0 2) [] from ⟨heap_alloc_new _ _, hown.alloc _, hb1.alloc hb1.size _, hb1.size⟩)
  have hlt := lt_of_cell c0
  have d0 := (hb1.cell (p := ⟨b, 0, none⟩) hlt).trans c0
  have d1 := (hb1.cell (p := ⟨b, 1, none⟩) hlt).trans c1
  have hlt1 : b < w1.heap.size := lt_of_cell d0
  clear hown hgr hb1
  go_wp2_with fail
  refine wp_loop_rounds 3 ?_
  rw [rounds_succ]
  go_wp2_with (at_builtin; refine wpList_append_own _ rfl _ _ 170 rfl w.heap.size 57 i0 .nilIface 1 16 Tryz.underlying170 hi hz0 hz1 hz2 rfl (by decide) _ _ _ rfl (HJ1.out.own.alloc _) ⟨w1.heap.size + 1, 0, none⟩ 1 1 [.iface 178 (.pointer (some x))] rfl rfl ?c1 ?c2 ?c3 ?c4 ?c5 ?_)
  case c1 => 
    have := cell_one_new (w1.alloc (.cells #[.slice (some ⟨w.heap.size, 0, none⟩) 0 2] 192)) (.iface 178 (.pointer (some x))) 57
    rw [World.size_alloc] at this
    exact this
  case c2 => intro u hu; simp at hu; subst hu; rfl
  case c3 => unfold maxLen; simp
  case c4 => simp
  case c5 => have := HJ1.out.b.size; simp at this ⊢; omega
  intro v' w2 hown' hgrow _
  obtain ⟨hq, hb2, ⟨g, cap, rfl⟩, hj⟩ := HJ1.out.next _ _ hown' hgrow
  have HJ2 := Lib.hid hj
  have q0 : w2.cell? ⟨w1.heap.size, 0, none⟩ = some (.slice (some ⟨w.heap.size, 0, none⟩) 0 2) := by rw [Lib.cell_of_heap hq]; rfl
  have qf := Lib.frozen_of_heap hq 0
  have hbq : ¬ w1.heap.size = b := by omega
  have e1 := (HJ2.out.b.cell (p := ⟨b, 1, none⟩) hlt).trans c1
  have g0 := Lib.cell_of_heap HJ2.out.h 0
  have gf := Lib.frozen_of_heap HJ2.out.h 0
  simp at g0
  have hq2 : w1.heap.size < w2.heap.size := lt_of_heap hq
  clear hown' hgrow hq hb2 hj c0 c1 d0 d1
  go_wp2_with fail
  rw [rounds_succ]
  have hbs := HJ2.out.b.size
  generalize hw3 : w2.setCell ⟨w1.heap.size, 0, none⟩ _ = w3 at *
  have hq3 := lt_of_heap HJ2.out.h
  clear hw3
  go_wp2_with (at_builtin; refine wpList_append_own _ rfl _ _ 170 rfl w.heap.size 57 i0 .nilIface 1 16 Tryz.underlying170 hi hz0 hz1 hz2 rfl (by decide) _ _ _ rfl (HJ2.out.own.alloc _) ⟨w3.heap.size, 0, none⟩ 1 1 [.iface 178 (.pointer (some y))] rfl rfl ?c1 ?c2 ?c3 ?c4 ?c5 ?_)
  case c1 => exact cell_one_new _ _ _
  case c2 => intro u hu; simp at hu; subst hu; rfl
  case c3 => unfold maxLen; simp
  case c4 => simp
  case c5 => simp; omega
  intro v' w4 hown' hgrow _
  obtain ⟨hq, hb4, ⟨g', cap', rfl⟩, hj⟩ := HJ2.out.next _ _ hown' hgrow
  have HJ3 := Lib.hid hj
  have q1 : w4.cell? ⟨w1.heap.size, 0, none⟩ = some (.slice (some ⟨g, 0, none⟩) 1 cap) := by rw [Lib.cell_of_heap hq]; rfl
  have qf1 := Lib.frozen_of_heap hq 0
  clear hown' hgrow hq hb4 hj
  go_wp2_with fail
  rw [rounds_succ]
  go_wp2_with fail
  go_returns
  exact ⟨_, rfl, HJ3.out.err (by simp), HJ3.out.b⟩
end Go.Proofs.YtofllhipjaphfaaGreatDoor
