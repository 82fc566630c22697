/- The walk of the reference's New. -/
import Derived.Test.YtcgaaadcbhkfoaaDoorRef1
import Derived.Test.YtcgaaadcbhkfoaaDoorNew
import Derived.Test.YtcgaaadcbhkfoaaDoorPaint5
namespace Go.Proofs.YtcgaaadcbhkfoaaDoor
open Go Go.Proofs Go.RowKit Go.Ink

def blankG (rows cols : Nat) : List (List UInt8) := List.replicate rows (List.replicate cols 32)
def refNewPost (w : World) (rows cols : Nat) (e : Ending) (w' : World) : Prop :=
  ∃ ao cap, e = .returned (.tuple #[.agg #[.int .i64 rows, .int .i64 cols, .slice ao rows cap, .int .i64 0, .int .i64 0], .int .i64 0]) ∧ SlOf IsBytes w' ao cap (blankG rows cols) ∧ Below w.heap.size w w'

theorem byte_own {w : World} {B : Nat} {u : Value} {n : Nat} {c : UInt8} (h : w.ownsRow B 5 1 u n (List.replicate n (.int .u8 (c.toNat : Int)))) : IsBytes w u (List.replicate n c) := by
  rcases h.2 with ⟨rfl, h0⟩ | ⟨g, cap, cur, rfl, _, hg, h1, h2, h3, h4⟩
  · subst h0
    exact ⟨none, 0, rfl, by simp, by simp [maxLen], fun _ => rfl, fun k x hx => by simp at hx⟩
  · refine ⟨some ⟨g, 0, none⟩, cap, by simp, by simpa using h1, h2, by simp, fun k x hx => ⟨g, 0, _, rfl, ?_, rfl⟩⟩
    have hk : k < n := by have := (List.getElem?_eq_some_iff.1 hx).1; simpa using this
    have hxc : x = c := List.eq_of_mem_replicate (List.mem_of_getElem? hx)
    subst hxc
    rw [Lib.cell_of_heap hg, Nat.zero_add]
    have h5 : (cur.toList.take (n * 1))[k]? = (List.replicate n (Value.int .u8 (x.toNat : Int)))[k]? := by rw [h4]
    rw [List.getElem?_take, if_pos (by omega), List.getElem?_replicate, if_pos hk] at h5
    simpa using h5
/-- Two owned rows of unlike element types lie in two blocks. -/
theorem own_apart {w : World} {B B' : Nat} {e e' : TypeId} {u v : Value} {n m : Nat} {xs ys : List Value} (h : w.ownsRow B e 1 u n xs) (k : w.ownsRow B' e' 1 v m ys) (hne : e ≠ e') : u.ownBlock = none ∨ u.ownBlock ≠ v.ownBlock := by
  rcases h.2 with ⟨rfl, _⟩ | ⟨g, cap, cur, rfl, _, hg, _⟩
  · exact .inl rfl
  · right
    rcases k.2 with ⟨rfl, _⟩ | ⟨g', cap', cur', rfl, _, hg', _⟩
    · simp [Value.ownBlock]
    · simp only [Value.ownBlock, ne_eq, Option.some.injEq]
      rintro rfl
      rw [hg] at hg'
      simp only [Option.some.injEq, Obj.cells.injEq] at hg'
      exact hne hg'.2.1
theorem own_later {w w' : World} {B : Nat} {e : TypeId} {v : Value} {n : Nat} {xs : List Value} (h : w.ownsRow B e 1 v n xs) {b : Nat} (hb : Below b w w') (hlt : ∀ k, v.ownBlock = some k → k < b) : w'.ownsRow B e 1 v n xs := by
  refine ⟨h.1, ?_⟩
  rcases h.2 with h2 | ⟨g, cap, cur, rfl, hg, hh, r⟩
  · exact .inl h2
  · exact .inr ⟨g, cap, cur, rfl, hg, (hb.block g (hlt g rfl)).trans hh, r⟩

/-- What stands at the head of the outer loop: k rows of blanks. -/
structure BlankAt (w wr : World) (rows cols k : Nat) (v : Value) (us : List Value) : Prop where
  a : wr.heap[w.heap.size]? = some (.cells #[.int .i64 0, .int .i64 0, .slice none 0 0, .int .i64 0, .int .i64 0] 24 (0, 0))
  g : wr.heap[w.heap.size + 1]? = some (.cells #[.int .i64 rows, .int .i64 cols, v, .int .i64 0, .int .i64 0] 24 (0, 0))
  len : us.length = k
  one : ∀ u ∈ us, u.oneCell' = true
  o : wr.ownsRow (w.heap.size + 2) 30 1 v k us
  us : ∀ u ∈ us, wr.ownsRow 0 5 1 u cols (List.replicate cols (.int .u8 32))
  b : Below w.heap.size w wr
theorem BlankAt.next {w wr wi w5 : World} {rows cols k : Nat} {v v' u : Value} {us : List Value} {ob : Obj} (h : BlankAt w wr rows cols k v us) (hi : Below wr.heap.size wr wi)
    (hu : wi.ownsRow wr.heap.size 5 1 u cols (List.replicate cols (.int .u8 32))) (hu1 : u.oneCell' = true) (hg : (wi.alloc ob).grownBy w5 v.ownBlock)
    (ho : w5.ownsRow (w.heap.size + 2) 30 1 v' (k + 1) (us ++ [u])) : BlankAt w (w5.setCell ⟨w.heap.size + 1, 2, none⟩ v') rows cols (k + 1) v' (us ++ [u]) := by
  obtain ⟨a, g, len, one, o, hus, b⟩ := h
  have h0 : w.heap.size < wr.heap.size := (Array.getElem?_eq_some_iff.1 a).1
  have h1 : w.heap.size + 1 < wr.heap.size := (Array.getElem?_eq_some_iff.1 g).1
  have hz := hi.size
  have hold : ∀ j, j < wr.heap.size → j < w.heap.size + 2 → w5.heap[j]? = wr.heap[j]? := fun j h1 h2 =>
    (hg.block j (by simp; omega) (fun e => ownsRow_ne o h2 e.symm)).trans ((Below.heap_alloc wi _ _ (by omega)).trans (hi.block j h1))
  have hbelow : Below w.heap.size w w5 := ((b.trans (hi.mono (by omega))).alloc (by omega) ob).grown hg (by simp; omega) (fun j hj => by have := (o.lt j hj).1; omega)
  have oi : wi.ownsRow (w.heap.size + 2) 30 1 v k us := own_later o hi (fun j hj => (o.lt j hj).2)
  refine ⟨?_, ?_, by simp [len], ?_, ?_, ?_, hbelow.setCell (by simp) _⟩
  · rw [Below.heap_setCell _ _ _ _ (by simp), hold _ h0 (by omega)]; exact a
  · have := (hold _ h1 (by omega)).trans g
    simp [World.setCell, Array.getElem?_modify, this]
  · intro x hx
    rcases List.mem_append.1 hx with hx | hx
    · exact one x hx
    · simp at hx; subst hx; exact hu1
  · exact ownsRow_setCell_below ho (by simp) _
  · have key : ∀ x, wi.ownsRow 0 5 1 x cols (List.replicate cols (.int .u8 32)) → (w5.setCell ⟨w.heap.size + 1, 2, none⟩ v').ownsRow 0 5 1 x cols (List.replicate cols (.int .u8 32)) := by
      intro x hx
      have h5 : w5.ownsRow 0 5 1 x cols (List.replicate cols (.int .u8 32)) := (hx.alloc ob).kept hg (own_apart hx oi (by decide))
      refine ownsRow_setCell_other h5 (fun e => ?_) _
      rcases h5.2 with ⟨rfl, _⟩ | ⟨gx, cp, cu, rfl, _, hh, _⟩
      · simp [Value.ownBlock] at e
      · simp [Value.ownBlock] at e
        subst e
        rw [hold _ h1 (by omega), g] at hh
        simp at hh
    intro x hx
    rcases List.mem_append.1 hx with hx | hx
    · exact key x (own_later (hus x hx) hi (fun j hj => ((hus x hx).lt j hj).2))
    · simp at hx; subst hx
      refine key x ⟨hu.1, ?_⟩
      rcases hu.2 with h | ⟨g', cap, cur, hv, _, r⟩
      · exact .inl h
      · exact .inr ⟨g', cap, cur, hv, Nat.zero_le _, r⟩
theorem one_cell_news {w : World} {u : Value} {e : TypeId} {wd : World} (hw : wd.heap = (w.alloc (.cells #[u] e (0, 0))).heap) : ∀ j x, [u][j]? = some x → wd.cell? ((⟨w.heap.size, 0, none⟩ : Addr).add j) = some x := by
  intro j x hj
  match j, hj with
  | 0, hj =>
    simp at hj; subst hj
    show wd.cell? ⟨w.heap.size, 0, none⟩ = _
    rw [Lib.cell_of_heap (cs := #[u]) (T := e) (fr := (0, 0)) (by rw [hw]; show (w.heap.push _)[w.heap.size]? = _; rw [Array.getElem?_push, if_pos rfl])]
    rfl
theorem two_blocks {w : World} (o1 o2 : Obj) : ((w.alloc o1).alloc o2).heap[w.heap.size]? = some o1 ∧ ((w.alloc o1).alloc o2).heap[w.heap.size + 1]? = some o2 := by
  constructor
  · show ((w.heap.push o1).push o2)[w.heap.size]? = _
    rw [Array.getElem?_push, if_neg (by simp), Array.getElem?_push, if_pos rfl]
  · show ((w.heap.push o1).push o2)[w.heap.size + 1]? = _
    rw [Array.getElem?_push, if_pos (by simp)]
theorem blank_start {w : World} {rows cols : Nat} : BlankAt w ((w.alloc (.cells #[.int .i64 0, .int .i64 0, .slice none 0 0, .int .i64 0, .int .i64 0] 24 (0, 0))).alloc (.cells #[.int .i64 rows, .int .i64 cols, .slice none 0 0, .int .i64 0, .int .i64 0] 24 (0, 0))) rows cols 0 (.slice none 0 0) [] :=
  ⟨(two_blocks _ _).1, (two_blocks _ _).2, rfl, (by intro u hu; cases hu), World.ownsRow_nil _ _ _ _, (by intro u hu; cases hu), below_two _ _⟩
theorem blank_rows {w wr : World} {rows cols cap : Nat} {ao : Option Addr} {us : List Value} (h : BlankAt w wr rows cols rows (.slice ao rows cap) us) {W : World} (hW : ∀ k, k ≠ w.heap.size → W.heap[k]? = wr.heap[k]?) : SlOf IsBytes W ao cap (blankG rows cols) := by
  have hcell : ∀ u ∈ us, IsBytes W u (List.replicate cols 32) := by
    intro u hu
    have := h.us u hu
    refine byte_own (B := 0) ⟨this.1, ?_⟩
    rcases this.2 with h2 | ⟨g, cp, cur, hv, hg, hh, r⟩
    · exact .inl h2
    · refine .inr ⟨g, cp, cur, hv, hg, (hW g (fun e => ?_)).trans hh, r⟩
      rw [e, h.a] at hh
      simp at hh
  rcases h.o.2 with ⟨hv, h0⟩ | ⟨g, cp, cu, hv, hg, hh, h1, h2, h3, h4⟩
  · injection hv with e1 e2 e3
    subst e1 e3 h0
    exact ⟨by simp [blankG], by simp [maxLen], fun _ => rfl, fun k x hk => by simp [blankG] at hk⟩
  · injection hv with e1 e2 e3
    subst e1 e3
    refine ⟨by simpa [blankG] using h1, h2, by simp, fun k x hk => ?_⟩
    have hkr : k < rows := by have := (List.getElem?_eq_some_iff.1 hk).1; simpa [blankG] using this
    have hx : x = List.replicate cols 32 := List.eq_of_mem_replicate (List.mem_of_getElem? hk)
    subst hx
    obtain ⟨u, hu⟩ : ∃ u, us[k]? = some u := ⟨_, List.getElem?_eq_getElem (by rw [h.len]; exact hkr)⟩
    refine ⟨g, 0, u, rfl, ?_, hcell u (List.mem_of_getElem? hu)⟩
    rw [Lib.cell_of_heap ((hW g (by omega)).trans hh), Nat.zero_add]
    have h5 : (cu.toList.take (rows * 1))[k]? = us[k]? := by rw [h4]
    rw [List.getElem?_take, if_pos (by omega), hu] at h5
    simpa using h5

set_option maxHeartbeats 2000000 in
theorem refNew_yes (rows cols : Nat) (w : World) (h1 : 2 ≤ rows) (h2 : rows ≤ 60) (h3 : 8 ≤ cols) (h4 : cols ≤ 132) :
    Calls Tryd.prog 22 #[.int .i64 rows, .int .i64 cols] w (refNewPost w rows cols) := by
  have hs : sizedB (rows : Int) (cols : Int) = true := by simp [sizedB]; omega
  have HS := Lib.hid hs; clear hs
  obtain ⟨i0, hi, hz0, hz1, hz2⟩ := info_parts byte_info
  obtain ⟨i1, hi1, hy0, hy1, hy2⟩ := info_parts bytes_info
  go_enter Tryd.func22, Tryd.ntmps22
  go_wp2_with fail
  refine (refSized_any _ _ _).mono ?_
  rintro e w1 ⟨rfl, rfl⟩
  rw [HS.out]
  go_wp2_with fail
  go_loopw [7] (fun i wr => ∃ (k : Nat) (v : Value) (us : List Value), i = .int .i64 k ∧ k ≤ rows ∧ Hid (BlankAt w wr rows cols k v us)) (fun i _ => rows - (intOf i).toNat)
  case atStart => exact ⟨0, _, [], rfl, by omega, blank_start⟩
  case round =>
    obtain ⟨k, v, us, rfl, hk, H⟩ := hrel
    by_cases hlt : k < rows
    · have hlti : (k : Int) < (rows : Int) := by omega
      obtain ⟨wo, hwo⟩ : ∃ wo : World, wo = wr := ⟨_, rfl⟩
      subst hwo
      go_wp2_with fail
      go_loopw [8, 9] (fun u i wi => ∃ j : Nat, i = .int .i64 j ∧ j ≤ cols ∧ Hid (wi.ownsRow wo.heap.size 5 1 u j (List.replicate j (.int .u8 32))) ∧ Hid (Below wo.heap.size wo wi)) (fun _ i _ => cols - (intOf i).toNat)
      case atStart => exact ⟨0, rfl, by omega, World.ownsRow_nil _ _ _ _, Below.refl _ _⟩
      case round =>
        rename_i u8v u9v
        obtain ⟨j, rfl, hj, HO, HB⟩ := hrel
        by_cases hjl : j < cols
        · have hji : (j : Int) < (cols : Int) := by omega
          go_wp2_with (at_builtin; refine wpList_append_own _ rfl (.tmp 28) (.tmp 29) 30 rfl wo.heap.size 5 i0 (.int .u8 0) 1 1 Tryd.underlying30 hi hz0 hz1 hz2 rfl (by decide) _ j (List.replicate j (.int .u8 32)) rfl (HO.out.alloc _) ⟨wr.heap.size, 0, none⟩ 1 1 [.int .u8 32] rfl rfl ?c1 ?c2 ?c3 ?c4 ?c5 ?_)
          case c1 => exact one_cell_news rfl
          case c2 => intro x hx; simp at hx; subst hx; rfl
          case c3 => unfold maxLen; omega
          case c4 => omega
          case c5 => have := HB.out.size; simp; omega
          intro v' w5 hown' hgrow hnil
          clear hnil
          have HO5 : Hid (w5.ownsRow wo.heap.size 5 1 v' (j + 1) (List.replicate (j + 1) (.int .u8 32))) := by rw [List.replicate_succ']; exact hown'
          have HB5 : Hid (Below wo.heap.size wo w5) := (HB.out.alloc HB.out.size _).grown hgrow (by have := HB.out.size; simp; omega) (fun g hg => (HO.out.lt g hg).1)
          clear hown' hgrow
          go_wp2_with fail
          go_roundw
          case rel => exact ⟨j + 1, by go_num, by omega, HO5, HB5⟩
          case measure => simp [intOf] <;> omega
        · obtain rfl : j = cols := by omega
          have hgi : wr.heap[w.heap.size + 1]? = _ := (HB.out.block _ (Array.getElem?_eq_some_iff.1 H.out.g).1).trans H.out.g
          have hlt1 : w.heap.size + 1 < wr.heap.size := (Array.getElem?_eq_some_iff.1 hgi).1
          have oi := Lib.hid (own_later H.out.o HB.out (fun j hj => (H.out.o.lt j hj).2))
          obtain ⟨ao, cp, rfl⟩ := ownsRow_shape H.out.o
          obtain ⟨au, cu, rfl⟩ := ownsRow_shape HO.out
          have d2 := Lib.cell_of_heap hgi 2
          simp at d2
          have HGI := Lib.hid hgi; clear hgi
          have hne2 := Lib.hid (ownsRow_ne H.out.o (show w.heap.size + 1 < w.heap.size + 2 by omega))
          have hone : ∀ x ∈ [Value.slice au j cu], x.oneCell' = true := by intro x hx; simp at hx; subst hx; rfl
          have HONE := Lib.hid hone; clear hone
          go_wp2_with (at_builtin; refine wpList_append_own _ rfl (.tmp 32) (.tmp 34) 22 rfl (w.heap.size + 2) 30 i1 (.slice none 0 0) 1 24 Tryd.underlying22 hi1 hy0 hy1 hy2 rfl (by decide) _ k us rfl (oi.out.alloc _) ⟨wr.heap.size, 0, none⟩ 1 1 [.slice au j cu] rfl rfl ?e1 HONE.out ?e3 ?e4 ?e5 ?_)
          case e1 => exact one_cell_news rfl
          case e3 => unfold maxLen; omega
          case e4 => omega
          case e5 => simp; omega
          intro v' w5 hown' hgrow hnil
          clear hnil
          obtain ⟨ao', cp', rfl⟩ := ownsRow_shape hown'
          have hG5 := (hgrow.block (w.heap.size + 1) (by simp; omega) (fun e => hne2.out e.symm)).trans ((Below.heap_alloc wr _ _ hlt1).trans HGI.out)
          have e2 := Lib.cell_of_heap hG5 2
          have f2 := Lib.frozen_of_heap hG5 2
          simp at e2
          have HN5 : Hid (BlankAt w _ rows j (k + 1) _ _) := BlankAt.next H.out HB.out HO.out rfl hgrow hown'
          clear hG5 hgrow hown' oi d2
          go_wp2_with fail
          go_roundw
          case rel => exact ⟨k + 1, _, _, by go_num, by omega, HN5⟩
          case measure => simp [intOf] <;> omega
    · obtain rfl : k = rows := by omega
      obtain ⟨ao, cp, rfl⟩ := ownsRow_shape H.out.o
      have hd := Lib.cell_of_heap H.out.g
      have d0 := hd 0
      have d1 := hd 1
      have d2 := hd 2
      have d3 := hd 3
      have d4 := hd 4
      have ea := Lib.cell_of_heap H.out.a
      have e0 := ea 0
      have e1 := ea 1
      have e2 := ea 2
      have e3 := ea 3
      have e4 := ea 4
      have f0 := Lib.frozen_of_heap H.out.a 0
      have f1 := Lib.frozen_of_heap H.out.a 1
      have f2 := Lib.frozen_of_heap H.out.a 2
      have f3 := Lib.frozen_of_heap H.out.a 3
      have f4 := Lib.frozen_of_heap H.out.a 4
      simp at d0 d1 d2 d3 d4 e0 e1 e2 e3 e4
      clear hd ea
      obtain ⟨s0, s1, s2, s3, s4⟩ := five_cells H.out.a (.int .i64 k) (.int .i64 cols) (.slice ao k cp) (.int .i64 0) (.int .i64 0)
      have hfin := Lib.hid (blank_rows H.out (fun j hj => five_other (w := wr) hj (.int .i64 k) (.int .i64 cols) (.slice ao k cp) (.int .i64 0) (.int .i64 0)))
      have hb := Lib.hid (((((H.out.b.setCell (p := ⟨w.heap.size, 0, none⟩) (Nat.le_refl _) (.int .i64 k)).setCell (p := ⟨w.heap.size, 1, none⟩) (Nat.le_refl _) (.int .i64 cols)).setCell (p := ⟨w.heap.size, 2, none⟩) (Nat.le_refl _) (.slice ao k cp)).setCell (p := ⟨w.heap.size, 3, none⟩) (Nat.le_refl _) (.int .i64 0)).setCell (p := ⟨w.heap.size, 4, none⟩) (Nat.le_refl _) (.int .i64 0))
      go_wp2_with fail
      refine bodyPost_ret (v := .tuple #[.agg #[.int .i64 k, .int .i64 cols, .slice ao k cp, .int .i64 0, .int .i64 0], .int .i64 0]) (by simp [results, Tryd.results22, go_sem, s0, s1, s2, s3, s4]) rfl ?_
      exact ⟨ao, cp, rfl, hfin.out, hb.out⟩
end Go.Proofs.YtcgaaadcbhkfoaaDoor
