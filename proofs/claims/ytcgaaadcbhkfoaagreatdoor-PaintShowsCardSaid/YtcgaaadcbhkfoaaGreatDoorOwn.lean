/- Rows of bytes in memory of the call's own: each in a block of its own. -/
import Derived.Test.YtcgaaadcbhkfoaaGreatDoorKeep
import Derived.Test.YtcgaaadcbhkfoaaGreatDoorProg
import Derived.Laws.OwnMore
namespace Go.Proofs.YtcgaaadcbhkfoaaGreatDoor
open Go Go.Proofs Go.RowKit Go.Ink

theorem five_keep (w : World) (b : Nat) (v0 v1 v2 v3 v4 : Value) :
    KeepT (fun i => i = b) w (((((w.setCell ⟨b, 0, none⟩ v0).setCell ⟨b, 1, none⟩ v1).setCell ⟨b, 2, none⟩ v2).setCell ⟨b, 3, none⟩ v3).setCell ⟨b, 4, none⟩ v4) :=
  ((((((KeepT.refl (fun i => i = b) w).setCell (p := ⟨b, 0, none⟩) (.inl rfl) _).setCell (p := ⟨b, 1, none⟩) (.inl rfl) _).setCell (p := ⟨b, 2, none⟩) (.inl rfl) _).setCell (p := ⟨b, 3, none⟩) (.inl rfl) _).setCell (p := ⟨b, 4, none⟩) (.inl rfl) _)
def rowVal (b : Nat × Nat) (l : List UInt8) : Value := .slice (some ⟨b.1, 0, none⟩) l.length b.2
def rowVals (bs : List (Nat × Nat)) (cells : List (List UInt8)) : List Value := List.zipWith rowVal bs cells
/-- Rows: v holds their slices; bs: the block and the capacity of each. -/
structure OwnRows (w : World) (lo : Nat) (v : Value) (bs : List (Nat × Nat)) (cells : List (List UInt8)) : Prop where
  len : cells.length = bs.length
  nodup : (bs.map (·.1)).Nodup
  rows : w.ownsRow lo 37 1 v bs.length (rowVals bs cells)
  ge : ∀ b ∈ bs, lo ≤ b.1
  bytes : ∀ (k : Nat) b l, bs[k]? = some b → cells[k]? = some l → l.length ≤ b.2 ∧ b.2 ≤ maxLen ∧ ∃ cs : Array Value, w.heap[b.1]? = some (.cells cs 5 (0, 0)) ∧ ∀ (j : Nat) (c : UInt8), l[j]? = some c → cs[j]? = some (Value.int .u8 (c.toNat : Int))
/-- The blocks of rows. -/
def RowsS (v : Value) (bs : List (Nat × Nat)) (k : Nat) : Prop := v.ownBlock = some k ∨ k ∈ bs.map (·.1)
theorem rowVals_at {bs : List (Nat × Nat)} {cells : List (List UInt8)} {k : Nat} {b : Nat × Nat} {l : List UInt8} (hb : bs[k]? = some b) (hl : cells[k]? = some l) : (rowVals bs cells)[k]? = some (rowVal b l) := by
  unfold rowVals; rw [List.getElem?_zipWith, hb, hl]
theorem rowVals_len {bs : List (Nat × Nat)} {cells : List (List UInt8)} (h : cells.length = bs.length) : (rowVals bs cells).length = bs.length := by
  unfold rowVals; rw [List.length_zipWith]; omega
theorem rowVals_snoc {bs : List (Nat × Nat)} {cells : List (List UInt8)} (h : cells.length = bs.length) (b : Nat × Nat) (l : List UInt8) : rowVals (bs ++ [b]) (cells ++ [l]) = rowVals bs cells ++ [rowVal b l] := by
  unfold rowVals; rw [List.zipWith_append h.symm]; rfl
theorem OwnRows.at {w : World} {lo : Nat} {v : Value} {bs : List (Nat × Nat)} {cells : List (List UInt8)} (h : OwnRows w lo v bs cells) {k : Nat} (hk : k < cells.length) : ∃ b l, bs[k]? = some b ∧ cells[k]? = some l :=
  ⟨_, _, List.getElem?_eq_getElem (by have := h.len; omega), List.getElem?_eq_getElem hk⟩
theorem OwnRows.shape {w : World} {lo : Nat} {v : Value} {bs : List (Nat × Nat)} {cells : List (List UInt8)} (h : OwnRows w lo v bs cells) : ∃ ao cap, v = .slice ao cells.length cap := by
  rw [h.len]; exact ownsRow_shape h.rows
/-- The k-th row's slice, as it is read. -/
theorem OwnRows.row {w : World} {lo g n cap : Nat} {bs : List (Nat × Nat)} {cells : List (List UInt8)} (h : OwnRows w lo (.slice (some ⟨g, 0, none⟩) n cap) bs cells) {k : Nat} {b : Nat × Nat} {l : List UInt8} (hb : bs[k]? = some b) (hl : cells[k]? = some l) :
    w.cell? ⟨g, k, none⟩ = some (rowVal b l) ∧ w.frozen? ⟨g, k, none⟩ = false := by
  have hkb := (List.getElem?_eq_some_iff.1 hb).1
  rcases h.rows.2 with ⟨e, _⟩ | ⟨g', cap', cur, hv, _, hg, h1, _, h3, h4⟩
  · cases e
  · injection hv with e1 e2 e3
    injection e1 with e1; injection e1 with e1
    subst e1
    refine ⟨?_, Lib.frozen_of_heap hg k⟩
    rw [Lib.cell_of_heap hg]
    have h5 : (cur.toList.take (bs.length * 1))[k]? = (rowVals bs cells)[k]? := by rw [h4]
    rw [List.getElem?_take, if_pos (by omega), rowVals_at hb hl] at h5
    simpa using h5
theorem OwnRows.byte {w : World} {lo : Nat} {v : Value} {bs : List (Nat × Nat)} {cells : List (List UInt8)} (h : OwnRows w lo v bs cells) {k j : Nat} {b : Nat × Nat} {l : List UInt8} {c : UInt8} (hb : bs[k]? = some b) (hl : cells[k]? = some l) (hc : l[j]? = some c) :
    w.cell? ⟨b.1, j, none⟩ = some (.int .u8 (c.toNat : Int)) ∧ w.frozen? ⟨b.1, j, none⟩ = false := by
  obtain ⟨_, _, cs, h1, h2⟩ := h.bytes k b l hb hl
  exact ⟨by rw [Lib.cell_of_heap h1]; exact h2 j c hc, Lib.frozen_of_heap h1 j⟩
theorem OwnRows.slRow {w : World} {lo : Nat} {v : Value} {bs : List (Nat × Nat)} {cells : List (List UInt8)} (h : OwnRows w lo v bs cells) {k : Nat} {b : Nat × Nat} {l : List UInt8} (hb : bs[k]? = some b) (hl : cells[k]? = some l) : SlOf IsByte w (some ⟨b.1, 0, none⟩) b.2 l := by
  obtain ⟨h1, h2, _⟩ := h.bytes k b l hb hl
  exact ⟨h1, h2, by simp, fun j c hj => ⟨b.1, 0, _, rfl, by rw [Nat.zero_add]; exact (h.byte hb hl hj).1, rfl⟩⟩
theorem OwnRows.sl {w : World} {lo : Nat} {ao : Option Addr} {n cap : Nat} {bs : List (Nat × Nat)} {cells : List (List UInt8)} (h : OwnRows w lo (.slice ao n cap) bs cells) : SlOf IsBytes w ao cap cells := by
  rcases h.rows.2 with ⟨e, h0⟩ | ⟨g', cap', cur, hv, _, hg, h1, h2, h3, h4⟩
  · injection e with e1 e2 e3
    subst e1 e3
    have : cells = [] := List.eq_nil_of_length_eq_zero (by have := h.len; omega)
    subst this
    exact ⟨by simp, by simp [maxLen], fun _ => rfl, fun k x h => by simp at h⟩
  · injection hv with e1 e2 e3
    subst e1 e3
    refine ⟨by have := h.len; omega, h2, by simp, fun k l hl => ?_⟩
    have hk := (List.getElem?_eq_some_iff.1 hl).1
    obtain ⟨b, l', hb, hl'⟩ := h.at hk
    have e := Option.some.inj (hl'.symm.trans hl)
    subst e
    exact ⟨g', 0, rowVal b l', rfl, by rw [Nat.zero_add]; exact (h.row hb hl).1, _, _, rfl, h.slRow hb hl⟩
theorem OwnRows.lt {w : World} {lo : Nat} {v : Value} {bs : List (Nat × Nat)} {cells : List (List UInt8)} (h : OwnRows w lo v bs cells) : ∀ k, RowsS v bs k → lo ≤ k ∧ k < w.heap.size := by
  intro k e
  rcases e with e | e
  · exact h.rows.lt k e
  · simp only [List.mem_map] at e
    obtain ⟨b, hb, rfl⟩ := e
    refine ⟨h.ge b hb, ?_⟩
    obtain ⟨i, hi⟩ := List.getElem?_of_mem hb
    obtain ⟨_, l, hb', hl⟩ := h.at (k := i) (by have := h.len; have := (List.getElem?_eq_some_iff.1 hi).1; omega)
    obtain ⟨_, _, cs, h1, _⟩ := h.bytes i b l hi hl
    exact lt_of_heap h1
theorem OwnRows.kept {w w' : World} {lo : Nat} {v : Value} {bs : List (Nat × Nat)} {cells : List (List UInt8)} {S : Nat → Prop} (h : OwnRows w lo v bs cells) (hk : KeepT S w w') (hn : ∀ i, RowsS v bs i → ¬ S i) : OwnRows w' lo v bs cells := by
  refine ⟨h.len, h.nodup, ownsRow_kept hk h.rows (fun b e => hn b (.inl e)), h.ge, fun k b l hb hl => ?_⟩
  obtain ⟨h1, h2, cs, h3, h4⟩ := h.bytes k b l hb hl
  exact ⟨h1, h2, cs, (hk.block b.1 (lt_of_heap h3) (hn _ (.inr (List.mem_map.2 ⟨b, List.mem_of_getElem? hb, rfl⟩)))).trans h3, h4⟩
theorem OwnRows.later {w w' : World} {lo : Nat} {v : Value} {bs : List (Nat × Nat)} {cells : List (List UInt8)} (h : OwnRows w lo v bs cells) (hb : Below w.heap.size w w') : OwnRows w' lo v bs cells :=
  h.kept (S := fun _ => False) (KeepT.of_below hb) (fun _ _ e => e)
/-- The slices' block is none of the rows'. -/
theorem OwnRows.apart {w : World} {lo : Nat} {v : Value} {bs : List (Nat × Nat)} {cells : List (List UInt8)} (h : OwnRows w lo v bs cells) : ∀ k, v.ownBlock = some k → k ∉ bs.map (·.1) := by
  intro k e hm
  simp only [List.mem_map] at hm
  obtain ⟨b, hb, rfl⟩ := hm
  obtain ⟨i, hi⟩ := List.getElem?_of_mem hb
  obtain ⟨_, l, hb', hl⟩ := h.at (k := i) (by have := h.len; have := (List.getElem?_eq_some_iff.1 hi).1; omega)
  obtain ⟨_, _, cs, h1, _⟩ := h.bytes i b l hi hl
  rcases h.rows.2 with ⟨hv, _⟩ | ⟨g', cap', cur, hv, _, hg, _⟩
  · subst hv; cases e
  · subst hv
    simp only [Value.ownBlock, Option.some.injEq] at e
    subst e
    rw [h1] at hg
    simp only [Option.some.injEq, Obj.cells.injEq] at hg
    exact absurd hg.2.1 (by decide)
/-- One byte that is written. -/
theorem OwnRows.set {w : World} {lo : Nat} {v : Value} {bs : List (Nat × Nat)} {cells : List (List UInt8)} (h : OwnRows w lo v bs cells) {k j : Nat} {b : Nat × Nat} {l : List UInt8} (hb : bs[k]? = some b) (hl : cells[k]? = some l) (hj : j < l.length) (c : UInt8) :
    OwnRows (w.setCell ⟨b.1, j, none⟩ (.int .u8 (c.toNat : Int))) lo v bs (cells.set k (l.set j c)) := by
  have hlen := h.len
  have hkc := (List.getElem?_eq_some_iff.1 hl).1
  have hkb := (List.getElem?_eq_some_iff.1 hb).1
  have hmem : b.1 ∈ bs.map (·.1) := List.mem_map.2 ⟨b, List.mem_of_getElem? hb, rfl⟩
  have hrv : rowVals bs (cells.set k (l.set j c)) = rowVals bs cells := by
    refine List.ext_getElem? fun i => ?_
    unfold rowVals
    rw [List.getElem?_zipWith, List.getElem?_zipWith]
    by_cases e : k = i
    · subst e
      rw [List.getElem?_set_self hkc, hl, hb]
      simp [rowVal]
    · rw [List.getElem?_set_ne e]
  refine ⟨by simpa using hlen, h.nodup, ?_, h.ge, fun i b' l' hb' hl' => ?_⟩
  · rw [hrv]
    refine ownsRow_kept (S := fun i => i = b.1) ((KeepT.refl (fun i => i = b.1) w).setCell (p := ⟨b.1, j, none⟩) (.inl rfl) _) h.rows (fun i e e' => ?_)
    subst e'
    exact h.apart _ e hmem
  · by_cases e : k = i
    · subst e
      have e1 := Option.some.inj (hb.symm.trans hb')
      subst e1
      rw [List.getElem?_set_self hkc] at hl'
      injection hl' with hl'
      subst hl'
      obtain ⟨h1, h2, cs, h3, h4⟩ := h.bytes k b l hb hl
      refine ⟨by simpa using h1, h2, _, heap_set h3 _, fun m d hm => ?_⟩
      rw [Array.getElem?_setIfInBounds]
      by_cases ejm : j = m
      · subst ejm
        have hsz : j < cs.size := (Array.getElem?_eq_some_iff.1 (h4 j l[j] (List.getElem?_eq_getElem hj))).1
        rw [if_pos rfl, if_pos hsz]
        rw [List.getElem?_set_self hj] at hm
        injection hm with hm
        rw [hm]
      · rw [if_neg ejm]
        rw [List.getElem?_set_ne ejm] at hm
        exact h4 m d hm
    · rw [List.getElem?_set_ne e] at hl'
      obtain ⟨h1, h2, cs, h3, h4⟩ := h.bytes i b' l' hb' hl'
      have hne : b'.1 ≠ b.1 := fun e' => by
        obtain ⟨hi1, hi2⟩ := List.getElem?_eq_some_iff.1 hb'
        obtain ⟨_, hk2⟩ := List.getElem?_eq_some_iff.1 hb
        have hp := List.pairwise_iff_getElem.1 h.nodup
        have hh : (bs.map (·.1))[i]'(by simpa using hi1) = (bs.map (·.1))[k]'(by simpa using hkb) := by simp [hi2, hk2, e']
        rcases Nat.lt_or_gt_of_ne e with h5 | h5
        · exact hp k i (by simpa using hkb) (by simpa using hi1) h5 hh.symm
        · exact hp i k (by simpa using hi1) (by simpa using hkb) h5 hh
      exact ⟨h1, h2, cs, (Below.heap_setCell _ _ _ _ hne).trans h3, h4⟩
/-- One row more. -/
theorem OwnRows.snoc {w w' : World} {lo : Nat} {v v' : Value} {bs : List (Nat × Nat)} {cells : List (List UInt8)} (h : OwnRows w lo v bs cells) {S : Nat → Prop} (hk : KeepT S w w') (hn : ∀ i, RowsS v bs i → S i → v.ownBlock = some i) {b : Nat × Nat} {l : List UInt8}
    (hrows : w'.ownsRow lo 37 1 v' (bs.length + 1) (rowVals bs cells ++ [rowVal b l])) (hlo : lo ≤ b.1) (hnew : b.1 ∉ bs.map (·.1))
    (hb : l.length ≤ b.2 ∧ b.2 ≤ maxLen ∧ ∃ cs : Array Value, w'.heap[b.1]? = some (.cells cs 5 (0, 0)) ∧ ∀ (j : Nat) (c : UInt8), l[j]? = some c → cs[j]? = some (Value.int .u8 (c.toNat : Int))) :
    OwnRows w' lo v' (bs ++ [b]) (cells ++ [l]) := by
  have hlen := h.len
  refine ⟨by simp [hlen], ?_, by rw [rowVals_snoc hlen]; simpa using hrows, fun x hx => ?_, fun k x y hx hy => ?_⟩
  · rw [List.map_append, List.nodup_append]
    refine ⟨h.nodup, by simp, fun a ha c hc => ?_⟩
    simp only [List.map_cons, List.map_nil, List.mem_singleton] at hc
    subst hc
    exact fun e => hnew (e ▸ ha)
  · rcases List.mem_append.1 hx with hx | hx
    · exact h.ge x hx
    · simp at hx; subst hx; exact hlo
  · rcases Nat.lt_or_ge k bs.length with hk' | hk'
    · rw [List.getElem?_append_left hk'] at hx
      rw [List.getElem?_append_left (by omega)] at hy
      obtain ⟨h1, h2, cs, h3, h4⟩ := h.bytes k x y hx hy
      have hm : x.1 ∈ bs.map (·.1) := List.mem_map.2 ⟨x, List.mem_of_getElem? hx, rfl⟩
      exact ⟨h1, h2, cs, (hk.block x.1 (lt_of_heap h3) (fun e => h.apart _ (hn _ (.inr hm) e) hm)).trans h3, h4⟩
    · rw [List.getElem?_append_right hk'] at hx
      rw [List.getElem?_append_right (by omega)] at hy
      have hk0 : k - bs.length = 0 := by have := (List.getElem?_eq_some_iff.1 hx).1; simp at this; omega
      rw [hk0] at hx
      rw [hlen, hk0] at hy
      simp only [List.getElem?_cons_zero, Option.some.injEq] at hx hy
      subst hx hy
      exact hb
theorem OwnRows.nil (w : World) (lo : Nat) : OwnRows w lo (.slice none 0 0) [] [] :=
  ⟨rfl, by simp, World.ownsRow_nil _ _ _ _, fun b hb => by simp at hb, fun k b l hb => by simp at hb⟩
end Go.Proofs.YtcgaaadcbhkfoaaGreatDoor
