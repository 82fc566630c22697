/- The walk of grids.Clone: the rows in memory of its own. -/
import Derived.Test.YtcgaaadcbhkfoaaGreatDoorOwn
import Derived.Test.YtcgaaadcbhkfoaaGreatDoorCheck
import Derived.Deep.OwnRows
import Derived.Laws.OwnMore
namespace Go.Proofs.YtcgaaadcbhkfoaaGreatDoor
open Go Go.Proofs Go.RowKit Go.Ink

theorem cl_info : (Tryz.prog.info? 37).map (fun i => (i.zero, i.size, i.bytes)) = some (some (.slice none 0 0), 1, 24) := by kernel_rfl
theorem cl_info1 : (Tryz.prog.info? 5).map (fun i => (i.zero, i.size, i.bytes)) = some (some (.int .u8 0), 1, 1) := by kernel_rfl
theorem cl_size : (Tryz.prog.info? 5).map (·.size) = some 1 := by kernel_rfl
theorem made_eq (z : Value) (n : Nat) : madeCells #[z] n = (List.replicate n z).toArray := by
  rw [← toList_madeCells_one]
def byteV (c : UInt8) : Value := .int .u8 (c.toNat : Int)
/-- What stands at the head of Clone's loop: k rows are laid. -/
structure CloneAt (w wr : World) (g : Grd) (ao : Option Addr) (cap gr : Nat) (bs : List (Nat × Nat)) (k : Nat) : Prop where
  box : wr.heap[w.heap.size]? = some (.cells #[.int .i64 g.rows, .int .i64 g.cols, .slice ao g.cells.length cap, .int .i64 g.row, .int .i64 g.col] 24 (0, 0))
  res : wr.heap[w.heap.size + 1]? = some (.cells #[.int .i64 0, .int .i64 0, .slice none 0 0, .int .i64 0, .int .i64 0] 24 (0, 0))
  here : gr = w.heap.size + 2
  len : bs.length = k
  kn : k ≤ g.cells.length
  nodup : (bs.map (·.1)).Nodup
  ge : ∀ b ∈ bs, gr < b.1
  rows : ∃ cs : Array Value, wr.heap[gr]? = some (.cells cs 37 (0, 0)) ∧ cs.size = g.cells.length ∧ ∀ (i : Nat) b l, bs[i]? = some b → g.cells[i]? = some l → cs[i]? = some (rowVal b l)
  bytes : ∀ (i : Nat) b l, bs[i]? = some b → g.cells[i]? = some l → l.length ≤ b.2 ∧ b.2 ≤ maxLen ∧ ∃ cs : Array Value, wr.heap[b.1]? = some (.cells cs 5 (0, 0)) ∧ ∀ (j : Nat) (c : UInt8), l[j]? = some c → cs[j]? = some (Value.int .u8 (c.toNat : Int))
  below : Below w.heap.size w wr
theorem CloneAt.own {w wr : World} {g : Grd} {ao : Option Addr} {cap gr : Nat} {bs : List (Nat × Nat)} (h : CloneAt w wr g ao cap gr bs g.cells.length) (hm : g.cells.length ≤ maxLen) : OwnRows wr gr (.slice (some ⟨gr, 0, none⟩) g.cells.length g.cells.length) bs g.cells := by
  obtain ⟨cs, h1, h2, h3⟩ := h.rows
  have hlen := h.len
  refine ⟨hlen.symm, h.nodup, ⟨?_, .inr ⟨gr, g.cells.length, cs, by rw [hlen], Nat.le_refl _, h1, by omega, hm, by omega, ?_⟩⟩, fun b hb => Nat.le_of_lt (h.ge b hb), h.bytes⟩
  · rw [rowVals_len (by omega)]; omega
  · refine List.ext_getElem? fun i => ?_
    rw [List.getElem?_take]
    rcases Nat.lt_or_ge i bs.length with hi | hi
    · rw [if_pos (by omega)]
      have hb := List.getElem?_eq_getElem hi
      have hl := List.getElem?_eq_getElem (show i < g.cells.length by omega)
      rw [rowVals_at hb hl]
      have := h3 i _ _ hb hl
      simpa using this
    · rw [if_neg (by omega), List.getElem?_eq_none (by rw [rowVals_len (by omega)]; exact hi)]
theorem CloneAt.next {w wr w3 : World} {g : Grd} {ao : Option Addr} {cap gr : Nat} {bs : List (Nat × Nat)} {k : Nat} {l : List UInt8} (h : CloneAt w wr g ao cap gr bs k) (hl : g.cells[k]? = some l) (hlm : l.length ≤ maxLen)
    (h3 : w3.heap[wr.heap.size]? = some (.cells (splice (List.replicate l.length (Value.int .u8 0)) 0 (l.map byteV)).toArray 5 (0, 0)))
    (hk : KeepT (fun i => i = wr.heap.size) ((wr.alloc (.cells (List.replicate l.length (Value.int .u8 0)).toArray 5)).setCell ⟨gr, k, none⟩ (.slice (some ⟨wr.heap.size, 0, none⟩) l.length l.length)) w3) :
    CloneAt w w3 g ao cap gr (bs ++ [(wr.heap.size, l.length)]) (k + 1) := by
  obtain ⟨box, res, hgr, len, kn, nodup, ge, ⟨cs, r1, r2, r3⟩, bytes, below⟩ := h
  have hgl := lt_of_heap r1
  have hkl := (List.getElem?_eq_some_iff.1 hl).1
  have hbs : ∀ b ∈ bs, b.1 < wr.heap.size := fun b hb => by
    obtain ⟨i, hi⟩ := List.getElem?_of_mem hb
    have hi' := (List.getElem?_eq_some_iff.1 hi).1
    obtain ⟨_, _, cs', h1, _⟩ := bytes i b _ hi (List.getElem?_eq_getElem (show i < g.cells.length by omega))
    exact lt_of_heap h1
  have hold : ∀ i, i < wr.heap.size → i ≠ gr → w3.heap[i]? = wr.heap[i]? := fun i h1 h2 => by
    rw [hk.block i (by simp [World.setCell]; omega) (by omega), Below.heap_setCell _ _ _ _ (by simpa using h2), Below.heap_alloc _ _ _ h1]
  have hg3 : w3.heap[gr]? = some (.cells (cs.setIfInBounds k (.slice (some ⟨wr.heap.size, 0, none⟩) l.length l.length)) 37 (0, 0)) := by
    rw [hk.block gr (by simp [World.setCell]; omega) (by omega)]
    exact heap_set ((Below.heap_alloc _ _ _ hgl).trans r1) _
  refine ⟨(hold _ (lt_of_heap box) (by omega)).trans box, (hold _ (lt_of_heap res) (by omega)).trans res, hgr, by simp [len], hkl, ?_, fun b hb => ?_, ⟨_, hg3, by simpa using r2, fun i b x hb hx => ?_⟩, fun i b x hb hx => ?_, ?_⟩
  · rw [List.map_append, List.nodup_append]
    refine ⟨nodup, by simp, fun a ha c hc => ?_⟩
    simp only [List.map_cons, List.map_nil, List.mem_singleton] at hc
    subst hc
    simp only [List.mem_map] at ha
    obtain ⟨b, hb, rfl⟩ := ha
    exact Nat.ne_of_lt (hbs b hb)
  · rcases List.mem_append.1 hb with hb | hb
    · exact ge b hb
    · simp at hb; subst hb; exact hgl
  · rw [Array.getElem?_setIfInBounds]
    rcases Nat.lt_or_ge i bs.length with hi | hi
    · rw [List.getElem?_append_left hi] at hb
      rw [if_neg (by omega)]
      exact r3 i b x hb hx
    · rw [List.getElem?_append_right hi] at hb
      have hi0 : i - bs.length = 0 := by have := (List.getElem?_eq_some_iff.1 hb).1; simp at this; omega
      rw [hi0] at hb
      simp only [List.getElem?_cons_zero, Option.some.injEq] at hb
      subst hb
      have hik : i = k := by omega
      subst hik
      rw [hl] at hx
      injection hx with hx
      subst hx
      rw [if_pos rfl, if_pos (by omega)]
      rfl
  · rcases Nat.lt_or_ge i bs.length with hi | hi
    · rw [List.getElem?_append_left hi] at hb
      obtain ⟨h1, h2, cs', h4, h5⟩ := bytes i b x hb hx
      have := ge b (List.mem_of_getElem? hb)
      exact ⟨h1, h2, cs', (hold _ (lt_of_heap h4) (by omega)).trans h4, h5⟩
    · rw [List.getElem?_append_right hi] at hb
      have hi0 : i - bs.length = 0 := by have := (List.getElem?_eq_some_iff.1 hb).1; simp at this; omega
      rw [hi0] at hb
      simp only [List.getElem?_cons_zero, Option.some.injEq] at hb
      subst hb
      have hik : i = k := by omega
      subst hik
      rw [hl] at hx
      injection hx with hx
      subst hx
      refine ⟨Nat.le_refl _, hlm, _, h3, fun j c hj => ?_⟩
      have hjl := (List.getElem?_eq_some_iff.1 hj).1
      simp only [List.getElem?_toArray, splice, List.take_zero, List.nil_append]
      rw [List.getElem?_append_left (by simpa using hjl), List.getElem?_map, hj]
      rfl
  · refine below.trans ((KeepT.trans (S := fun i => i = gr) (((KeepT.refl (fun i => i = gr) wr).alloc _).setCell (p := ⟨gr, k, none⟩) (.inl rfl) _) hk (fun i hi e => by omega)).below below.size (fun i e => by omega))

theorem two_blk {w : World} (o1 o2 : Obj) : ((w.alloc o1).alloc o2).heap[w.heap.size]? = some o1 ∧ ((w.alloc o1).alloc o2).heap[w.heap.size + 1]? = some o2 ∧ Below w.heap.size w ((w.alloc o1).alloc o2) := by
  refine ⟨?_, ?_, ((Below.refl _ _).alloc (Nat.le_refl _) _).alloc (by simp) _⟩
  · show ((w.heap.push o1).push o2)[w.heap.size]? = _
    rw [Array.getElem?_push, if_neg (by simp), Array.getElem?_push, if_pos rfl]
  · show ((w.heap.push o1).push o2)[w.heap.size + 1]? = _
    rw [Array.getElem?_push, if_pos (by simp)]
set_option maxRecDepth 100000 in
set_option maxHeartbeats 1000000 in
theorem clone_any (g : Grd) (ao : Option Addr) (cap : Nat) (w : World) (hs : SlOf IsBytes w ao cap g.cells) (hn : g.cells.length ≤ 1000000) (hl : ∀ l ∈ g.cells, l.length ≤ 1000000) :
    Calls Tryz.prog 41 #[gridV g ao cap] w fun e w' => ∃ gr bs, e = .returned (gridV g (some ⟨gr, 0, none⟩) g.cells.length) ∧ w.heap.size ≤ gr ∧ OwnRows w' gr (.slice (some ⟨gr, 0, none⟩) g.cells.length g.cells.length) bs g.cells ∧ Below w.heap.size w w' := by
  obtain ⟨i0, hi, hz0, hz1, hz2⟩ := info_parts cl_info
  obtain ⟨i1, hi1, hy0, hy1, hy2⟩ := info_parts cl_info1
  have HS := Lib.hid hs; clear hs
  have HL := Lib.hid hl; clear hl
  simp only [gridV]
  have hnm : g.cells.length ≤ 9223372036854775807 := by omega
  have HB24 := Lib.hid (show i0.bytes * g.cells.length ≤ 281474976710656 by rw [hz2]; omega)
  go_enter Tryz.func41, Tryz.ntmps41
  go_wp2_with (at_make; refine wpList_make_row _ rfl _ _ 22 rfl 37 i0 (.slice none 0 0) Tryz.underlying22 hi hz0 hz1 rfl .i64 .i64 g.cells.length rfl rfl HB24.out (by omega) ?_)
  have h2 := @two_blk w (.cells #[.int .i64 g.rows, .int .i64 g.cols, .slice ao g.cells.length cap, .int .i64 g.row, .int .i64 g.col] 24 (0, 0)) (.cells #[.int .i64 0, .int .i64 0, .slice none 0 0, .int .i64 0, .int .i64 0] 24 (0, 0))
  obtain ⟨w1, hw1⟩ : ∃ w1, (w.alloc (.cells #[.int .i64 g.rows, .int .i64 g.cols, .slice ao g.cells.length cap, .int .i64 g.row, .int .i64 g.col] 24)).alloc (.cells #[.int .i64 0, .int .i64 0, .slice none 0 0, .int .i64 0, .int .i64 0] 24) = w1 := ⟨_, rfl⟩
  have hz : ((w.alloc (.cells #[.int .i64 g.rows, .int .i64 g.cols, .slice ao g.cells.length cap, .int .i64 g.row, .int .i64 g.col] 24)).alloc (.cells #[.int .i64 0, .int .i64 0, .slice none 0 0, .int .i64 0, .int .i64 0] 24)).heap.size = w.heap.size + 2 := by simp
  rw [hw1] at h2 hz ⊢
  rw [made_eq]
  obtain ⟨G, hG⟩ : ∃ G, w.heap.size + 1 + 1 = G := ⟨_, rfl⟩
  rw [hG]
  have H0 : Hid (CloneAt w (w1.alloc (.cells (List.replicate g.cells.length (Value.slice none 0 0)).toArray 37)) g ao cap G [] 0) := Lib.hid (by
    refine ⟨(Below.heap_alloc _ _ _ (by omega)).trans h2.1, (Below.heap_alloc _ _ _ (by omega)).trans h2.2.1, hG.symm, rfl, Nat.zero_le _, by simp, fun b hb => by simp at hb, ⟨_, by rw [show G = w1.heap.size by omega]; exact heap_alloc_new _ _, by simp, fun i b l hb => by simp at hb⟩, fun i b l hb => by simp at hb, h2.2.2.alloc (by omega) _⟩)
  have hd0 : (w1.alloc (.cells (List.replicate g.cells.length (Value.slice none 0 0)).toArray 37)).cell? ⟨w.heap.size, 2, none⟩ = some (.slice ao g.cells.length cap) := by
    rw [Lib.cell_of_heap H0.out.box]; rfl
  have HZ := Lib.hid hG
  clear h2 hw1 hz hG
  generalize w1.alloc (.cells (List.replicate g.cells.length (Value.slice none 0 0)).toArray 37) = w2 at *
  go_wp2_with fail
  clear hd0
  go_loopw [13] (fun i wr => ∃ (k : Nat) (bs : List (Nat × Nat)), i = .int .i64 k ∧ k ≤ g.cells.length ∧ Hid (CloneAt w wr g ao cap G bs k)) (fun i _ => g.cells.length - (intOf i).toNat)
  case atStart => exact ⟨0, [], rfl, by omega, H0⟩
  case round =>
    obtain ⟨k, bs, rfl, hk, HC⟩ := hrel
    by_cases hlt : k < g.cells.length
    · obtain ⟨l, hlk⟩ : ∃ l, g.cells[k]? = some l := ⟨_, List.getElem?_eq_getElem hlt⟩
      obtain ⟨b, off, u, rfl, hcell, ar, cr, rfl, hrow⟩ := HS.out.2.2.2 k l hlk
      have hll := HL.out l (List.mem_of_getElem? hlk)
      have hcell' := (HC.out.below.cell (p := ⟨b, off + k, none⟩) (lt_of_cell hcell)).trans hcell
      have HROW := Lib.hid (hrow.later lasts_byte HC.out.below)
      have hb1 : i1.bytes * l.length ≤ 281474976710656 := by rw [hy2]; omega
      have HB1 := Lib.hid hb1
      obtain ⟨cs, r1, r2, r3⟩ := HC.out.rows
      have hgw := lt_of_heap r1
      obtain ⟨W1, hW1⟩ : ∃ W1, wr.alloc (.cells (List.replicate l.length (Value.int .u8 0)).toArray 5) = W1 := ⟨_, rfl⟩
      have hg1 : W1.heap[G]? = some (.cells cs 37 (0, 0)) := by rw [← hW1]; exact (Below.heap_alloc _ _ _ hgw).trans r1
      obtain ⟨uo, huo⟩ : ∃ u, W1.cell? ⟨G, k, none⟩ = some u := ⟨_, by rw [Lib.cell_of_heap hg1, Array.getElem?_eq_getElem (by omega)]⟩
      have hfz := Lib.frozen_of_heap hg1 k
      obtain ⟨W2, hW2⟩ : ∃ W2, W1.setCell ⟨G, k, none⟩ (.slice (some ⟨wr.heap.size, 0, none⟩) l.length l.length) = W2 := ⟨_, rfl⟩
      have hr2 : W2.heap[G]? = some (.cells (cs.setIfInBounds k (.slice (some ⟨wr.heap.size, 0, none⟩) l.length l.length)) 37 (0, 0)) := by
        rw [← hW2]; exact heap_set hg1 _
      have hn2 : W2.heap[wr.heap.size]? = some (.cells (List.replicate l.length (Value.int .u8 0)).toArray 5 (0, 0)) := by
        rw [← hW2, Below.heap_setCell _ _ _ _ (by simp only []; omega), ← hW1]; exact heap_alloc_new _ _
      have hd2 : W2.cell? ⟨G, k, none⟩ = some (.slice (some ⟨wr.heap.size, 0, none⟩) l.length l.length) := by
        rw [Lib.cell_of_heap hr2, Array.getElem?_setIfInBounds, if_pos rfl, if_pos (by omega)]
      have HX := Lib.hid (fun w3 h3 hk3 => CloneAt.next (w3 := w3) HC.out hlk (by unfold maxLen; omega) h3 (hW1 ▸ hW2 ▸ hk3))
      have HR2 := Lib.hid hr2
      have HN2 := Lib.hid hn2
      have hbW2 : Below w.heap.size w W2 := by
        rw [← hW2, ← hW1]; exact (HC.out.below.alloc HC.out.below.size _).setCell (p := ⟨G, k, none⟩) (by have := HZ.out; simp only []; omega) _
      have HROW2 := Lib.hid (hrow.later lasts_byte hbW2)
      have HSRC : Hid (0 < (l.map byteV).length → ∃ ad, ar = some ad ∧ ∀ j v, (l.map byteV)[j]? = some v → W2.cell? (ad.add j) = some v) := Lib.hid (by
        intro hpos
        obtain ⟨b', off', u', ha, hc', _⟩ := HROW2.out.2.2.2 0 (l[0]'(by simpa using hpos)) (List.getElem?_eq_getElem _)
        refine ⟨_, ha, fun j v hj => ?_⟩
        rw [List.getElem?_map] at hj
        obtain ⟨c, hc, rfl⟩ := Option.map_eq_some_iff.1 hj
        obtain ⟨b2, off2, u2, ha2, hc2, hu2⟩ := HROW2.out.2.2.2 j c hc
        rw [ha] at ha2
        simp only [Option.some.injEq, Addr.mk.injEq, and_true] at ha2
        obtain ⟨rfl, rfl⟩ := ha2
        have e : (⟨b', off', none⟩ : Addr).add j = ⟨b', off' + j, none⟩ := by unfold Addr.add; split <;> simp_all
        rw [e, hc2]
        exact congrArg some hu2)
      have hone : ∀ v ∈ l.map byteV, v.oneCell' = true := by
        intro v hv
        simp only [List.mem_map] at hv
        obtain ⟨c, _, rfl⟩ := hv
        rfl
      have HONE := Lib.hid hone
      have hnl : (l.map byteV).length = Nat.min l.length l.length := by simp
      have HNL := Lib.hid hnl
      have hfit : 0 + (l.map byteV).length ≤ (List.replicate l.length (Value.int .u8 0)).length := by simp
      have HFIT := Lib.hid hfit
      have HSZ1 := Lib.hid cl_size
      have hml : l.length ≤ 9223372036854775807 := by omega
      have HW1 := Lib.hid hW1
      clear hW1 hg1
      clear hr2 hn2 hbW2 hone hnl hfit r1 r3 hgw hcell hrow hlk hb1
      go_wp2_with (first | (at_make; refine wpList_make_row _ rfl _ _ 37 rfl 5 i1 (.int .u8 0) Tryz.underlying37 hi1 hy0 hy1 rfl .i64 .i64 l.length rfl rfl HB1.out (by omega) ?_; rw [made_eq, HW1.out]) | (with_reducible refine wpList_copy_keep rfl (.tmp 27) (.tmp 28) 37 37 rfl 5 Tryz.underlying37 HSZ1.out _ _ l.length l.length l.length cr rfl rfl wr.heap.size 0 (List.replicate l.length (Value.int .u8 0)) 5 HN2.out (l.map byteV) HNL.out (fun h => ⟨rfl, HSRC.out h⟩) HFIT.out HONE.out ?_))
      intro w3 H3 HK3
      have HN3 := Lib.hid (HX.out w3 H3.out HK3.out)
      clear H3 HK3 HX
      go_wp2_with fail
      go_roundw
      case rel => exact ⟨k + 1, _, by go_num, by omega, HN3⟩
      case measure => simp [intOf]; omega
    · obtain rfl : k = g.cells.length := by omega
      have HO := Lib.hid (HC.out.own (by unfold maxLen; omega))
      have hbx := Lib.cell_of_heap HC.out.box
      have e0 := hbx 0; have e1 := hbx 1; have e2 := hbx 2; have e3 := hbx 3; have e4 := hbx 4
      have hbf := Lib.frozen_of_heap HC.out.box 2
      simp at e0 e1 e2 e3 e4
      have HRES := HC.out.res
      have hrs := Lib.cell_of_heap HRES
      have s0 := hrs 0; have s1 := hrs 1; have s2 := hrs 2; have s3 := hrs 3; have s4 := hrs 4
      have hrf := Lib.frozen_of_heap HRES
      have f0 := hrf 0; have f1 := hrf 1; have f2 := hrf 2; have f3 := hrf 3; have f4 := hrf 4
      simp at s0 s1 s2 s3 s4
      have HBEL := Lib.hid HC.out.below
      have HRES' := Lib.hid HRES
      have HBOX := Lib.hid HC.out.box
      have hGe := Lib.hid HC.out.here
      clear hbx hrs hrf HRES
      have hr2 : (wr.setCell ⟨w.heap.size, 2, none⟩ (.slice (some ⟨G, 0, none⟩) g.cells.length g.cells.length)).heap[w.heap.size + 1]? = some (.cells #[.int .i64 0, .int .i64 0, .slice none 0 0, .int .i64 0, .int .i64 0] 24 (0, 0)) := by
        rw [Below.heap_setCell _ _ _ _ (by simp only []; omega)]; exact HRES'.out
      obtain ⟨t0, t1, t2, t3, t4⟩ := five_cells hr2 (.int .i64 g.rows) (.int .i64 g.cols) (.slice (some ⟨G, 0, none⟩) g.cells.length g.cells.length) (.int .i64 g.row) (.int .i64 g.col)
      have hkeep : Hid (KeepT (fun i => i = w.heap.size ∨ i = w.heap.size + 1) wr ((((((wr.setCell ⟨w.heap.size, 2, none⟩ (.slice (some ⟨G, 0, none⟩) g.cells.length g.cells.length)).setCell ⟨w.heap.size + 1, 0, none⟩ (.int .i64 g.rows)).setCell ⟨w.heap.size + 1, 1, none⟩ (.int .i64 g.cols)).setCell ⟨w.heap.size + 1, 2, none⟩ (.slice (some ⟨G, 0, none⟩) g.cells.length g.cells.length)).setCell ⟨w.heap.size + 1, 3, none⟩ (.int .i64 g.row)).setCell ⟨w.heap.size + 1, 4, none⟩ (.int .i64 g.col))) :=
        Lib.hid (((((((KeepT.refl _ _).setCell (p := ⟨w.heap.size, 2, none⟩) (.inl (.inl rfl)) _).setCell (p := ⟨w.heap.size + 1, 0, none⟩) (.inl (.inr rfl)) _).setCell (p := ⟨w.heap.size + 1, 1, none⟩) (.inl (.inr rfl)) _).setCell (p := ⟨w.heap.size + 1, 2, none⟩) (.inl (.inr rfl)) _).setCell (p := ⟨w.heap.size + 1, 3, none⟩) (.inl (.inr rfl)) _).setCell (p := ⟨w.heap.size + 1, 4, none⟩) (.inl (.inr rfl)) _)
      clear hr2
      go_wp2_with fail
      refine bodyPost_ret (v := .agg #[.int .i64 g.rows, .int .i64 g.cols, .slice (some ⟨G, 0, none⟩) g.cells.length g.cells.length, .int .i64 g.row, .int .i64 g.col]) (by simp [results, Tryz.results41, go_sem, t0, t1, t2, t3, t4]) rfl ?_
      refine ⟨G, bs, rfl, by have := hGe.out; omega, HO.out.kept hkeep.out (fun i hi e => ?_), HBEL.out.trans (hkeep.out.below HBEL.out.size (fun i e => by omega))⟩
      have h1 := (HO.out.lt i hi).1
      have h2 := hGe.out
      omega
end Go.Proofs.YtcgaaadcbhkfoaaGreatDoor
