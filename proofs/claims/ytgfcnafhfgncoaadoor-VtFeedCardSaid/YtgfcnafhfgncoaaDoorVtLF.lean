/- The walk of the law VtFeed. -/
import Derived.Test.YtgfcnafhfgncoaaDoorRtJ
import Derived.Test.YtgfcnafhfgncoaaDoorGreatW
import Derived.Deep.QuietTactic
import Derived.BigQuiet
import Derived.Lib.QuietBelow
import Derived.Deep.RegionHeld3
namespace Go.Proofs.YtgfcnafhfgncoaaDoor
open Go Go.Proofs Go.RowKit Go.Ink Go.Sort

set_option maxRecDepth 100000 in
set_option maxHeartbeats 1000000 in
theorem vtFeed_great (m n : Int) (l : List (List UInt8)) (ao : Option Addr) (cap : Nat) (w : World) (hl : SlOf IsStr w ao cap l) (hg : greatS l 30 3000 = true) :
    Calls Tryd.prog 3 #[.int .i64 m, .int .i64 n, .slice ao l.length cap] w fun e w' => e = .returned (.bool true) ∧ Below w.heap.size w w' := by
  have HL := Lib.hid (great_any l ao cap 30 3000 w hl (by decide) (by decide))
  rw [hg] at HL
  clear hl hg
  go_enter Tryd.func3, Tryd.ntmps3
  go_wp2_with fail
  refine HL.out.mono ?_
  rintro e w1 ⟨rfl, hw⟩
  subst hw
  go_wp2_with fail
  go_returns
  exact ⟨rfl, Below.refl _ _⟩
set_option maxRecDepth 100000 in
set_option maxHeartbeats 1000000 in
theorem vtFeed_no (m n : Int) (l : List (List UInt8)) (ao : Option Addr) (cap : Nat) (w : World) (hm : MaxAt w) (hl : SlOf IsStr w ao cap l) (hg : greatS l 30 3000 = false) (hno : sizedB m n = false) :
    Calls Tryd.prog 3 #[.int .i64 m, .int .i64 n, .slice ao l.length cap] w fun e w' => e = .returned (.bool true) ∧ Below w.heap.size w w' := by
  have HL := Lib.hid (great_any l ao cap 30 3000 w hl (by decide) (by decide))
  rw [hg] at HL
  have HN := Lib.hid hno
  have HM := Lib.hid hm
  clear hl hg hno hm
  go_enter Tryd.func3, Tryd.ntmps3
  go_wp2_with fail
  refine HL.out.mono ?_
  rintro e w1 ⟨rfl, hw⟩
  subst hw
  go_wp2_with fail
  refine (vtNew_no m n _ HN.out).mono ?_
  rintro e w2 ⟨rfl, hb2⟩
  have HB2 := Lib.hid hb2
  clear hb2
  go_wp2_with fail
  refine (rtNew_no m n _ HN.out).mono ?_
  rintro e w3 ⟨rfl, hb3⟩
  have HB3 := Lib.hid (HB2.out.trans (hb3.mono HB2.out.size))
  clear hb3
  go_wp2_with fail
  refine (does_any _ (HM.out.later HB3.out)).mono ?_
  rintro e w4 ⟨rfl, hb4⟩
  have HB4 := Lib.hid (HB3.out.trans (hb4.mono HB3.out.size))
  clear hb4
  go_wp2_with fail
  go_returns
  exact ⟨rfl, HB4.out⟩
/-- How long all texts are, joined. -/
theorem flat_total (l : List (List UInt8)) : (l.flatten.length : Nat) = total l := by
  induction l with
  | nil => rfl
  | cons a l ih => rw [List.flatten_cons, List.length_append, ih]; rfl
theorem take_flat {l : List (List UInt8)} {k : Nat} {s : List UInt8} (h : l[k]? = some s) : (l.take (k + 1)).flatten = (l.take k).flatten ++ s := by
  rw [List.take_add_one, h]; simp
theorem take_flat_le (l : List (List UInt8)) (k : Nat) : (l.take k).flatten.length ≤ l.flatten.length := by
  have h := congrArg List.length (congrArg List.flatten (List.take_append_drop k l))
  rw [List.flatten_append, List.length_append] at h
  omega
/-- Rows that are written over, of memory made behind w6; the box ob at x stands. -/
structure XsP (w6 wr : World) (g4 n x : Nat) (bs : List (Nat × Nat)) (ob : Obj) (cells : List (List UInt8)) : Prop where
  own : OwnRows wr g4 (.slice (some ⟨g4, 0, none⟩) n n) bs cells
  len : cells.length = n
  box : wr.heap[x]? = some ob
  lt : ∀ i, RowsS (.slice (some ⟨g4, 0, none⟩) n n) bs i → i < x ∧ w6.heap.size ≤ i
  below : Below w6.heap.size w6 wr
theorem XsP.set {w6 wr : World} {g4 n x : Nat} {bs : List (Nat × Nat)} {ob : Obj} {cells : List (List UInt8)} (h : XsP w6 wr g4 n x bs ob cells) {k j : Nat} {b : Nat × Nat} {c : List UInt8} (hb : bs[k]? = some b) (hc : cells[k]? = some c) (hj : j < c.length) (u : UInt8) :
    XsP w6 (wr.setCell ⟨b.1, j, none⟩ (.int .u8 (u.toNat : Int))) g4 n x bs ob (cells.set k (c.set j u)) := by
  have hm : RowsS (.slice (some ⟨g4, 0, none⟩) n n) bs b.1 := .inr (List.mem_map.2 ⟨b, List.mem_of_getElem? hb, rfl⟩)
  have hl := h.lt _ hm
  refine ⟨h.own.set hb hc hj u, by rw [List.length_set]; exact h.len, ?_, h.lt, h.below.setCell (p := ⟨b.1, j, none⟩) hl.2 _⟩
  rw [Below.heap_setCell _ _ _ _ (fun e => by have e' : x = b.1 := e; omega)]
  exact h.box
theorem gv_eq (t : Tm) (ao : Option Addr) (cap : Nat) : gridV t.grd ao cap = .agg #[.int .i64 (t.rows : Int), .int .i64 (t.cols : Int), .slice ao t.cells.length cap, .int .i64 (t.row : Int), .int .i64 (t.col : Int)] := rfl
theorem RtAt.same {w : World} {r lo g cap : Nat} {bs : List (Nat × Nat)} {t : Tm} (h : RtAt w r lo g cap bs t) (hg : t.Good) (ao : Option Addr) (cp : Nat) (hs : SlOf IsBytes w ao cp t.cells) :
    Calls Tryd.prog 17 #[.agg #[.int .i64 (t.rows : Int), .int .i64 (t.cols : Int), .slice ao t.cells.length cp, .int .i64 (t.row : Int), .int .i64 (t.col : Int)], .agg #[.int .i64 (t.rows : Int), .int .i64 (t.cols : Int), .slice (some ⟨g, 0, none⟩) t.cells.length cap, .int .i64 (t.row : Int), .int .i64 (t.col : Int)]] w fun e w' => e = .returned (.bool true) ∧ Below w.heap.size w w' :=
  refSame_self t.grd ao (some ⟨g, 0, none⟩) cp cap w hs h.rows.sl (by show t.cells.length ≤ _; have := hg.many; have := hg.rows; omega)
theorem BothP.grid {w0 w : World} {B v : Nat} {t : Tm} {S : Nat → Prop} {r lo g cap : Nat} {bs : List (Nat × Nat)} (h : BothP w0 w B v t S r lo g cap bs t) :
    Calls Tryd.prog 16 #[.pointer (some ⟨v, 0, none⟩)] w fun e w' => ∃ g', e = .returned (.agg #[.int .i64 (t.rows : Int), .int .i64 (t.cols : Int), .slice (some ⟨g', 0, none⟩) t.cells.length t.cells.length, .int .i64 (t.row : Int), .int .i64 (t.col : Int)]) ∧ SlOf IsBytes w' (some ⟨g', 0, none⟩) t.cells.length t.cells ∧ BothP w0 w' B v t S r lo g cap bs t ∧ r < w.heap.size := by
  refine (gridP h.one.a h.one.g).mono ?_
  rintro e w' ⟨g', bs', rfl, _, ho, hb⟩
  exact ⟨g', rfl, ho.sl, h.later hb, lt_of_heap h.ref.box⟩
set_option maxRecDepth 100000 in
set_option maxHeartbeats 4000000 in
theorem vtFeed_yes (rows cols : Nat) (l : List (List UInt8)) (ao : Option Addr) (cap : Nat) (w : World) (hm : MaxAt w) (hl : SlOf IsStr w ao cap l) (hg : greatS l 30 3000 = false) (h1 : 2 ≤ rows) (h2 : rows ≤ 60) (h3 : 8 ≤ cols) (h4 : cols ≤ 132) :
    Calls Tryd.prog 3 #[.int .i64 (rows : Int), .int .i64 (cols : Int), .slice ao l.length cap] w fun e w' => e = .returned (.bool true) ∧ Below w.heap.size w w' := by
  have HL := Lib.hid (great_any l ao cap 30 3000 w hl (by decide) (by decide))
  have hgr := greatS_false hg (by decide) (by decide)
  have HT : Hid (l.flatten.length ≤ 3000) := Lib.hid (by rw [flat_total]; omega)
  have hln : l.length ≤ 30 := by omega
  rw [hg] at HL
  have HS := Lib.hid hl
  have HM := Lib.hid hm
  clear hl hg hm hgr
  go_enter Tryd.func3, Tryd.ntmps3
  go_wp2_with fail
  refine HL.out.mono ?_
  rintro e w1 ⟨rfl, hw⟩
  subst hw
  clear HL
  go_wp2_with fail
  refine (vtNew_yes rows cols _ h1 h2 h3 h4).mono ?_
  rintro e w2 hn2
  obtain ⟨v, S, rfl, hv2, hb2⟩ := OneP.of_new (Below.refl w1.heap.size w1) HM.out hn2 ⟨h1, h2⟩ ⟨h3, h4⟩
  have HV2 := Lib.hid hv2
  clear hv2 hb2 hn2
  go_wp2_with fail
  refine (rtNew_yes rows cols _ h1 h2 h3 h4).mono ?_
  rintro e w3 ⟨r, lo, g, cp, bs, rfl, hr3, hlo, hb3⟩
  have HB3 : Hid (∃ g cp bs S, BothP w1 w3 w1.heap.size v (Tm.start rows cols) S r lo g cp bs (Tm.start rows cols)) := Lib.hid ⟨g, cp, bs, S, HV2.out.later hb3, hr3, start_good ⟨h1, h2⟩ ⟨h3, h4⟩, fun i e e2 => by
    have a1 := HV2.out.slt i e
    have a2 := (hr3.lts i e2).1
    omega, Nat.le_trans HV2.out.hi hlo⟩
  have HP0 : Hid ((Tm.start rows cols).par.length = 0) := Lib.hid rfl
  clear hr3 hlo hb3 HV2
  generalize Tm.start rows cols = T0 at *
  go_wp2_with fail
  go_loopw [9] (fun i wr => ∃ k : Nat, i = .int .i64 k ∧ k ≤ l.length ∧ Hid (∃ g cp bs S, BothP w1 wr w1.heap.size v (T0.feed (l.take k).flatten) S r lo g cp bs (T0.feed (l.take k).flatten))) (fun i _ => l.length - (intOf i).toNat)
  case atStart => exact ⟨0, rfl, by omega, HB3⟩
  case round =>
    obtain ⟨k, rfl, hk, HB⟩ := hrel
    clear HB3
    obtain ⟨g, cp, bs, S, hbp⟩ := HB.out
    have HBP := Lib.hid hbp
    have hpk : (T0.feed (l.take k).flatten).par.length ≤ 3000 := by
      have a1 := feed_par_len T0 (l.take k).flatten
      have a2 := take_flat_le l k
      have a3 := HT.out
      have a4 := HP0.out
      omega
    have HPK := Lib.hid hpk
    clear hbp hpk HB
    by_cases hlt : k < l.length
    · obtain ⟨s, hs⟩ : ∃ s, l[k]? = some s := ⟨_, List.getElem?_eq_getElem hlt⟩
      obtain ⟨b, off, u, rfl, hcell, hu⟩ := HS.out.2.2.2 k s hs
      have hu' : u = .string ⟨s.toArray⟩ := hu
      subst hu'
      have hsl : s.length ≤ 3000 := by
        have a1 := take_flat_le l (k + 1)
        rw [take_flat hs, List.length_append] at a1
        have a3 := HT.out
        omega
      have HNX := Lib.hid (show T0.feed (l.take (k + 1)).flatten = (T0.feed (l.take k).flatten).feed s from by rw [take_flat hs, Tm.feed_append])
      have hlti : (k : Int) < (l.length : Int) := by omega
      have q1 := (HBP.out.one.below.cell (p := ⟨b, off + k, none⟩) (lt_of_cell hcell)).trans hcell
      clear hs hu
      go_wp2_with fail
      refine (HBP.out.one.feed s (by have := HPK.out; omega)).mono ?_
      rintro e w5 ⟨rfl, S5, hf5⟩
      have HB5 := Lib.hid (HBP.out.fed hf5)
      have q5 := (HB5.out.one.below.cell (p := ⟨b, off + k, none⟩) (lt_of_cell hcell)).trans hcell
      clear hf5 HBP q1
      go_wp2_with fail
      refine (refFeed_any s (by have := HPK.out; omega) HB5.out.ref HB5.out.good).mono ?_
      rintro e w6 ⟨rfl, hs6⟩
      obtain ⟨g6, cp6, bs6, hb6⟩ := HB5.out.ran s hs6
      rw [← HNX.out] at hb6
      have HB6 := Lib.hid hb6
      clear hs6 HB5 q5 hb6 HNX HPK
      generalize hTE : T0.feed (l.take (k + 1)).flatten = T at *
      have HTE := Lib.hid hTE
      clear hTE
      go_wp2_with fail
      refine (gridP HB6.out.one.a HB6.out.one.g).mono ?_
      rintro e w7 ⟨g7, bs7, rfl, hg7, ho7, hb7⟩
      rw [gv_eq, show T.grd.cells.length = T.cells.length from rfl]
      have HTL : Hid (T.grd.cells = T.cells) := Lib.hid rfl
      obtain ⟨x, hx⟩ : ∃ x, w7.heap.size = x := ⟨_, rfl⟩
      have hal := fun o => (Below.refl w7.heap.size w7).alloc (Nat.le_refl _) o
      obtain ⟨ob, hob⟩ : ∃ ob, Obj.cells #[.int .i64 (T.rows : Int), .int .i64 (T.cols : Int), .slice (some ⟨g7, 0, none⟩) T.cells.length T.cells.length, .int .i64 (T.row : Int), .int .i64 (T.col : Int)] 34 (0, 0) = ob := ⟨_, rfl⟩
      obtain ⟨w8, hw8⟩ : ∃ w8, w7.alloc ob = w8 := ⟨_, rfl⟩
      have hx8 : w8.heap[x]? = some ob := by rw [← hw8, ← hx]; exact heap_alloc_new w7 ob
      have HX8 := Lib.hid hx8
      have h78 : Below w7.heap.size w7 w8 := by rw [← hw8]; exact hal ob
      have h68 : Below w6.heap.size w6 w8 := hb7.trans (h78.mono hb7.size)
      have HX := Lib.hid (show XsP w6 w8 g7 T.cells.length x bs7 ob T.cells from ⟨ho7.later h78, rfl, hx8, fun i e => by have a1 := ho7.lt i e; have a2 : w6.heap.size ≤ g7 := hg7; omega, h68⟩)
      have HB8 := Lib.hid (HB6.out.later h68)
      have HOB := Lib.hid hob
      have hx9 := hx8
      rw [← hob] at hx9
      have hc8 := Lib.cell_of_heap hx9
      clear hg7 ho7 hb7 h78 h68 hal HTL hx8 hx9
      go_wp2_with fail
      clear hw8 hx hob
      have x0 := hc8 0; have x1 := hc8 1; have x2 := hc8 2; have x3 := hc8 3; have x4 := hc8 4
      simp at x0 x1 x2 x3 x4
      obtain ⟨r0, r1, r2, r3, r4, r5, r6⟩ := HB8.out.ref.cells
      have X0 := fun d os => cell_regrown x0 d os
      have X1 := fun d os => cell_regrown x1 d os
      have X2 := fun d os => cell_regrown x2 d os
      have X3 := fun d os => cell_regrown x3 d os
      have X4 := fun d os => cell_regrown x4 d os
      have R0 := fun d os => cell_regrown r0 d os
      have R1 := fun d os => cell_regrown r1 d os
      have R2 := fun d os => cell_regrown r2 d os
      have R3 := fun d os => cell_regrown r3 d os
      have R4 := fun d os => cell_regrown r4 d os
      have HSM := Lib.hid (fun d os => (HB8.out.ref.later (below_regrown w8 d os)).same HB8.out.good (some ⟨g7, 0, none⟩) T.cells.length (HX.out.own.sl.later lasts_bytes (below_regrown w8 d os)))
      clear hc8 x0 x1 x2 x3 x4 r0 r1 r2 r3 r4 r5 r6
      go_wp2_with fail
      refine wp_region_quiet_below (by kernel_rfl) (by kernel_rfl) ?_
      repeat (quiet_step (exact Calls.regrown_of (HSM.out _ _)))
      refine wpQuiet_nil ?_
      intro _ hw'
      obtain ⟨⟨dq1, osq1⟩, hw''⟩ := hw'
      subst hw''
      have h89 := below_regrown w8 dq1 osq1
      have HX9 : Hid (XsP w6 (grow (redrawn w8 dq1) osq1) g7 T.cells.length x bs7 ob T.cells) := Lib.hid ⟨HX.out.own.later h89, rfl, (h89.block x (lt_of_heap HX8.out)).trans HX8.out, HX.out.lt, HX.out.below.trans (h89.mono HX.out.below.size)⟩
      generalize grow (redrawn w8 dq1) osq1 = w9 at *
      clear h89 HX HX8 HB8 HSM X0 X1 X2 X3 X4 R0 R1 R2 R3 R4
      have hnl : T.cells.length ≤ 60 := by have a1 := HB6.out.one.g.many; have a2 := HB6.out.one.g.rows; omega
      obtain ⟨n, hn⟩ : ∃ n, T.cells.length = n := ⟨_, rfl⟩
      rw [hn] at HX9 hnl
      have HN := Lib.hid hn
      clear hn
      go_wp2_with fail
      go_loopw [11] (fun iv wr => ∃ (i : Nat) (cells : List (List UInt8)), iv = .int .i64 i ∧ i ≤ n ∧ Hid (XsP w6 wr g7 n x bs7 ob cells)) (fun iv _ => n - (intOf iv).toNat)
      case atStart => exact ⟨0, _, rfl, by omega, HX9⟩
      case round =>
        obtain ⟨i, cells, rfl, hi, HXI⟩ := hrel
        clear HX9
        have hx9 := HXI.out.box
        rw [← HOB.out] at hx9
        have x2 := Lib.cell_of_heap hx9 2
        rw [HN.out] at x2
        simp at x2
        clear hx9
        by_cases hin : i < n
        · obtain ⟨rb, c, hrb, hc⟩ := HXI.out.own.at (k := i) (by have := HXI.out.len; omega)
          have hcl : c.length ≤ maxLen := by
            have a1 := (HXI.out.own.bytes i rb c hrb hc)
            omega
          unfold maxLen at hcl
          have hini : (i : Int) < (n : Int) := by omega
          have HRB := Lib.hid hrb
          have HXJ : Hid (∃ cells c', XsP w6 wr g7 n x bs7 ob cells ∧ cells[i]? = some c' ∧ c'.length = c.length) := Lib.hid ⟨cells, c, HXI.out, hc, rfl⟩
          clear hrb hc HXI
          go_wp2_with fail
          clear x2
          go_loopw [12] (fun jv wr => ∃ (j : Nat), jv = .int .i64 j ∧ j ≤ c.length ∧ Hid (∃ cells c', XsP w6 wr g7 n x bs7 ob cells ∧ cells[i]? = some c' ∧ c'.length = c.length)) (fun jv _ => c.length - (intOf jv).toNat)
          case atStart => exact ⟨0, rfl, by omega, HXJ⟩
          case round =>
            obtain ⟨j, rfl, hj, HJ⟩ := hrel
            clear HXJ
            obtain ⟨cells', c', hx', hc', hl'⟩ := HJ.out
            have hx9 := hx'.box
            rw [← HOB.out] at hx9
            have x2 := Lib.cell_of_heap hx9 2
            rw [HN.out] at x2
            simp at x2
            obtain ⟨r7, z7⟩ := hx'.own.row HRB.out hc'
            unfold rowVal at r7
            rw [hl'] at r7
            have HXX := Lib.hid hx'
            have HCC := Lib.hid hc'
            have HLL := Lib.hid hl'
            by_cases hjn : j < c.length
            · obtain ⟨y, hy⟩ : ∃ y, c'[j]? = some y := ⟨_, List.getElem?_eq_getElem (by omega)⟩
              obtain ⟨q7, y7⟩ := hx'.own.byte HRB.out hc' hy
              have hjni : (j : Int) < (c.length : Int) := by omega
              have HNX : Hid (∃ cells c', XsP w6 (wr.setCell ⟨rb.1, j, none⟩ (.int .u8 88)) g7 n x bs7 ob cells ∧ cells[i]? = some c' ∧ c'.length = c.length) := Lib.hid ⟨_, _, hx'.set HRB.out hc' (by omega) 88, List.getElem?_set_self (List.getElem?_eq_some_iff.1 hc').1, by rw [List.length_set]; exact hl'⟩
              clear hx' hc' hl' hx9 hy HJ
              go_wp2_with fail
              go_roundw
              case rel => exact ⟨j + 1, by go_num, by omega, HNX⟩
              case measure => simp [intOf]; omega
            · obtain rfl : j = c.length := by omega
              clear hx' hc' hl' hx9 HJ
              go_wp2_with fail
              go_roundw
              case rel => exact ⟨i + 1, _, by go_num, by omega, HXX⟩
              case measure => simp [intOf]; omega
        · obtain rfl : i = n := by omega
          have HBN : Hid (∃ g cp bs S, BothP w1 wr w1.heap.size v T S r lo g cp bs T) := Lib.hid ⟨_, _, _, _, HB6.out.later HXI.out.below⟩
          rw [← HTE.out] at HBN
          clear HB6 HXI
          go_wp2_with fail
          go_roundw
          case rel => exact ⟨k + 1, by go_num, by omega, HBN⟩
          case measure => simp [intOf]; omega
    · obtain rfl : k = l.length := by omega
      rw [List.take_length] at HBP
      clear HPK
      generalize T0.feed l.flatten = T at *
      obtain ⟨c0, c1, c2, c3, c4, -, -⟩ := HBP.out.ref.cells
      go_wp2_with fail
      have HQ := Lib.hid (HBP.out.later ((Below.refl _ _).drew))
      have tok1 : True := trivial
      go_region_held3 (fun w' => w'.cell? ⟨r, 0, none⟩ = some (.int .i64 (T.rows : Int)) ∧ w'.cell? ⟨r, 1, none⟩ = some (.int .i64 (T.cols : Int)) ∧ w'.cell? ⟨r, 2, none⟩ = some (.slice (some ⟨g, 0, none⟩) T.cells.length cp) ∧ w'.cell? ⟨r, 3, none⟩ = some (.int .i64 (T.row : Int)) ∧ w'.cell? ⟨r, 4, none⟩ = some (.int .i64 (T.col : Int)))
        (first | exact ⟨c0, c1, c2, c3, c4⟩ | exact ⟨a0, a1, a2, a3, a4⟩ | exact ⟨b0, b1, b2, b3, b4⟩ | exact ⟨d0, d1, d2, d3, d4⟩ | go_keep)
        (first | (have _t := tok1; go_at_call 16; refine HQ.out.grid.mono ?_; rintro e wa ⟨ga, rfl, hsa, hqa, hla⟩; obtain ⟨a0, a1, a2, a3, a4, -, -⟩ := hqa.ref.cells; have HSA := Lib.hid hsa; have HQA := Lib.hid hqa; clear hsa hqa hla _t tok1) | (go_at_call 17; refine (HQA.out.ref.same HQA.out.good _ _ HSA.out).mono ?_; rintro e wb ⟨rfl, hbb⟩; obtain ⟨b0, b1, b2, b3, b4, -, -⟩ := (HQA.out.later hbb).ref.cells; have HQB := Lib.hid (HQA.out.later hbb); clear hbb) | (go_at_call 13; refine (does_any _ HQB.out.one.m).mono ?_; rintro e wc ⟨rfl, hbc⟩; obtain ⟨d0, d1, d2, d3, d4, -, -⟩ := (HQB.out.later hbc).ref.cells; have HQC := Lib.hid (HQB.out.later hbc); clear hbc) | (fail "no arm"))
      go_wp2_with fail
      go_returns
      exact ⟨rfl, HQC.out.one.below⟩
theorem vtFeed_any (m n : Int) (l : List (List UInt8)) (ao : Option Addr) (cap : Nat) (w : World) (hm : MaxAt w) (hl : SlOf IsStr w ao cap l) :
    Calls Tryd.prog 3 #[.int .i64 m, .int .i64 n, .slice ao l.length cap] w fun e w' => e = .returned (.bool true) ∧ Below w.heap.size w w' := by
  cases hg : greatS l 30 3000 with
  | true => exact vtFeed_great m n l ao cap w hl hg
  | false =>
    cases hs : sizedB m n with
    | false => exact vtFeed_no m n l ao cap w hm hl hg hs
    | true =>
      have h := hs
      simp [sizedB] at h
      obtain ⟨R, rfl⟩ : ∃ R : Nat, m = R := ⟨m.toNat, by omega⟩
      obtain ⟨C, rfl⟩ : ∃ C : Nat, n = C := ⟨n.toNat, by omega⟩
      exact vtFeed_yes R C l ao cap w hm hl hg (by omega) (by omega) (by omega) (by omega)
end Go.Proofs.YtgfcnafhfgncoaaDoor
