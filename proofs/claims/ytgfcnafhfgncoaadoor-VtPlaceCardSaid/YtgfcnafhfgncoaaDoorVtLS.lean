/- The walk of the law VtScroll. -/
import Derived.Test.YtgfcnafhfgncoaaDoorVtQ
import Derived.Test.YtgfcnafhfgncoaaDoorConv
import Derived.Deep.RegionHeld3
namespace Go.Proofs.YtgfcnafhfgncoaaDoor
open Go Go.Proofs Go.RowKit Go.Ink

theorem ahead_feed (t : Tm) (s : List UInt8) : t.feed (s ++ [27, 91, 109]) = (t.feed s).at0 [] := by rw [Tm.feed_append, feed_reset]
theorem Tm.Good.at0 {t : Tm} (h : t.Good) (p : List UInt8) : (t.at0 p).Good := h.esc 0 p
theorem box_new {w : World} {g : Grd} {ao : Option Addr} {cap : Nat} : BoxAt (w.alloc (.cells #[.int .i64 g.rows, .int .i64 g.cols, .slice ao g.cells.length cap, .int .i64 g.row, .int .i64 g.col] 34)) w.heap.size g ao cap := heap_alloc_new w _
/-- The cursor's row in a grid's box is turned. -/
theorem box_row {w : World} {b : Nat} {g : Grd} {ao : Option Addr} {cap : Nat} (h : BoxAt w b g ao cap) (r : Int) : BoxAt (w.setCell ⟨b, 3, none⟩ (.int .i64 r)) b { g with row := r } ao cap := by
  unfold BoxAt at *; rw [heap_set h]; rfl
set_option maxRecDepth 100000 in
set_option maxHeartbeats 2000000 in
theorem vtScroll_any (m n : UInt8) (s : List UInt8) (w : World) (hm : MaxAt w) (hs : s.length ≤ maxLen) :
    Calls Tryd.prog 7 #[.agg #[.int .u8 (m.toNat : Int), .int .u8 (n.toNat : Int)], .string ⟨s.toArray⟩] w fun e w' => e = .returned (.bool true) ∧ Below w.heap.size w w' := by
  unfold maxLen at hs
  have HSZ := size_mk s
  have hb0 := (Below.refl w.heap.size w).alloc (Nat.le_refl _) (.cells #[.int .u8 (m.toNat : Int), .int .u8 (n.toNat : Int)] 45)
  have hx0 : (w.alloc (.cells #[.int .u8 (m.toNat : Int), .int .u8 (n.toNat : Int)] 45)).heap[w.heap.size]? = some (.cells #[.int .u8 (m.toNat : Int), .int .u8 (n.toNat : Int)] 45 (0, 0)) := heap_alloc_new w _
  have q0 : (w.alloc (.cells #[.int .u8 (m.toNat : Int), .int .u8 (n.toNat : Int)] 45)).cell? ⟨w.heap.size, 0, none⟩ = some (.int .u8 (m.toNat : Int)) := by rw [Lib.cell_of_heap hx0]; rfl
  have q1 : (w.alloc (.cells #[.int .u8 (m.toNat : Int), .int .u8 (n.toNat : Int)] 45)).cell? ⟨w.heap.size, 1, none⟩ = some (.int .u8 (n.toNat : Int)) := by rw [Lib.cell_of_heap hx0]; rfl
  have HB0 := Lib.hid hb0
  have HM0 := Lib.hid (hm.later hb0)
  clear hb0 hx0 hm
  go_enter Tryd.func7, Tryd.ntmps7
  go_wp2_with fail
  refine (made_any m n _).mono ?_
  rintro e w1 hp
  obtain ⟨v, S0, rfl, h1, _⟩ := OneP.of_new HB0.out HM0.out hp (by omega) (by omega)
  have HP0 : Hid ((Tm.start (2 + m.toNat % 59) (8 + n.toNat % 125)).par.length = 0) := Lib.hid rfl
  have H1 := Lib.hid h1
  clear hp h1 q0 q1
  generalize Tm.start (2 + m.toNat % 59) (8 + n.toNat % 125) = T0 at *
  generalize (w.alloc (.cells #[.int .u8 (m.toNat : Int), .int .u8 (n.toNat : Int)] 45)).heap.size = Bv at *
  by_cases hl : (2000 : Int) < (s.length : Int)
  · go_wp2_with fail
    go_returns
    exact ⟨rfl, H1.out.below⟩
  have hml : ¬ 9223372036854775807 < s.length + ([27, 91, 109] : List UInt8).length := by simp; omega
  go_wp2_with fail
  rw [show ((⟨s.toArray⟩ : ByteArray) ++ ⟨#[27, 91, 109]⟩) = ⟨(s ++ [27, 91, 109]).toArray⟩ from mk_append s [27, 91, 109]]
  refine (H1.out.feed _ (by have := HP0.out; simp only [List.length_append, List.length_cons, List.length_nil]; omega)).mono ?_
  rintro e w2 ⟨rfl, S2, hf2⟩
  have h2 := H1.out.fed hf2
  have hT : ∃ T1, T0.feed (s ++ [27, 91, 109]) = T1 ∧ T1.esc = 0 ∧ T1.par = [] := ⟨_, rfl, by rw [ahead_feed]; rfl, by rw [ahead_feed]; rfl⟩
  obtain ⟨T1, hT1, he1, hp1⟩ := hT
  rw [hT1] at h2
  have H2 := Lib.hid h2
  have HE1 := Lib.hid he1
  have HP1 := Lib.hid hp1
  clear hf2 h2 hT1 he1 hp1 H1 HP0 hml
  go_wp2_with fail
  refine (gridP H2.out.a H2.out.g).mono ?_
  rintro e w3 ⟨g3, bs3, rfl, hg3, ho3, hb3⟩
  have HN1 : Hid (T1.grd.cells.length ≤ 1000000) := Lib.hid (by show T1.cells.length ≤ _; have h1 := H2.out.g.many; have h2 := H2.out.g.rows; omega)
  have HC1 : Hid (∀ l ∈ T1.grd.cells, l.length ≤ 1000000) := Lib.hid (fun l hl => by have h1 := H2.out.g.each l hl; have h2 := H2.out.g.cols; omega)
  have hbx := fun o => (Below.refl w3.heap.size w3).alloc (Nat.le_refl _) o
  have H4 := Lib.hid (fun o => (H2.out.later hb3).later (hbx o))
  have HO4 := Lib.hid (fun o => ho3.later (hbx o))
  have HLT := Lib.hid (fun i (hi : S2 i) => (H2.out.a.lt i hi).2)
  have HG3 := Lib.hid hg3
  have HZ3 := Lib.hid hb3.size
  have hba : BoxAt (w3.alloc (.cells #[.int .i64 T1.grd.rows, .int .i64 T1.grd.cols, .slice (some ⟨g3, 0, none⟩) T1.grd.cells.length T1.grd.cells.length, .int .i64 T1.grd.row, .int .i64 T1.grd.col] 34)) w3.heap.size T1.grd (some ⟨g3, 0, none⟩) T1.grd.cells.length := box_new
  have HA4 := Lib.hid hba
  have HCK := Lib.hid (fun o => checkP (w := w3.alloc o) H2.out.g (some ⟨g3, 0, none⟩) T1.grd.cells.length (ho3.sl.later lasts_bytes (hbx o)))
  clear hb3 ho3 hbx hba hg3
  have HGR : Hid (T1.grd.rows = (T1.rows : Int) ∧ T1.grd.cols = (T1.cols : Int) ∧ T1.grd.row = (T1.row : Int) ∧ T1.grd.col = (T1.col : Int) ∧ T1.grd.cells = T1.cells) := Lib.hid ⟨rfl, rfl, rfl, rfl, rfl⟩
  have HGD := Lib.hid H2.out.g
  generalize hg1 : T1.grd = G1 at *
  have HG1 := Lib.hid hg1
  clear hg1
  unfold gridV at HCK ⊢
  obtain ⟨xa, hxa⟩ : ∃ xa, w3.heap.size = xa := ⟨_, rfl⟩
  rw [hxa] at HA4
  have HXA := Lib.hid hxa
  go_wp2_with fail
  refine (HCK.out _).mono ?_
  rintro e w5 ⟨rfl, hb5⟩
  have H5 := Lib.hid ((H4.out _).later hb5)
  have HO5 := Lib.hid ((HO4.out _).later hb5)
  have HA5 := Lib.hid (HA4.out.later hb5)
  clear hb5 H4 HO4 HA4 HCK H2 hxa
  go_wp2_with fail
  refine (H5.out.feed [10] (by rw [HP1.out]; decide)).mono ?_
  rintro e w6 ⟨rfl, S6, hf6⟩
  have hdn : T1.feed [10] = T1.down := byte_line T1 HE1.out
  have HO6 := Lib.hid (HO5.out.kept hf6.keep (fun i hi e => by have h1 := HLT.out i e; have h2 := (HO5.out.lt i hi).1; have := HG3.out; omega))
  have HA6 : Hid (BoxAt w6 xa G1 (some ⟨g3, 0, none⟩) G1.cells.length) := Lib.hid ((hf6.keep.block xa (lt_of_heap HA5.out) (fun e => by have h1 := HLT.out xa e; have := HXA.out; have := HZ3.out; omega)).trans HA5.out)
  have h6 := H5.out.fed hf6
  rw [hdn] at h6
  have H6 := Lib.hid h6
  have HCL := Lib.hid (clone_post G1 (some ⟨g3, 0, none⟩) G1.cells.length w6 HO6.out.sl HN1.out HC1.out)
  unfold gridV at HCL
  obtain ⟨d0, d1, d2, d3, d4⟩ := HA6.out.cells
  clear hf6 hdn h6 H5 HO5 HA5
  go_wp2_with fail
  refine HCL.out.mono ?_
  rintro e w7 ⟨g7, bs7, rfl, hg7, ho7, hb7⟩
  have hbx := fun o => (Below.refl w7.heap.size w7).alloc (Nat.le_refl _) o
  have H8 := Lib.hid (fun o => (H6.out.later hb7).later (hbx o))
  have HO8 := Lib.hid (fun o => (HO6.out.later hb7).later (hbx o))
  have HA8 := Lib.hid (fun o => (HA6.out.later hb7).later (hbx o))
  have HW8 := Lib.hid (fun o => ho7.later (hbx o))
  have hbc : BoxAt (w7.alloc (.cells #[.int .i64 G1.rows, .int .i64 G1.cols, .slice (some ⟨g7, 0, none⟩) G1.cells.length G1.cells.length, .int .i64 G1.row, .int .i64 G1.col] 34)) w7.heap.size G1 (some ⟨g7, 0, none⟩) G1.cells.length := box_new
  have HC8 := Lib.hid hbc
  have HZ7 := Lib.hid (Nat.le_trans HZ3.out (show w3.heap.size ≤ w3.heap.size from Nat.le_refl _))
  have HS7 := Lib.hid (fun i (hi : S6 i) => Nat.lt_of_lt_of_le (H6.out.slt i hi) hb7.size)
  have HX7 := Lib.hid (Nat.lt_of_lt_of_le (lt_of_heap HA6.out) hb7.size)
  have HOL7 := Lib.hid (fun i (hi : RowsS (.slice (some ⟨g3, 0, none⟩) G1.cells.length G1.cells.length) bs3 i) => Nat.lt_of_lt_of_le (HO6.out.lt i hi).2 hb7.size)
  have HWL7 := Lib.hid (fun i (hi : RowsS (.slice (some ⟨g7, 0, none⟩) G1.cells.length G1.cells.length) bs7 i) => (ho7.lt i hi).2)
  have HG7 := Lib.hid hg7
  have HB7 := Lib.hid (Nat.le_trans H6.out.hi hb7.size)
  obtain ⟨xc, hxc⟩ : ∃ xc, w7.heap.size = xc := ⟨_, rfl⟩
  rw [hxc] at HC8 HS7 HX7 HOL7 HWL7 HB7
  have da := fun o => (HA8.out o).cells
  have e0 := fun o => (da o).1
  have e3 := fun o => (da o).2.2.2.1
  have hgr0 : (0 : Int) ≤ G1.row ∧ G1.row ≤ 60 ∧ (2 : Int) ≤ G1.rows ∧ G1.rows ≤ 60 := by have h1 := HGR.out.1; have h2 := HGR.out.2.2.1; have h3 := HGD.out.rows; have h4 := HGD.out.row; omega
  obtain ⟨hg1, hg2, hg3, hg4⟩ := hgr0
  clear hbx ho7 hb7 hbc hg7 da H6 HO6 HA6 HCL HZ3 d0 d1 d2 d3 d4
  by_cases hr : T1.row + 1 < T1.rows
  · have hri : G1.row < G1.rows - 1 := by have h1 := HGR.out.1; have h2 := HGR.out.2.2.1; omega
    obtain ⟨G2, hG2⟩ : ∃ G2, ({ G1 with row := G1.row + 1 } : Grd) = G2 := ⟨_, rfl⟩
    obtain ⟨c0, c1, c2, c3, c4⟩ := HC8.out.cells
    unfold gridV
    go_wp2_with fail
    clear c0 c1 c2 c3 c4 e0 e3
    have hq : EndP w (w7.alloc (.cells #[.int .i64 G1.rows, .int .i64 G1.cols, .slice (some ⟨g7, 0, none⟩) G1.cells.length G1.cells.length, .int .i64 (G1.row + 1), .int .i64 G1.col] 34)) Bv v T1.down S6 xc g7 G1.cells.length G2 := by
      refine ⟨H8.out _, ?_, ?_, ?_⟩
      · rw [← hG2, ← hxc]; exact box_new (g := { G1 with row := G1.row + 1 })
      · rw [← hG2]; exact (HW8.out _).sl
      · rw [down_more T1 hr, ← hG2, ← HG1.out]; rfl
    obtain ⟨w9, hw9⟩ : ∃ w9, (w7.alloc (.cells #[.int .i64 G1.rows, .int .i64 G1.cols, .slice (some ⟨g7, 0, none⟩) G1.cells.length G1.cells.length, .int .i64 (G1.row + 1), .int .i64 G1.col] 34)) = w9 := ⟨_, rfl⟩
    rw [hw9] at hq ⊢
    have hGc : G1.cells.length = G2.cells.length := by rw [← hG2]
    rw [hGc] at hq
    obtain ⟨c0, c1, c2, c3, c4⟩ := hq.box.cells
    have HQ := Lib.hid (hq.later ((Below.refl _ _).drew))
    clear hq hw9 hG2 HC8 HW8 H8 HO8 HA8 HWL7 HOL7 hGc hxc HX7 HS7 HG7 HB7 HZ7 HG3 HLT
    have tok1 : True := trivial
    go_region_held3 (fun w' => w'.cell? ⟨xc, 0, none⟩ = some (.int .i64 G2.rows) ∧ w'.cell? ⟨xc, 1, none⟩ = some (.int .i64 G2.cols) ∧ w'.cell? ⟨xc, 2, none⟩ = some (.slice (some ⟨g7, 0, none⟩) G2.cells.length G2.cells.length) ∧ w'.cell? ⟨xc, 3, none⟩ = some (.int .i64 G2.row) ∧ w'.cell? ⟨xc, 4, none⟩ = some (.int .i64 G2.col))
      (first | exact ⟨c0, c1, c2, c3, c4⟩ | exact ⟨a0, a1, a2, a3, a4⟩ | exact ⟨b0, b1, b2, b3, b4⟩ | exact ⟨d0, d1, d2, d3, d4⟩ | go_keep)
      (first | (have _t := tok1; go_at_call 16; refine HQ.out.grid.mono ?_; rintro e wa ⟨ga, rfl, hsa, hqa, hla⟩; obtain ⟨a0, a1, a2, a3, a4⟩ := hqa.box.cells; have HSA := Lib.hid hsa; have HQA := Lib.hid hqa; clear hsa hqa hla _t tok1) | (go_at_call 20; refine (same_self_g G2 _ _ _ _ _ HSA.out HQA.out.sl HQA.out.len).mono ?_; rintro e wb ⟨rfl, hbb⟩; obtain ⟨b0, b1, b2, b3, b4⟩ := (HQA.out.later hbb).box.cells; have HQB := Lib.hid (HQA.out.later hbb); clear hbb) | (go_at_call 13; refine (does_any _ HQB.out.one.m).mono ?_; rintro e wc ⟨rfl, hbc⟩; obtain ⟨d0, d1, d2, d3, d4⟩ := (HQB.out.later hbc).box.cells; have HQC := Lib.hid (HQB.out.later hbc); clear hbc) | (fail "no arm"))
    go_wp2_with fail
    go_returns
    exact ⟨rfl, HQC.out.one.below⟩
  · have hri : ¬ G1.row < G1.rows - 1 := by have h1 := HGR.out.1; have h2 := HGR.out.2.2.1; omega
    have hdl := down_last T1 hr
    have hGE : T1.down.grd = { G1 with cells := T1.down.cells } := by rw [hdl, ← HG1.out]; rfl
    have HEA : Hid (∀ l ∈ T1.down.cells, l.length = T1.cols) := Lib.hid (fun l hl => ((H8.out (.cells #[] 0)).g.each l hl).trans (by rw [hdl]))
    have hln : T1.down.cells.length = T1.rows := (H8.out (.cells #[] 0)).g.many.trans (by rw [hdl])
    have HDR := Lib.hid (fun i (hi : i < T1.rows) => (congrArg (fun c : List (List UInt8) => c[i]?) (show T1.down.cells = T1.cells.drop 1 ++ [blankL T1.cols] from by rw [hdl])).trans (down_row T1 HGD.out i hi))
    unfold gridV
    go_wp2_with fail
    have hp := gridP (H8.out (.cells #[.int .i64 G1.rows, .int .i64 G1.cols, .slice (some ⟨g7, 0, none⟩) G1.cells.length G1.cells.length, .int .i64 G1.row, .int .i64 G1.col] 34)).a (H8.out (.cells #[] 0)).g
    rw [hGE] at hp
    refine hp.mono ?_
    rintro e w9 ⟨g9, bs9, rfl, _, ho9, hb9⟩
    have hbx := fun o => (Below.refl w9.heap.size w9).alloc (Nat.le_refl _) o
    have H9 := Lib.hid (fun o => ((H8.out _).later hb9).later (hbx o))
    have HO9 := Lib.hid (fun o => ((HO8.out _).later hb9).later (hbx o))
    have HA9 := Lib.hid (fun o => ((HA8.out _).later hb9).later (hbx o))
    have HW9 := Lib.hid (fun o => ho9.later (hbx o))
    have HX9 := Lib.hid hb9.size
    have hbc : BoxAt (w9.alloc (.cells #[.int .i64 G1.rows, .int .i64 G1.cols, .slice (some ⟨g9, 0, none⟩) T1.down.cells.length T1.down.cells.length, .int .i64 G1.row, .int .i64 G1.col] 34)) w9.heap.size { G1 with cells := T1.down.cells } (some ⟨g9, 0, none⟩) T1.down.cells.length := box_new (g := { G1 with cells := T1.down.cells })
    have HC9 := Lib.hid hbc
    have HCK := Lib.hid (fun o => checkP (w := w9.alloc o) (H8.out (.cells #[] 0)).g (some ⟨g9, 0, none⟩) T1.down.cells.length (ho9.sl.later lasts_bytes (hbx o)))
    rw [hGE] at HCK
    unfold gridV at HCK ⊢
    obtain ⟨xg, hxg⟩ : ∃ xg, w9.heap.size = xg := ⟨_, rfl⟩
    rw [hxg] at HC9
    clear hp hb9 hbx hbc H8 HO8 HA8 HW8 HC8 ho9 e0 e3
    dsimp only at HCK HC9 HW9 ⊢
    generalize hC3 : T1.down.cells = C3 at *
    have HLN := Lib.hid hln
    clear hGE hdl hln HWL7 HOL7 hxc HX7 HS7 HG7 HB7 HZ7 HG3 HLT
    go_wp2_with fail
    refine (HCK.out _).mono ?_
    rintro e w10 ⟨rfl, hb10⟩
    have H10 := Lib.hid ((H9.out _).later hb10)
    have HO10 := Lib.hid ((HO9.out _).later hb10)
    have HW10 := Lib.hid ((HW9.out _).later hb10)
    obtain ⟨a0, a1, a2, a3, a4⟩ := ((HA9.out _).later hb10).cells
    obtain ⟨c0, c1, c2, c3, c4⟩ := (HC9.out.later hb10).cells
    dsimp only at c0 c1 c2 c3 c4
    clear hb10 H9 HO9 HW9 HA9 HC9 HCK hxg HX9
    go_wp2_with fail
    go_loop [9] (fun i => ∃ k : Nat, i = .int .i64 k ∧ (k : Int) ≤ G1.rows) (fun i => T1.rows - (intOf i).toNat)
    case atStart => exact ⟨0, rfl, by omega⟩
    case round =>
      obtain ⟨k, rfl, hk⟩ := hrel
      have HK1 : Hid (G1.rows = (T1.rows : Int) ∧ G1.cols = (T1.cols : Int)) := Lib.hid ⟨HGR.out.1, HGR.out.2.1⟩
      have hgc : G1.cols ≤ 132 := by have h1 := HGD.out.cols; have h2 := HK1.out.2; omega
      by_cases hlt : k < T1.rows
      · have hlti : (k : Int) < G1.rows := by have := HK1.out.1; omega
        obtain ⟨b9, l9, hbs9, hl9⟩ := HW10.out.at (k := k) (by rw [HLN.out]; exact hlt)
        have hll : l9.length = T1.cols := HEA.out l9 (List.mem_of_getElem? hl9)
        obtain ⟨r9, _⟩ := HW10.out.row hbs9 hl9
        have HL9 := Lib.hid hl9
        have HB9 := Lib.hid hbs9
        have HLL := Lib.hid hll
        unfold rowVal at r9
        clear hl9 hbs9 hll
        go_wp2_with fail
        go_loop [10] (fun i => ∃ j : Nat, i = .int .i64 j ∧ (j : Int) ≤ G1.cols) (fun i => T1.cols - (intOf i).toNat)
        case atStart => exact ⟨0, rfl, by have := HK1.out.2; omega⟩
        case round =>
          obtain ⟨j, rfl, hj⟩ := hrel
          by_cases hlj : j < T1.cols
          · have hlji : (j : Int) < G1.cols := by have := HK1.out.2; omega
            obtain ⟨c, hc⟩ : ∃ c, l9[j]? = some c := ⟨_, List.getElem?_eq_getElem (by rw [HLL.out]; exact hlj)⟩
            obtain ⟨q9, _⟩ := HW10.out.byte HB9.out HL9.out hc
            have HC := Lib.hid hc
            have hjl : (j : Int) < (l9.length : Int) := by rw [HLL.out]; omega
            have hkl : (k : Int) < (C3.length : Int) := by rw [HLN.out]; omega
            clear hc
            by_cases hn : k + 1 < T1.rows
            · have hni : (k : Int) + 1 < G1.rows := by have := HK1.out.1; omega
              have h1 := HDR.out k hlt
              rw [if_pos hn, HL9.out, ← HGR.out.2.2.2.2] at h1
              obtain ⟨b3, l3, hbs3, hl3⟩ := HO10.out.at (k := k + 1) (by rw [HGR.out.2.2.2.2, HGD.out.many]; exact hn)
              obtain rfl := Option.some.inj (h1.trans hl3)
              obtain ⟨r3, _⟩ := HO10.out.row hbs3 hl3
              obtain ⟨q3, _⟩ := HO10.out.byte hbs3 hl3 HC.out
              have hkl3 : (k : Int) + 1 < (G1.cells.length : Int) := by rw [HGR.out.2.2.2.2, HGD.out.many]; omega
              unfold rowVal at r3
              clear h1 hl3 hbs3
              go_wp2_with fail
              go_round
              case rel => exact ⟨j + 1, by go_num, by omega⟩
              case measure => simp [intOf]; omega
            · have hni : ¬ (k : Int) + 1 < G1.rows := by have := HK1.out.1; omega
              have h1 := HDR.out k hlt
              rw [if_neg hn, HL9.out] at h1
              have h2 := Option.some.inj h1
              have h3 := HC.out
              rw [h2] at h3
              have h4 : c = 32 := List.eq_of_mem_replicate (List.mem_of_getElem? h3)
              subst h4
              clear h1 h2 h3
              go_wp2_with fail
              go_round
              case rel => exact ⟨j + 1, by go_num, by omega⟩
              case measure => simp [intOf]; omega
          · have hlji : ¬ (j : Int) < G1.cols := by have := HK1.out.2; omega
            go_wp2_with fail
            go_round
            case rel => exact ⟨k + 1, by go_num, by omega⟩
            case measure => simp [intOf]; omega
      · obtain rfl : k = T1.rows := by have := HK1.out.1; omega
        have hlti : ¬ ((T1.rows : Int) < G1.rows) := by have := HK1.out.1; omega
        go_wp2_with fail
        refine (does_any _ H10.out.m).mono ?_
        rintro e w11 ⟨rfl, hb11⟩
        have H11 := Lib.hid (H10.out.later hb11)
        clear hb11
        go_wp2_with fail
        go_returns
        exact ⟨rfl, H11.out.below⟩
end Go.Proofs.YtgfcnafhfgncoaaDoor
