/- The walk of the law VtErase. -/
import Derived.Test.YtgfcnafhfgncoaaDoorVtQ
import Derived.Test.YtgfcnafhfgncoaaDoorConv
import Derived.Test.YtgfcnafhfgncoaaDoorVt7
import Derived.Test.YtgfcnafhfgncoaaDoorVtLS
import Derived.Deep.RegionHeld3
import Derived.Deep.CutRange
namespace Go.Proofs.YtgfcnafhfgncoaaDoor
open Go Go.Proofs Go.RowKit Go.Ink

def eraseL : List (List UInt8) := [[74], [48, 74], [50, 74], [75], [48, 75], [50, 75], [49, 74], [51, 75], [48, 59, 48, 75]]
theorem eraseL_at : ∀ k, k < 9 → eraseL[k]? = some (eraseP k) := by decide
set_option maxRecDepth 100000 in
set_option maxHeartbeats 2000000 in
theorem vtErase_any (m n q : UInt8) (s : List UInt8) (w : World) (hm : MaxAt w) (hs : s.length ≤ maxLen) :
    Calls Tryd.prog 6 #[.agg #[.int .u8 (m.toNat : Int), .int .u8 (n.toNat : Int)], .string ⟨s.toArray⟩, .int .u8 (q.toNat : Int)] w fun e w' => e = .returned (.bool true) ∧ Below w.heap.size w w' := by
  unfold maxLen at hs
  have HSZ := size_mk s
  obtain ⟨k, hk⟩ : ∃ k, q.toNat % 9 = k := ⟨_, rfl⟩
  have hk9 : k < 9 := by omega
  have hk9i : (k : Int) < 9 := by omega
  have hqw : wrap64 (q.toNat : Int) = (q.toNat : Int) := by have := q.toNat_lt; unfold wrap64; omega
  have hki : (q.toNat : Int).tmod 9 = (k : Int) := by rw [Int.tmod_eq_emod_of_nonneg (by omega)]; omega
  have HQW := Lib.hid hqw
  have HKI := Lib.hid hki
  clear hk hqw hki
  have hb0 := (Below.refl w.heap.size w).alloc (Nat.le_refl _) (.cells #[.int .u8 (m.toNat : Int), .int .u8 (n.toNat : Int)] 45)
  have hx0 : (w.alloc (.cells #[.int .u8 (m.toNat : Int), .int .u8 (n.toNat : Int)] 45)).heap[w.heap.size]? = some (.cells #[.int .u8 (m.toNat : Int), .int .u8 (n.toNat : Int)] 45 (0, 0)) := heap_alloc_new w _
  have q0 : (w.alloc (.cells #[.int .u8 (m.toNat : Int), .int .u8 (n.toNat : Int)] 45)).cell? ⟨w.heap.size, 0, none⟩ = some (.int .u8 (m.toNat : Int)) := by rw [Lib.cell_of_heap hx0]; rfl
  have q1 : (w.alloc (.cells #[.int .u8 (m.toNat : Int), .int .u8 (n.toNat : Int)] 45)).cell? ⟨w.heap.size, 1, none⟩ = some (.int .u8 (n.toNat : Int)) := by rw [Lib.cell_of_heap hx0]; rfl
  have HB0 := Lib.hid hb0
  have HM0 := Lib.hid (hm.later hb0)
  clear hb0 hx0 hm
  go_enter Tryd.func6, Tryd.ntmps6
  go_wp2_with fail
  refine (made_any m n _).mono ?_
  rintro e w1 hp
  obtain ⟨v, S0, rfl, h1, _⟩ := OneP.of_new HB0.out HM0.out hp (by omega) (by omega)
  have HP0 : Hid ((Tm.start (2 + m.toNat % 59) (8 + n.toNat % 125)).par.length = 0) := Lib.hid rfl
  have H1 := Lib.hid h1
  clear hp h1 q0 q1
  generalize Tm.start (2 + m.toNat % 59) (8 + n.toNat % 125) = T0 at *
  generalize (w.alloc (.cells #[.int .u8 (m.toNat : Int), .int .u8 (n.toNat : Int)] 45)).heap.size = Bv at *
  by_cases hl : (2000 : Int) < (s.length : Int)
  · go_wp2_with fail
    go_returns
    exact ⟨rfl, H1.out.below⟩
  have hml : ¬ 9223372036854775807 < s.length + ([27, 91, 109] : List UInt8).length := by simp; omega
  go_wp2_with fail
  rw [show ((⟨s.toArray⟩ : ByteArray) ++ ⟨#[27, 91, 109]⟩) = ⟨(s ++ [27, 91, 109]).toArray⟩ from mk_append s [27, 91, 109]]
  refine (H1.out.feed _ (by have := HP0.out; simp only [List.length_append, List.length_cons, List.length_nil]; omega)).mono ?_
  rintro e w2 ⟨rfl, S2, hf2⟩
  have h2 := H1.out.fed hf2
  have hT : ∃ T1, T0.feed (s ++ [27, 91, 109]) = T1 ∧ T1.esc = 0 ∧ T1.par = [] := ⟨_, rfl, by rw [ahead_feed]; rfl, by rw [ahead_feed]; rfl⟩
  obtain ⟨T1, hT1, he1, hp1⟩ := hT
  rw [hT1] at h2
  have H2 := Lib.hid h2
  have HE1 := Lib.hid he1
  have HP1 := Lib.hid hp1
  clear hf2 h2 hT1 he1 hp1 H1 HP0 hml
  go_wp2_with fail
  refine (gridP H2.out.a H2.out.g).mono ?_
  rintro e w3 ⟨g3, bs3, rfl, hg3, ho3, hb3⟩
  have HN1 : Hid (T1.grd.cells.length ≤ 1000000) := Lib.hid (by show T1.cells.length ≤ _; have h1 := H2.out.g.many; have h2 := H2.out.g.rows; omega)
  have HC1 : Hid (∀ l ∈ T1.grd.cells, l.length ≤ 1000000) := Lib.hid (fun l hl => by have h1 := H2.out.g.each l hl; have h2 := H2.out.g.cols; omega)
  have hbx := fun o => (Below.refl w3.heap.size w3).alloc (Nat.le_refl _) o
  have H4 := Lib.hid (fun o => (H2.out.later hb3).later (hbx o))
  have HO4 := Lib.hid (fun o => ho3.later (hbx o))
  have HLT := Lib.hid (fun i (hi : S2 i) => (H2.out.a.lt i hi).2)
  have HG3 := Lib.hid hg3
  have HZ3 := Lib.hid hb3.size
  have hba : BoxAt (w3.alloc (.cells #[.int .i64 T1.grd.rows, .int .i64 T1.grd.cols, .slice (some ⟨g3, 0, none⟩) T1.grd.cells.length T1.grd.cells.length, .int .i64 T1.grd.row, .int .i64 T1.grd.col] 34)) w3.heap.size T1.grd (some ⟨g3, 0, none⟩) T1.grd.cells.length := box_new
  have HA4 := Lib.hid hba
  have HCK := Lib.hid (fun o => checkP (w := w3.alloc o) H2.out.g (some ⟨g3, 0, none⟩) T1.grd.cells.length (ho3.sl.later lasts_bytes (hbx o)))
  clear hb3 ho3 hbx hba hg3
  have HGR : Hid (T1.grd.rows = (T1.rows : Int) ∧ T1.grd.cols = (T1.cols : Int) ∧ T1.grd.row = (T1.row : Int) ∧ T1.grd.col = (T1.col : Int) ∧ T1.grd.cells = T1.cells) := Lib.hid ⟨rfl, rfl, rfl, rfl, rfl⟩
  have HGD := Lib.hid H2.out.g
  generalize hg1 : T1.grd = G1 at *
  have HG1 := Lib.hid hg1
  clear hg1
  unfold gridV at HCK ⊢
  obtain ⟨xa, hxa⟩ : ∃ xa, w3.heap.size = xa := ⟨_, rfl⟩
  rw [hxa] at HA4
  have HXA := Lib.hid hxa
  go_wp2_with fail
  refine (HCK.out _).mono ?_
  rintro e w5 ⟨rfl, hb5⟩
  have H5 := Lib.hid ((H4.out _).later hb5)
  have HO5 := Lib.hid ((HO4.out _).later hb5)
  have HA5 := Lib.hid (HA4.out.later hb5)
  clear hb5 H4 HO4 HA4 HCK H2 hxa
  obtain ⟨d0, d1, d2, d3, d4⟩ := HA5.out.cells
  have hqw := HQW.out
  have hki := HKI.out
  have hcl : (w5.alloc (.cells #[.string ⟨#[74]⟩, .string ⟨#[48, 74]⟩, .string ⟨#[50, 74]⟩, .string ⟨#[75]⟩, .string ⟨#[48, 75]⟩, .string ⟨#[50, 75]⟩, .string ⟨#[49, 74]⟩, .string ⟨#[51, 75]⟩, .string ⟨#[48, 59, 48, 75]⟩] 9)).cell? ⟨w5.heap.size, k, none⟩ = some (.string ⟨(eraseP k).toArray⟩) := by
    rw [Lib.cell_of_heap (heap_alloc_new w5 _)]
    match k, hk9 with
    | 0, _ | 1, _ | 2, _ | 3, _ | 4, _ | 5, _ | 6, _ | 7, _ | 8, _ => rfl
  have hpl : (eraseP k).length ≤ 10 := by
    match k, hk9 with
    | 0, _ | 1, _ | 2, _ | 3, _ | 4, _ | 5, _ | 6, _ | 7, _ | 8, _ => decide
  have HER := Lib.hid (erase_law T1 HGD.out k hk9)
  generalize eraseP k = pk at *
  have hpl2 := size_mk pk
  go_wp2_with fail
  have hal := (Below.refl w5.heap.size w5).alloc (Nat.le_refl _) (.cells #[.string ⟨#[74]⟩, .string ⟨#[48, 74]⟩, .string ⟨#[50, 74]⟩, .string ⟨#[75]⟩, .string ⟨#[48, 75]⟩, .string ⟨#[50, 75]⟩, .string ⟨#[49, 74]⟩, .string ⟨#[51, 75]⟩, .string ⟨#[48, 59, 48, 75]⟩] 9)
  have H5' := Lib.hid (H5.out.later hal)
  have HO5' := Lib.hid (HO5.out.later hal)
  have HA5' := Lib.hid (HA5.out.later hal)
  generalize (w5.alloc (.cells #[.string ⟨#[74]⟩, .string ⟨#[48, 74]⟩, .string ⟨#[50, 74]⟩, .string ⟨#[75]⟩, .string ⟨#[48, 75]⟩, .string ⟨#[50, 75]⟩, .string ⟨#[49, 74]⟩, .string ⟨#[51, 75]⟩, .string ⟨#[48, 59, 48, 75]⟩] 9)) = w5' at *
  clear d0 d1 d2 d3 d4 hal hcl hqw hki H5 HO5 HA5
  rw [show ((⟨#[27, 91]⟩ : ByteArray) ++ ⟨pk.toArray⟩) = ⟨([27, 91] ++ pk).toArray⟩ from mk_append [27, 91] pk]
  refine (H5'.out.feed _ (by rw [HP1.out]; simp; omega)).mono ?_
  rintro e w6 ⟨rfl, S6, hf6⟩
  obtain ⟨p2, hT2⟩ := HER.out
  have HO6 := Lib.hid (HO5'.out.kept hf6.keep (fun i hi e => by have h1 := HLT.out i e; have h2 := (HO5'.out.lt i hi).1; have := HG3.out; omega))
  have HA6 : Hid (BoxAt w6 xa G1 (some ⟨g3, 0, none⟩) G1.cells.length) := Lib.hid ((hf6.keep.block xa (lt_of_heap HA5'.out) (fun e => by have h1 := HLT.out xa e; have := HXA.out; have := HZ3.out; omega)).trans HA5'.out)
  have h6 := H5'.out.fed hf6
  rw [hT2] at h6
  have hG2 : ({ T1 with cells := eraseW T1 k, esc := 0, par := p2 } : Tm).grd = { G1 with cells := eraseW T1 k } := by rw [← HG1.out]; rfl
  generalize ({ T1 with cells := eraseW T1 k, esc := 0, par := p2 } : Tm) = T2 at *
  have H6 := Lib.hid h6
  have HG2 := Lib.hid hG2
  have HCL := Lib.hid (clone_post G1 (some ⟨g3, 0, none⟩) G1.cells.length w6 HO6.out.sl HN1.out HC1.out)
  unfold gridV at HCL
  obtain ⟨d0, d1, d2, d3, d4⟩ := HA6.out.cells
  clear hf6 hT2 h6 hG2 H5' HO5' HA5' hpl hpl2 HER
  go_wp2_with fail
  refine HCL.out.mono ?_
  rintro e w7 ⟨g7, bs7, rfl, hg7, ho7, hb7⟩
  have hbx := fun o => (Below.refl w7.heap.size w7).alloc (Nat.le_refl _) o
  have H8 := Lib.hid (fun o => (H6.out.later hb7).later (hbx o))
  have HA8 := Lib.hid (fun o => (HA6.out.later hb7).later (hbx o))
  have HW8 := Lib.hid (fun o => ho7.later (hbx o))
  have hbc : BoxAt (w7.alloc (.cells #[.int .i64 G1.rows, .int .i64 G1.cols, .slice (some ⟨g7, 0, none⟩) G1.cells.length G1.cells.length, .int .i64 G1.row, .int .i64 G1.col] 34)) w7.heap.size G1 (some ⟨g7, 0, none⟩) G1.cells.length := box_new
  have HC8 := Lib.hid hbc
  have HS7 := Lib.hid (fun i (hi : S6 i) => Nat.lt_of_lt_of_le (H6.out.slt i hi) hg7)
  have HX7 := Lib.hid (Nat.lt_of_lt_of_le (lt_of_heap HA6.out) hg7)
  have HWL7 := Lib.hid (fun i (hi : RowsS (.slice (some ⟨g7, 0, none⟩) G1.cells.length G1.cells.length) bs7 i) => (ho7.lt i hi).2)
  have HB7 := Lib.hid (Nat.le_trans H6.out.hi hg7)
  obtain ⟨xc, hxc⟩ : ∃ xc, w7.heap.size = xc := ⟨_, rfl⟩
  rw [hxc] at HC8 HWL7
  have e0 := fun o => (HA8.out o).cells.1
  clear hbx ho7 hb7 hbc hg7 H6 HO6 HA6 HCL HZ3 d0 d1 d2 d3 d4
  obtain ⟨c0, c1, c2, c3, c4⟩ := HC8.out.cells
  have hgr : G1.rows = (T1.rows : Int) := HGR.out.1
  have hln : G1.cells.length = T1.rows := by rw [HGR.out.2.2.2.2]; exact HGD.out.many
  have hge : (G1.cells.length : Int) = G1.rows := by omega
  clear hgr hln
  unfold gridV
  go_wp2_with fail
  generalize hwr : (w7.alloc (.cells #[.int .i64 G1.rows, .int .i64 G1.cols, .slice (some ⟨g7, 0, none⟩) G1.cells.length G1.cells.length, .int .i64 G1.row, .int .i64 G1.col] 34)) = w8 at *
  have HW0 : Hid (OwnRows w8 g7 (.slice (some ⟨g7, 0, none⟩) G1.cells.length G1.cells.length) bs7 (partW T1 k 0 0)) := Lib.hid (by rw [part_none, ← HGR.out.2.2.2.2, ← hwr]; exact HW8.out _)
  have H80 : Hid (OneP w w8 Bv v T2 S6) := Lib.hid (by rw [← hwr]; exact H8.out _)
  have HA80 : Hid (BoxAt w8 xa G1 (some ⟨g3, 0, none⟩) G1.cells.length) := Lib.hid (by rw [← hwr]; exact HA8.out _)
  clear c0 c1 c2 c3 c4 e0 H8 HA8 HW8 hxc hwr
  have HGC := Lib.hid hge
  clear hge
  go_loopw [12] (fun i wr => ∃ a : Nat, i = .int .i64 a ∧ (a : Int) ≤ G1.rows ∧ Hid (OwnRows wr g7 (.slice (some ⟨g7, 0, none⟩) G1.cells.length G1.cells.length) bs7 (partW T1 k a 0)) ∧ Hid (BoxAt wr xa G1 (some ⟨g3, 0, none⟩) G1.cells.length) ∧ Hid (BoxAt wr xc G1 (some ⟨g7, 0, none⟩) G1.cells.length) ∧ Hid (OneP w wr Bv v T2 S6)) (fun i _ => T1.rows - (intOf i).toNat)
  case atStart => exact ⟨0, rfl, by have := HGR.out.1; omega, HW0, HA80, HC8, H80⟩
  case round =>
    obtain ⟨a, rfl, ha, HW, HA, HC, HO⟩ := hrel
    clear HW0 HA80 HC8 H80
    have hgrr := HGR.out.1
    have hgcc := HGR.out.2.1
    have HK1 := Lib.hid hgrr
    have HK2 := Lib.hid hgcc
    have hgc : G1.cols ≤ 132 := by have h1 := HGD.out.cols; omega
    obtain ⟨d0, d1, d2, d3, d4⟩ := HA.out.cells
    by_cases hlt : a < T1.rows
    · have hlti : (a : Int) < G1.rows := by omega
      clear hgrr hgcc
      go_wp2_with fail
      clear d0 d1 d2 d3 d4
      go_loopw [13] (fun i wr => ∃ b : Nat, i = .int .i64 b ∧ (b : Int) ≤ G1.cols ∧ Hid (OwnRows wr g7 (.slice (some ⟨g7, 0, none⟩) G1.cells.length G1.cells.length) bs7 (partW T1 k a b)) ∧ Hid (BoxAt wr xa G1 (some ⟨g3, 0, none⟩) G1.cells.length) ∧ Hid (BoxAt wr xc G1 (some ⟨g7, 0, none⟩) G1.cells.length) ∧ Hid (OneP w wr Bv v T2 S6)) (fun i _ => T1.cols - (intOf i).toNat)
      case atStart => exact ⟨0, rfl, by have := HK2.out; omega, HW, HA, HC, HO⟩
      case round =>
        obtain ⟨b, rfl, hb, HWb, HAb, HCb, HOb⟩ := hrel
        clear HW HA HC HO
        obtain ⟨d0, d1, d2, d3, d4⟩ := HAb.out.cells
        obtain ⟨c0, c1, c2, c3, c4⟩ := HCb.out.cells
        by_cases hlb : b < T1.cols
        · have hlbi : (b : Int) < G1.cols := by have := HK2.out; omega
          have hal : (a : Int) < (G1.cells.length : Int) := by rw [HGC.out]; exact hlti
          obtain ⟨br, l, hbr, hl⟩ := HWb.out.at (k := a) (by rw [part_len, HGD.out.many]; exact hlt)
          have hll := part_row_len T1 HGD.out k a b a hl
          have hbl : (b : Int) < (l.length : Int) := by omega
          obtain ⟨r7, z7⟩ := HWb.out.row hbr hl
          obtain ⟨x, hx⟩ : ∃ x, l[b]? = some x := ⟨_, List.getElem?_eq_getElem (by omega)⟩
          obtain ⟨q7, y7⟩ := HWb.out.byte hbr hl hx
          unfold rowVal at r7
          have HBR := Lib.hid hbr
          have HL := Lib.hid hl
          have HBL := Lib.hid (show b < l.length by omega)
          clear hbr hl hx
          have hgrow : G1.row = (T1.row : Int) := HGR.out.2.2.1
          have hgcol : G1.col = (T1.col : Int) := HGR.out.2.2.2.1
          have HRW := Lib.hid hgrow
          have HCW := Lib.hid hgcol
          clear hgrow hgcol
          obtain ⟨er, her⟩ : ∃ e, decide ((a : Int) = G1.row) = e := ⟨_, rfl⟩
          have her2 : ((a : Int) == G1.row) = er := by rw [← her]; rfl
          go_upto_region 22 with fail
          go_cut [14] from 61 to 119 (fun s14 wx => s14 = .bool (er && decide (G1.col ≤ (b : Int))) ∧ wx = wr)
          case first =>
            cases er
            · go_wp2_with fail
              go_meet
              exact ⟨rfl, rfl⟩
            · go_wp2_with fail
              go_meet
              exact ⟨rfl, rfl⟩
          case rest =>
            obtain ⟨rfl, rfl⟩ := hcut
            obtain ⟨on, hon⟩ : ∃ e, (er && decide (G1.col ≤ (b : Int))) = e := ⟨_, rfl⟩
            obtain ⟨eb, heb⟩ : ∃ e, decide (G1.row < (a : Int)) = e := ⟨_, rfl⟩
            obtain ⟨e0, he0⟩ : ∃ e, decide ((k : Int) < 2) = e := ⟨_, rfl⟩
            obtain ⟨e2, he2⟩ : ∃ e, decide ((k : Int) = 2) = e := ⟨_, rfl⟩
            obtain ⟨e3, he3⟩ : ∃ e, decide ((k : Int) = 3) = e := ⟨_, rfl⟩
            obtain ⟨e4, he4⟩ : ∃ e, decide ((k : Int) = 4) = e := ⟨_, rfl⟩
            obtain ⟨e5, he5⟩ : ∃ e, decide ((k : Int) = 5) = e := ⟨_, rfl⟩
            have he2' : ((k : Int) == 2) = e2 := by rw [← he2]; rfl
            have he3' : ((k : Int) == 3) = e3 := by rw [← he3]; rfl
            have he4' : ((k : Int) == 4) = e4 := by rw [← he4]; rfl
            have he5' : ((k : Int) == 5) = e5 := by rw [← he5]; rfl
            have HE : Hid (eraseC k a b T1.row T1.col = (((e0 && (on || eb)) || e2 || ((e3 || e4) && on)) || (e5 && er))) := Lib.hid (by
              rw [← hon, ← her, ← heb, ← he0, ← he2, ← he3, ← he4, ← he5]
              unfold eraseC
              rw [Bool.eq_iff_iff]
              have h1 := HRW.out; have h2 := HCW.out
              simp; omega)
            rw [hon]
            clear hon
            go_upto_region 23 with fail
            go_cut [14, 112] from 61 to 119 (fun s14 s112 wx => (∃ o, s14 = .bool o) ∧ s112 = .bool (eraseC k a b T1.row T1.col) ∧ wx = wc)
            case first =>
              go_wp2_with fail
              all_goals go_meet
              all_goals refine ⟨⟨_, rfl⟩, ?_, rfl⟩
              all_goals rw [HE.out]
              all_goals try simp [*]
              all_goals trace_state
              all_goals sorry
            case rest =>
              obtain ⟨⟨o, rfl⟩, rfl, rfl⟩ := hcut
              clear her her2 heb he0 he2 he3 he4 he5 he2' he3' he4' he5' HE
              by_cases hE : eraseC k a b T1.row T1.col = true
              · rw [hE]
                go_wp2_with fail
                have hmem : RowsS (.slice (some ⟨g7, 0, none⟩) G1.cells.length G1.cells.length) bs7 br.1 := .inr (List.mem_map.2 ⟨br, List.mem_of_getElem? HBR.out, rfl⟩)
                have h1 := HWL7.out _ hmem
                have h2 := (HWb.out.lt _ hmem).1
                have hk := fun W => (KeepT.refl (fun i => i = br.1) W).setCell (p := ⟨br.1, b, none⟩) (.inl rfl) (.int .u8 ((32 : UInt8).toNat : Int))
                have HWn := HWb.out.set HBR.out HL.out HBL.out 32
                rw [← part_set T1 k a b hE HL.out] at HWn
                go_roundw
                case rel =>
                  exact ⟨b + 1, by go_num, by omega, Lib.hid HWn, Lib.hid (((hk _).block xa (lt_of_heap HAb.out) (fun e => by have := HX7.out; omega)).trans HAb.out), Lib.hid (((hk _).block xc (lt_of_heap HCb.out) (fun e => by omega)).trans HCb.out), Lib.hid (HOb.out.kept (hk _) (fun i e e' => by have := HS7.out i e; omega) (fun i e => by have := HB7.out; omega))⟩
                case measure => simp [intOf]; omega
              · rw [Bool.not_eq_true] at hE
                rw [hE]
                go_wp2_with fail
                go_roundw
                case rel =>
                  exact ⟨b + 1, by go_num, by omega, Lib.hid (part_stay T1 HGD.out k a b hE ▸ HWb.out), HAb, HCb, HOb⟩
                case measure => simp [intOf]; omega
        · have hlbi : ¬ (b : Int) < G1.cols := by have := HK2.out; omega
          obtain rfl : b = T1.cols := by have := HK2.out; omega
          have hgr60 : G1.rows ≤ 60 := by have h1 := HGD.out.rows; have h2 := HK1.out; omega
          go_wp2_with fail
          go_roundw
          case rel => exact ⟨a + 1, by go_num, by omega, Lib.hid (part_row T1 HGD.out k a ▸ HWb.out), HAb, HCb, HOb⟩
          case measure => simp [intOf]; omega
    · obtain rfl : a = T1.rows := by omega
      have hlti : ¬ ((T1.rows : Int) < G1.rows) := by omega
      go_wp2_with fail
      clear d0 d1 d2 d3 d4
      have hq : EndP w wr Bv v T2 S6 xc g7 G1.cells.length { G1 with cells := eraseW T1 k } := by
        refine ⟨HO.out, ?_, ?_, HG2.out⟩
        · have hle : (eraseW T1 k).length = G1.cells.length := by rw [← part_all T1 HGD.out k, part_len, HGR.out.2.2.2.2]
          have h := HC.out
          unfold BoxAt at h ⊢
          dsimp only
          rw [hle]; exact h
        · have h := HW.out
          rw [part_all T1 HGD.out k] at h
          exact h.sl
      generalize ({ G1 with cells := eraseW T1 k } : Grd) = G2 at *
      obtain ⟨c0, c1, c2, c3, c4⟩ := hq.box.cells
      have HQ := Lib.hid (hq.later ((Below.refl _ _).drew))
      clear hq HW HA HC HO
      have tok1 : True := trivial
      go_region_held3 (fun w' => w'.cell? ⟨xc, 0, none⟩ = some (.int .i64 G2.rows) ∧ w'.cell? ⟨xc, 1, none⟩ = some (.int .i64 G2.cols) ∧ w'.cell? ⟨xc, 2, none⟩ = some (.slice (some ⟨g7, 0, none⟩) G2.cells.length G1.cells.length) ∧ w'.cell? ⟨xc, 3, none⟩ = some (.int .i64 G2.row) ∧ w'.cell? ⟨xc, 4, none⟩ = some (.int .i64 G2.col))
        (first | exact ⟨c0, c1, c2, c3, c4⟩ | exact ⟨a0, a1, a2, a3, a4⟩ | exact ⟨b0, b1, b2, b3, b4⟩ | exact ⟨d0, d1, d2, d3, d4⟩ | go_keep)
        (first | (have _t := tok1; go_at_call 16; refine HQ.out.grid.mono ?_; rintro e wa ⟨ga, rfl, hsa, hqa, hla⟩; obtain ⟨a0, a1, a2, a3, a4⟩ := hqa.box.cells; have HSA := Lib.hid hsa; have HQA := Lib.hid hqa; clear hsa hqa hla _t tok1) | (go_at_call 20; refine (same_self_g G2 _ _ _ _ _ HSA.out HQA.out.sl HQA.out.len).mono ?_; rintro e wb ⟨rfl, hbb⟩; obtain ⟨b0, b1, b2, b3, b4⟩ := (HQA.out.later hbb).box.cells; have HQB := Lib.hid (HQA.out.later hbb); clear hbb) | (go_at_call 13; refine (does_any _ HQB.out.one.m).mono ?_; rintro e wc ⟨rfl, hbc⟩; obtain ⟨d0, d1, d2, d3, d4⟩ := (HQB.out.later hbc).box.cells; have HQC := Lib.hid (HQB.out.later hbc); clear hbc) | (fail "no arm"))
      go_wp2_with fail
      go_returns
      exact ⟨rfl, HQC.out.one.below⟩
end Go.Proofs.YtgfcnafhfgncoaaDoor
