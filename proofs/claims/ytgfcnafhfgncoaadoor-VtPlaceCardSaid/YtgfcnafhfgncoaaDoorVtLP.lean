/- The walk of the law VtPlace. -/
import Derived.Test.YtgfcnafhfgncoaaDoorVtLS
import Derived.Test.YtgfcnafhfgncoaaDoorPut
import Derived.Test.YtgfcnafhfgncoaaDoorNumber
import Derived.BigQuiet
import Derived.BigRegion
import Derived.Deep.RegionHeld3
namespace Go.Proofs.YtgfcnafhfgncoaaDoor
open Go Go.Proofs Go.RowKit Go.Ink

theorem mk_five (a b c d e : List UInt8) : ((⟨a.toArray⟩ : ByteArray) ++ ⟨b.toArray⟩ ++ ⟨c.toArray⟩ ++ ⟨d.toArray⟩ ++ ⟨e.toArray⟩) = ⟨(a ++ b ++ c ++ d ++ e).toArray⟩ := by rw [mk_append, mk_append, mk_append, mk_append]
theorem dec_len (n : Nat) : (Lib.decDigits n).length ≤ n + 1 := by
  induction n using Nat.strongRecOn with
  | _ n ih =>
    rw [Lib.decDigits]
    split
    · simp
    · rename_i h
      have := ih (n / 10) (by omega)
      simp only [List.length_append, List.length_singleton]
      omega
/-- What the terminal shows behind a place and a mark. -/
theorem placed (t : Tm) (hg : t.Good) (r c : Nat) (hr : r ≤ 9999) (hc : c ≤ 9999) {l : List UInt8} (hl : t.cells[min (max r 1) t.rows - 1]? = some l) :
    (t.feed ([27, 91] ++ Lib.decDigits r ++ [59] ++ Lib.decDigits c ++ [72, 35])).grd = { putG t.grd (min (max r 1) t.rows - 1) (min (max c 1) t.cols - 1) l with row := ((min (max r 1) t.rows - 1 : Nat) : Int), col := ((min (min (max c 1) t.cols - 1 + 1) (t.cols - 1) : Nat) : Int) } := by
  obtain ⟨p, hp⟩ := place_feed t r c hr hc
  obtain ⟨q, hq⟩ := place_put t hg r c p
  have e : ([27, 91] ++ Lib.decDigits r ++ [59] ++ Lib.decDigits c ++ [72, 35] : List UInt8) = ([27, 91] ++ ((Lib.decDigits r ++ 59 :: Lib.decDigits c) ++ [72])) ++ [35] := by simp
  have e2 : t.cells.getD (min (max r 1) t.rows - 1) [] = l := by rw [List.getD_eq_getElem?_getD, hl]; rfl
  rw [e, Tm.feed_append, hp]
  show ((placeT t r c p).byte 35).grd = _
  rw [hq, e2]
  rfl
set_option maxRecDepth 100000 in
set_option maxHeartbeats 2000000 in
theorem vtPlace_any (m n : UInt8) (s : List UInt8) (p q : Nat) (w : World) (hm : MaxAt w) (hs : s.length ≤ maxLen) (hp : p ≤ 65535) (hq : q ≤ 65535) :
    Calls Tryd.prog 9 #[.agg #[.int .u8 (m.toNat : Int), .int .u8 (n.toNat : Int)], .string ⟨s.toArray⟩, .agg #[.int .u16 (p : Int), .int .u16 (q : Int)]] w fun e w' => e = .returned (.bool true) ∧ Below w.heap.size w w' := by
  unfold maxLen at hs
  have HSZ := size_mk s
  have H2 := Lib.hid (@two_blk w (.cells #[.int .u8 (m.toNat : Int), .int .u8 (n.toNat : Int)] 45) (.cells #[.int .u16 (p : Int), .int .u16 (q : Int)] 55))
  have HA0 : Hid (((w.alloc (.cells #[.int .u8 (m.toNat : Int), .int .u8 (n.toNat : Int)] 45)).alloc (.cells #[.int .u16 (p : Int), .int .u16 (q : Int)] 55)).heap.size = w.heap.size + 2) := Lib.hid (by simp)
  have hm0 := hm.later H2.out.2.2
  have q0 : ((w.alloc (.cells #[.int .u8 (m.toNat : Int), .int .u8 (n.toNat : Int)] 45)).alloc (.cells #[.int .u16 (p : Int), .int .u16 (q : Int)] 55)).cell? ⟨w.heap.size, 0, none⟩ = some (.int .u8 (m.toNat : Int)) := by rw [Lib.cell_of_heap H2.out.1]; rfl
  have q1 : ((w.alloc (.cells #[.int .u8 (m.toNat : Int), .int .u8 (n.toNat : Int)] 45)).alloc (.cells #[.int .u16 (p : Int), .int .u16 (q : Int)] 55)).cell? ⟨w.heap.size, 1, none⟩ = some (.int .u8 (n.toNat : Int)) := by rw [Lib.cell_of_heap H2.out.1]; rfl
  have HM0 := Lib.hid hm0
  have HBW := Lib.hid H2.out.2.2
  have HX2 := Lib.hid H2.out.2.1
  clear hm hm0 H2
  go_enter Tryd.func9, Tryd.ntmps9
  go_wp2_with fail
  generalize hwa : ((w.alloc (.cells #[.int .u8 (m.toNat : Int), .int .u8 (n.toNat : Int)] 45)).alloc (.cells #[.int .u16 (p : Int), .int .u16 (q : Int)] 55)) = wa at *
  refine (made_any m n _).mono ?_
  rintro e w1 hpo
  obtain ⟨v, S0, rfl, h1, _⟩ := OneP.of_new (Below.refl wa.heap.size wa) HM0.out hpo (by omega) (by omega)
  have HP0 : Hid ((Tm.start (2 + m.toNat % 59) (8 + n.toNat % 125)).par.length = 0) := Lib.hid rfl
  have H1 := Lib.hid h1
  clear hpo h1 q0 q1 hwa
  generalize Tm.start (2 + m.toNat % 59) (8 + n.toNat % 125) = T0 at *
  obtain ⟨Bv, hBv⟩ : ∃ Bv, wa.heap.size = Bv := ⟨_, rfl⟩
  rw [hBv] at H1 HA0
  have HBE := Lib.hid hBv
  clear hBv
  by_cases hl : (2000 : Int) < (s.length : Int)
  · go_wp2_with fail
    go_returns
    exact ⟨rfl, HBW.out.trans (H1.out.below.mono HBW.out.size)⟩
  have hml : ¬ 9223372036854775807 < s.length + ([27, 91, 109] : List UInt8).length := by simp; omega
  go_wp2_with fail
  rw [show ((⟨s.toArray⟩ : ByteArray) ++ ⟨#[27, 91, 109]⟩) = ⟨(s ++ [27, 91, 109]).toArray⟩ from mk_append s [27, 91, 109]]
  refine (H1.out.feed _ (by have := HP0.out; simp only [List.length_append, List.length_cons, List.length_nil]; omega)).mono ?_
  rintro e w2 ⟨rfl, S2, hf2⟩
  have h2 := H1.out.fed hf2
  have hT : ∃ T1, T0.feed (s ++ [27, 91, 109]) = T1 ∧ T1.esc = 0 ∧ T1.par = [] := ⟨_, rfl, by rw [ahead_feed]; rfl, by rw [ahead_feed]; rfl⟩
  obtain ⟨T1, hT1, he1, hp1⟩ := hT
  rw [hT1] at h2
  have H2 := Lib.hid h2
  have HE1 := Lib.hid he1
  have HP1 := Lib.hid hp1
  clear hf2 h2 hT1 he1 hp1 H1 HP0 hml
  go_wp2_with fail
  refine (gridP H2.out.a H2.out.g).mono ?_
  rintro e w3 ⟨g3, bs3, rfl, hg3, ho3, hb3⟩
  have HN1 : Hid (T1.grd.cells.length ≤ 1000000) := Lib.hid (by show T1.cells.length ≤ _; have h1 := H2.out.g.many; have h2 := H2.out.g.rows; omega)
  have HC1 : Hid (∀ l ∈ T1.grd.cells, l.length ≤ 1000000) := Lib.hid (fun l hl => by have h1 := H2.out.g.each l hl; have h2 := H2.out.g.cols; omega)
  have hbx := fun o => (Below.refl w3.heap.size w3).alloc (Nat.le_refl _) o
  have H4 := Lib.hid (fun o => (H2.out.later hb3).later (hbx o))
  have HO4 := Lib.hid (fun o => ho3.later (hbx o))
  have HLT := Lib.hid (fun i (hi : S2 i) => (H2.out.a.lt i hi).2)
  have HG3 := Lib.hid hg3
  have HZ3 := Lib.hid hb3.size
  have hba : BoxAt (w3.alloc (.cells #[.int .i64 T1.grd.rows, .int .i64 T1.grd.cols, .slice (some ⟨g3, 0, none⟩) T1.grd.cells.length T1.grd.cells.length, .int .i64 T1.grd.row, .int .i64 T1.grd.col] 34)) w3.heap.size T1.grd (some ⟨g3, 0, none⟩) T1.grd.cells.length := box_new
  have HA4 := Lib.hid hba
  have HCK := Lib.hid (fun o => checkP (w := w3.alloc o) H2.out.g (some ⟨g3, 0, none⟩) T1.grd.cells.length (ho3.sl.later lasts_bytes (hbx o)))
  clear hb3 ho3 hbx hba hg3
  have HGR : Hid (T1.grd.rows = (T1.rows : Int) ∧ T1.grd.cols = (T1.cols : Int) ∧ T1.grd.row = (T1.row : Int) ∧ T1.grd.col = (T1.col : Int) ∧ T1.grd.cells = T1.cells) := Lib.hid ⟨rfl, rfl, rfl, rfl, rfl⟩
  have HGD := Lib.hid H2.out.g
  generalize hg1 : T1.grd = G1 at *
  have HG1 := Lib.hid hg1
  clear hg1
  unfold gridV at HCK ⊢
  obtain ⟨xa, hxa⟩ : ∃ xa, w3.heap.size = xa := ⟨_, rfl⟩
  rw [hxa] at HA4
  have HXA := Lib.hid hxa
  go_wp2_with fail
  refine (HCK.out _).mono ?_
  rintro e w5 ⟨rfl, hb5⟩
  have H5 := Lib.hid ((H4.out _).later hb5)
  have HO5 := Lib.hid ((HO4.out _).later hb5)
  have HA5 := Lib.hid (HA4.out.later hb5)
  clear hb5 H4 HO4 HA4 HCK H2 hxa
  obtain ⟨r, hr⟩ : ∃ r, p % 10000 = r := ⟨_, rfl⟩
  obtain ⟨c, hc⟩ : ∃ c, q % 10000 = c := ⟨_, rfl⟩
  have hr9 : r ≤ 9999 := by omega
  have hc9 : c ≤ 9999 := by omega
  have hrm : (p : Int).tmod 10000 = (r : Int) := by rw [Int.tmod_eq_emod_of_nonneg (by omega)]; omega
  have hcm : (q : Int).tmod 10000 = (c : Int) := by rw [Int.tmod_eq_emod_of_nonneg (by omega)]; omega
  have hrw : wrap64 (r : Int) = (r : Int) := by unfold wrap64; omega
  have hcw : wrap64 (c : Int) = (c : Int) := by unfold wrap64; omega
  have HX5 := Lib.hid ((H5.out.below.block _ (lt_of_heap HX2.out)).trans HX2.out)
  have u0 : w5.cell? ⟨w.heap.size + 1, 0, none⟩ = some (.int .u16 (p : Int)) := by rw [Lib.cell_of_heap HX5.out]; rfl
  have u1 : w5.cell? ⟨w.heap.size + 1, 1, none⟩ = some (.int .u16 (q : Int)) := by rw [Lib.cell_of_heap HX5.out]; rfl
  clear hr hc HX2
  go_wp2_with fail
  go_quiet (fail)
  clear u0 u1 hrm hcm hrw hcw HX5
  obtain ⟨d0, d1, d2, d3, d4⟩ := HA5.out.cells
  have hgr0 : (2 : Int) ≤ G1.rows ∧ G1.rows ≤ 60 ∧ (8 : Int) ≤ G1.cols ∧ G1.cols ≤ 132 := by have h1 := HGR.out.1; have h2 := HGR.out.2.1; have h3 := HGD.out.rows; have h4 := HGD.out.cols; omega
  obtain ⟨hg1, hg2, hg3, hg4⟩ := hgr0
  go_wp2_with fail
  go_region
  clear d0 d1 d2 d3 d4
  obtain ⟨rr, hrr⟩ : ∃ rr, min (max r 1) T1.rows - 1 = rr := ⟨_, rfl⟩
  obtain ⟨cc, hcc⟩ : ∃ cc, min (max c 1) T1.cols - 1 = cc := ⟨_, rfl⟩
  have hmr : min (max (r : Int) 1) G1.rows - 1 = (rr : Int) := by have h1 := HGR.out.1; omega
  have hmc : min (max (c : Int) 1) G1.cols - 1 = (cc : Int) := by have h1 := HGR.out.2.1; omega
  have hrl : rr < T1.rows := by have h3 := HGD.out.rows; omega
  have hcl : cc < T1.cols := by have h3 := HGD.out.cols; omega
  obtain ⟨l, hl⟩ : ∃ l, T1.cells[rr]? = some l := ⟨_, List.getElem?_eq_getElem (by rw [HGD.out.many]; exact hrl)⟩
  have hpl := placed T1 HGD.out r c hr9 hc9 (l := l) (by rw [hrr]; exact hl)
  rw [hrr, hcc, HG1.out] at hpl
  have HPL := Lib.hid hpl
  have HL := Lib.hid hl
  have HRL := Lib.hid hrl
  have HCL := Lib.hid hcl
  rw [hmr, hmc]
  have hd1 := dec_len r
  have hd2 := dec_len c
  have hcm : (cc : Int) ≤ 132 := by omega
  have HN6 := Lib.hid (number_any r)
  have HN7 := Lib.hid (number_any c)
  clear hmr hmc hrr hcc hpl hl hrl hcl
  generalize Lib.decDigits r = dr at *
  generalize Lib.decDigits c = dc at *
  have hb6 := below_drewN (Below.refl w5.heap.size w5) (nq + 1)
  have H6 := Lib.hid (H5.out.later hb6)
  have HO6 := Lib.hid (HO5.out.later hb6)
  have HA6 := Lib.hid (HA5.out.later hb6)
  generalize w5.drewN (nq + 1) = w6 at *
  clear hb6 H5 HO5 HA5
  go_wp2_with fail
  refine (HN6.out w6 hr9).mono ?_
  rintro e w7 ⟨rfl, hb7⟩
  have H7 := Lib.hid (H6.out.later hb7)
  have HO7 := Lib.hid (HO6.out.later hb7)
  have HA7 := Lib.hid (HA6.out.later hb7)
  clear hb7 H6 HO6 HA6
  have hz1 := size_mk dr
  have hz2 := size_mk dc
  go_wp2_with fail
  refine (HN7.out w7 hc9).mono ?_
  rintro e w8 ⟨rfl, hb8⟩
  have H8 := Lib.hid (H7.out.later hb8)
  have HO8 := Lib.hid (HO7.out.later hb8)
  have HA8 := Lib.hid (HA7.out.later hb8)
  clear hb8 H7 HO7 HA7
  go_wp2_with fail
  rw [show ((⟨#[27, 91]⟩ : ByteArray) ++ ⟨dr.toArray⟩ ++ ⟨#[59]⟩ ++ ⟨dc.toArray⟩ ++ ⟨#[72, 35]⟩) = ⟨([27, 91] ++ dr ++ [59] ++ dc ++ [72, 35]).toArray⟩ from mk_five [27, 91] dr [59] dc [72, 35]]
  refine (H8.out.feed _ (by rw [HP1.out]; simp; omega)).mono ?_
  rintro e w9 ⟨rfl, S9, hf9⟩
  have HO9 := Lib.hid (HO8.out.kept hf9.keep (fun i hi e => by have h1 := HLT.out i e; have h2 := (HO8.out.lt i hi).1; have := HG3.out; omega))
  have HA9 : Hid (BoxAt w9 xa G1 (some ⟨g3, 0, none⟩) G1.cells.length) := Lib.hid ((hf9.keep.block xa (lt_of_heap HA8.out) (fun e => by have h1 := HLT.out xa e; have := HXA.out; have := HZ3.out; omega)).trans HA8.out)
  have H9 := Lib.hid (H8.out.fed hf9)
  generalize T1.feed ([27, 91] ++ dr ++ [59] ++ dc ++ [72, 35]) = T2 at *
  have hput := fun (W : World) (h : SlOf IsBytes W (some ⟨g3, 0, none⟩) G1.cells.length T1.grd.cells) => put_any T1 HGD.out rr cc HRL.out HCL.out l HL.out (some ⟨g3, 0, none⟩) G1.cells.length W h
  rw [HG1.out] at hput
  unfold gridV at hput
  have HPT := Lib.hid hput
  obtain ⟨d0, d1, d2, d3, d4⟩ := HA9.out.cells
  clear hput hf9 H8 HO8 HA8 hd1 hd2 hz1 hz2 HN6 HN7
  go_wp2_with fail
  refine (HPT.out w9 HO9.out.sl).mono ?_
  rintro e w10 ⟨g10, bs10, rfl, hg10, ho10, hb10⟩
  have hpc : (putG G1 rr cc l).cells.length = G1.cells.length := by unfold putG; simp
  have hbx := fun o => (Below.refl w10.heap.size w10).alloc (Nat.le_refl _) o
  have H11 := Lib.hid (fun o => (H9.out.later hb10).later (hbx o))
  have HA11 := Lib.hid (fun o => (HA9.out.later hb10).later (hbx o))
  have HW11 := Lib.hid (fun o => ho10.later (hbx o))
  have hlx : xa < w10.heap.size := Nat.lt_of_lt_of_le (lt_of_heap HA9.out) hb10.size
  obtain ⟨xp, hxp⟩ : ∃ xp, w10.heap.size = xp := ⟨_, rfl⟩
  have HXP := Lib.hid hxp
  have hne1 : ¬ xa = xp := by omega
  have hne2 : ¬ xp = xa := by omega
  have da := fun o => (HA11.out o).cells
  have d0 := fun o => (da o).1
  have d1 := fun o => (da o).2.1
  clear ho10 hb10 hg10 hbx da H9 HA9 HO9 hlx
  unfold gridV
  rw [hpc] at HW11 ⊢
  rw [show (putG G1 rr cc l).rows = G1.rows from rfl, show (putG G1 rr cc l).cols = G1.cols from rfl, show (putG G1 rr cc l).row = G1.row from rfl, show (putG G1 rr cc l).col = G1.col from rfl]
  go_wp2_with fail
  go_region
  have hmn : min ((cc : Int) + 1) (G1.cols - 1) = ((min (cc + 1) (T1.cols - 1) : Nat) : Int) := by have h1 := HGR.out.2.1; have h2 := HGD.out.cols; omega
  rw [hmn]
  have hpl := HPL.out
  have hq : EndP wa (w10.alloc (.cells #[.int .i64 G1.rows, .int .i64 G1.cols, .slice (some ⟨g10, 0, none⟩) G1.cells.length G1.cells.length, .int .i64 (rr : Int), .int .i64 ((min (cc + 1) (T1.cols - 1) : Nat) : Int)] 34)).drew Bv v T2 S9 xp g10 G1.cells.length { putG G1 rr cc l with row := (rr : Int), col := ((min (cc + 1) (T1.cols - 1) : Nat) : Int) } := by
    have hb := fun o => (Below.refl (w10.alloc o).heap.size (w10.alloc o)).drew
    refine ⟨(H11.out _).later (hb _), ?_, ?_, hpl⟩
    · have h := box_new (w := w10) (g := { putG G1 rr cc l with row := (rr : Int), col := ((min (cc + 1) (T1.cols - 1) : Nat) : Int) }) (ao := some ⟨g10, 0, none⟩) (cap := G1.cells.length)
      rw [hxp] at h
      dsimp only at h
      rw [hpc] at h
      unfold BoxAt at h ⊢
      dsimp only at h ⊢
      rw [hpc] at h ⊢
      exact h
    · exact ((HW11.out _).sl).later lasts_bytes (hb _)
  generalize (w10.alloc (.cells #[.int .i64 G1.rows, .int .i64 G1.cols, .slice (some ⟨g10, 0, none⟩) G1.cells.length G1.cells.length, .int .i64 (rr : Int), .int .i64 ((min (cc + 1) (T1.cols - 1) : Nat) : Int)] 34)).drew = w12 at *
  have hpc2 : ({ putG G1 rr cc l with row := (rr : Int), col := ((min (cc + 1) (T1.cols - 1) : Nat) : Int) } : Grd).cells.length = G1.cells.length := hpc
  generalize ({ putG G1 rr cc l with row := (rr : Int), col := ((min (cc + 1) (T1.cols - 1) : Nat) : Int) } : Grd) = G2 at *
  obtain ⟨c0, c1, c2, c3, c4⟩ := hq.box.cells
  have HQ0 := Lib.hid hq
  have HPC := Lib.hid hpc2
  clear hq hpl HPL hmn hpc hpc2 H11 HA11 HW11 d0 d1 hxp HXP hne1 hne2 HPT
  go_wp2_with fail
  have HQ := Lib.hid (HQ0.out.later ((Below.refl _ _).drew))
  have tok1 : True := trivial
  go_region_held3 (fun w' => w'.cell? ⟨xp, 0, none⟩ = some (.int .i64 G2.rows) ∧ w'.cell? ⟨xp, 1, none⟩ = some (.int .i64 G2.cols) ∧ w'.cell? ⟨xp, 2, none⟩ = some (.slice (some ⟨g10, 0, none⟩) G2.cells.length G1.cells.length) ∧ w'.cell? ⟨xp, 3, none⟩ = some (.int .i64 G2.row) ∧ w'.cell? ⟨xp, 4, none⟩ = some (.int .i64 G2.col))
    (first | exact ⟨c0, c1, c2, c3, c4⟩ | exact ⟨a0, a1, a2, a3, a4⟩ | exact ⟨b0, b1, b2, b3, b4⟩ | exact ⟨d0, d1, d2, d3, d4⟩ | go_keep)
    (first | (have _t := tok1; go_at_call 16; refine HQ.out.grid.mono ?_; rintro e wq ⟨ga, rfl, hsa, hqa, hla⟩; obtain ⟨a0, a1, a2, a3, a4⟩ := hqa.box.cells; have HSA := Lib.hid hsa; have HQA := Lib.hid hqa; clear hsa hqa hla _t tok1) | (go_at_call 20; refine (same_self_g G2 _ _ _ _ _ HSA.out HQA.out.sl HQA.out.len).mono ?_; rintro e wb ⟨rfl, hbb⟩; obtain ⟨b0, b1, b2, b3, b4⟩ := (HQA.out.later hbb).box.cells; have HQB := Lib.hid (HQA.out.later hbb); clear hbb) | (go_at_call 13; refine (does_any _ HQB.out.one.m).mono ?_; rintro e wc ⟨rfl, hbc⟩; obtain ⟨d0, d1, d2, d3, d4⟩ := (HQB.out.later hbc).box.cells; have HQC := Lib.hid (HQB.out.later hbc); clear hbc) | (fail "no arm"))
  go_wp2_with fail
  go_returns
  exact ⟨rfl, HBW.out.trans (HQC.out.one.below.mono HBW.out.size)⟩
end Go.Proofs.YtgfcnafhfgncoaaDoor
