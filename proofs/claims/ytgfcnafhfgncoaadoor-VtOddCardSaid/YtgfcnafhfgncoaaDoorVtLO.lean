/- The walk of the law VtOdd. -/
import Derived.Test.YtgfcnafhfgncoaaDoorVtLS
import Derived.Test.YtgfcnafhfgncoaaDoorVt8
import Derived.Deep.RegionHeld3
import Derived.StillTailTactics
namespace Go.Proofs.YtgfcnafhfgncoaaDoor
open Go Go.Proofs Go.RowKit Go.Ink

theorem same_grid {t u : Tm} (h : t.Same u) : u.grd = t.grd := by
  obtain ⟨h1, h2, h3, h4, h5⟩ := h
  unfold Tm.grd
  rw [h1, h2, h3, h4, h5]
/-- The law's fifteen texts, as the walk spells them. -/
def oddVs (u : List UInt8) : List Value := [.string ((⟨#[27, 91]⟩ : ByteArray) ++ ⟨(63 :: u).toArray⟩ ++ ⟨#[72]⟩), .string ((⟨#[27, 91]⟩ : ByteArray) ++ ⟨(63 :: u).toArray⟩ ++ ⟨#[74]⟩), .string ⟨#[27, 77]⟩, .string ⟨#[27, 40]⟩,
  .string ((⟨#[27, 91]⟩ : ByteArray) ++ (⟨(63 :: u).toArray⟩ : ByteArray).extract 1 (u.length + 1) ++ ⟨#[109]⟩), .string ⟨#[7]⟩, .string ⟨#[0]⟩, .string ⟨#[127]⟩, .string ⟨#[128]⟩, .string ⟨#[255]⟩,
  .string ((⟨#[27, 91]⟩ : ByteArray) ++ (⟨(63 :: u).toArray⟩ : ByteArray).extract 1 (u.length + 1) ++ ⟨#[5]⟩),
  .string ((⟨#[27, 27, 91]⟩ : ByteArray) ++ (⟨(63 :: u).toArray⟩ : ByteArray).extract 1 (u.length + 1) ++ ⟨#[113]⟩), .string ⟨#[27, 91, 49, 59, 50, 59, 51, 72]⟩, .string ⟨#[27, 91, 49, 59, 49, 65]⟩,
  .string ((⟨#[27, 91]⟩ : ByteArray) ++ (⟨(63 :: u).toArray⟩ : ByteArray).extract 1 (u.length + 1) ++ ⟨#[27, 91]⟩ ++ (⟨(63 :: u).toArray⟩ : ByteArray).extract 1 (u.length + 1) ++ ⟨#[114]⟩)]
theorem cut_mark (u : List UInt8) : (⟨(63 :: u).toArray⟩ : ByteArray).extract 1 (u.length + 1) = ⟨u.toArray⟩ := by
  apply ByteArray.ext
  simp
theorem oddVs_at (u : List UInt8) (k : Nat) (hk : k < 15) (h : k < (oddVs u).length) : (oddVs u)[k]'h = .string ⟨(oddP u k).toArray⟩ := by
  have e3 : ∀ a b c : List UInt8, ((⟨a.toArray⟩ : ByteArray) ++ ⟨b.toArray⟩ ++ ⟨c.toArray⟩) = ⟨(a ++ (b ++ c)).toArray⟩ := fun a b c => by rw [mk_append, mk_append, List.append_assoc]
  have e5 : ∀ a b c d e : List UInt8, ((⟨a.toArray⟩ : ByteArray) ++ ⟨b.toArray⟩ ++ ⟨c.toArray⟩ ++ ⟨d.toArray⟩ ++ ⟨e.toArray⟩) = ⟨((a ++ b) ++ (c ++ (d ++ e))).toArray⟩ := fun a b c d e => by rw [mk_append, mk_append, mk_append, mk_append, List.append_assoc, List.append_assoc]
  have hc := cut_mark u
  match k, hk with
  | 0, _ => exact congrArg Value.string (e3 [27, 91] (63 :: u) [72])
  | 1, _ => exact congrArg Value.string (e3 [27, 91] (63 :: u) [74])
  | 2, _ => rfl
  | 3, _ => rfl
  | 4, _ => exact congrArg Value.string (by rw [hc]; exact e3 [27, 91] u [109])
  | 5, _ => rfl
  | 6, _ => rfl
  | 7, _ => rfl
  | 8, _ => rfl
  | 9, _ => rfl
  | 10, _ => exact congrArg Value.string (by rw [hc]; exact e3 [27, 91] u [5])
  | 11, _ => exact congrArg Value.string (by rw [hc]; exact e3 [27, 27, 91] u [113])
  | 12, _ => rfl
  | 13, _ => rfl
  | 14, _ => exact congrArg Value.string (by rw [hc]; exact e5 [27, 91] u [27, 91] u [114])
theorem oddP_len (u : List UInt8) (k : Nat) (hk : k < 15) (hu : u.length ≤ 20) : (oddP u k).length ≤ 100 := by
  match k, hk with
  | 0, _ | 1, _ | 2, _ | 3, _ | 4, _ | 5, _ | 6, _ | 7, _ | 8, _ | 9, _ | 10, _ | 11, _ | 12, _ | 13, _ | 14, _ => simp [oddP] <;> omega
set_option maxRecDepth 100000 in
set_option maxHeartbeats 2000000 in
theorem vtOdd_any (m n q : UInt8) (s par : List UInt8) (ao : Option Addr) (cap : Nat) (w : World) (hm : MaxAt w) (hs : s.length ≤ maxLen) (hpar : SlOf IsByte w ao cap par) :
    Calls Tryd.prog 8 #[.agg #[.int .u8 (m.toNat : Int), .int .u8 (n.toNat : Int), .int .u8 (q.toNat : Int)], .string ⟨s.toArray⟩, .slice ao par.length cap] w fun e w' => e = .returned (.bool true) ∧ Below w.heap.size w w' := by
  unfold maxLen at hs
  have HSZ := size_mk s
  obtain ⟨k, hk⟩ : ∃ k, q.toNat % 15 = k := ⟨_, rfl⟩
  have hk15 : k < 15 := by omega
  have hk15i : (k : Int) < 15 := by omega
  have hqw : wrap64 (q.toNat : Int) = (q.toNat : Int) := by have := q.toNat_lt; unfold wrap64; omega
  have hki : (q.toNat : Int).tmod 15 = (k : Int) := by rw [Int.tmod_eq_emod_of_nonneg (by omega)]; omega
  have HQW := Lib.hid hqw
  have HKI := Lib.hid hki
  clear hk hqw hki
  have hb0 := (Below.refl w.heap.size w).alloc (Nat.le_refl _) (.cells #[.int .u8 (m.toNat : Int), .int .u8 (n.toNat : Int), .int .u8 (q.toNat : Int)] 53)
  have hx0 : (w.alloc (.cells #[.int .u8 (m.toNat : Int), .int .u8 (n.toNat : Int), .int .u8 (q.toNat : Int)] 53)).heap[w.heap.size]? = some (.cells #[.int .u8 (m.toNat : Int), .int .u8 (n.toNat : Int), .int .u8 (q.toNat : Int)] 53 (0, 0)) := heap_alloc_new w _
  have q0 : (w.alloc (.cells #[.int .u8 (m.toNat : Int), .int .u8 (n.toNat : Int), .int .u8 (q.toNat : Int)] 53)).cell? ⟨w.heap.size, 0, none⟩ = some (.int .u8 (m.toNat : Int)) := by rw [Lib.cell_of_heap hx0]; rfl
  have q1 : (w.alloc (.cells #[.int .u8 (m.toNat : Int), .int .u8 (n.toNat : Int), .int .u8 (q.toNat : Int)] 53)).cell? ⟨w.heap.size, 1, none⟩ = some (.int .u8 (n.toNat : Int)) := by rw [Lib.cell_of_heap hx0]; rfl
  have HX0 := Lib.hid hx0
  have HB0 := Lib.hid hb0
  have HM0 := Lib.hid (hm.later hb0)
  have HPR := Lib.hid hpar
  clear hb0 hx0 hm hpar
  go_enter Tryd.func8, Tryd.ntmps8
  go_wp2_with fail
  refine (made_any m n _).mono ?_
  rintro e w1 hp
  obtain ⟨v, S0, rfl, h1, hb1⟩ := OneP.of_new HB0.out HM0.out hp (by omega) (by omega)
  have HP0 : Hid ((Tm.start (2 + m.toNat % 59) (8 + n.toNat % 125)).par.length = 0) := Lib.hid rfl
  have q2 : w1.cell? ⟨w.heap.size, 2, none⟩ = some (.int .u8 (q.toNat : Int)) := by rw [Lib.cell_of_heap ((hb1.block _ (lt_of_heap HX0.out)).trans HX0.out)]; rfl
  have H1 := Lib.hid h1
  clear hp h1 q0 q1 HX0 hb1
  generalize Tm.start (2 + m.toNat % 59) (8 + n.toNat % 125) = T0 at *
  generalize (w.alloc (.cells #[.int .u8 (m.toNat : Int), .int .u8 (n.toNat : Int), .int .u8 (q.toNat : Int)] 53)).heap.size = Bv at *
  by_cases hl : (2000 : Int) < (s.length : Int)
  · go_wp2_with fail
    go_returns
    exact ⟨rfl, H1.out.below⟩
  by_cases hpl : (20 : Int) < (par.length : Int)
  · go_wp2_with fail
    go_returns
    exact ⟨rfl, H1.out.below⟩
  have hml : ¬ 9223372036854775807 < s.length + ([27, 91, 109] : List UInt8).length := by simp; omega
  go_wp2_with fail
  clear q2
  rw [show ((⟨s.toArray⟩ : ByteArray) ++ ⟨#[27, 91, 109]⟩) = ⟨(s ++ [27, 91, 109]).toArray⟩ from mk_append s [27, 91, 109]]
  refine (H1.out.feed _ (by have := HP0.out; simp only [List.length_append, List.length_cons, List.length_nil]; omega)).mono ?_
  rintro e w2 ⟨rfl, S2, hf2⟩
  have h2 := H1.out.fed hf2
  have hT : ∃ T1, T0.feed (s ++ [27, 91, 109]) = T1 ∧ T1.esc = 0 ∧ T1.par = [] := ⟨_, rfl, by rw [ahead_feed]; rfl, by rw [ahead_feed]; rfl⟩
  obtain ⟨T1, hT1, he1, hp1⟩ := hT
  rw [hT1] at h2
  have H2 := Lib.hid h2
  have HE1 := Lib.hid he1
  have HP1 := Lib.hid hp1
  clear hf2 h2 hT1 he1 hp1 H1 HP0 hml
  go_wp2_with fail
  refine (gridP H2.out.a H2.out.g).mono ?_
  rintro e w3 ⟨g3, bs3, rfl, hg3, ho3, hb3⟩
  have hbx := fun o => (Below.refl w3.heap.size w3).alloc (Nat.le_refl _) o
  have H4 := Lib.hid (fun o => (H2.out.later hb3).later (hbx o))
  have HO4 := Lib.hid (fun o => ho3.later (hbx o))
  have HLT := Lib.hid (fun i (hi : S2 i) => (H2.out.a.lt i hi).2)
  have HG3 := Lib.hid hg3
  have HZ3 := Lib.hid hb3.size
  have hba : BoxAt (w3.alloc (.cells #[.int .i64 T1.grd.rows, .int .i64 T1.grd.cols, .slice (some ⟨g3, 0, none⟩) T1.grd.cells.length T1.grd.cells.length, .int .i64 T1.grd.row, .int .i64 T1.grd.col] 34)) w3.heap.size T1.grd (some ⟨g3, 0, none⟩) T1.grd.cells.length := box_new
  have HA4 := Lib.hid hba
  clear hb3 ho3 hbx hba hg3
  have HGD := Lib.hid H2.out.g
  generalize hg1 : T1.grd = G1 at *
  have HG1 := Lib.hid hg1
  clear hg1 H2
  unfold gridV
  obtain ⟨xa, hxa⟩ : ∃ xa, w3.heap.size = xa := ⟨_, rfl⟩
  rw [hxa] at HA4
  have HXA := Lib.hid hxa
  go_wp2_with fail
  have H5 := Lib.hid (H4.out (.cells #[.int .i64 G1.rows, .int .i64 G1.cols, .slice (some ⟨g3, 0, none⟩) G1.cells.length G1.cells.length, .int .i64 G1.row, .int .i64 G1.col] 34))
  have HO5 := Lib.hid (HO4.out (.cells #[.int .i64 G1.rows, .int .i64 G1.cols, .slice (some ⟨g3, 0, none⟩) G1.cells.length G1.cells.length, .int .i64 G1.row, .int .i64 G1.col] 34))
  generalize (w3.alloc (.cells #[.int .i64 G1.rows, .int .i64 G1.cols, .slice (some ⟨g3, 0, none⟩) G1.cells.length G1.cells.length, .int .i64 G1.row, .int .i64 G1.col] 34)) = w4 at *
  clear H4 HO4 hxa
  go_loopw [10, 11] (fun pv iv wr => ∃ i : Nat, iv = .int .i64 i ∧ i ≤ par.length ∧ (∃ u : List UInt8, pv = .string ⟨(63 :: u).toArray⟩ ∧ u.length = i ∧ Hid (u = (par.take i).map oddD)) ∧ Hid (Below w4.heap.size w4 wr)) (fun _ iv _ => par.length - (intOf iv).toNat)
  case atStart => exact ⟨0, rfl, by omega, ⟨[], rfl, rfl, Lib.hid (by simp)⟩, Lib.hid (Below.refl _ _)⟩
  case round =>
    obtain ⟨i, rfl, hi, ⟨u, rfl, hul, hu⟩, hbr⟩ := hrel
    by_cases hlt : i < par.length
    · have hlti : (i : Int) < (par.length : Int) := by omega
      obtain ⟨c, hc⟩ : ∃ c, par[i]? = some c := ⟨_, List.getElem?_eq_getElem hlt⟩
      have hsl := HPR.out.later lasts_byte ((H5.out.later hbr.out).below)
      obtain ⟨b, off, x, rfl, hcell, hx⟩ := hsl.2.2.2 i c hc
      obtain rfl : x = .int .u8 (c.toNat : Int) := hx
      obtain ⟨ci, hci⟩ : ∃ ci, c.toNat % 11 = ci := ⟨_, rfl⟩
      have hci11 : ci < 11 := by omega
      have hci11i : (ci : Int) < 11 := by omega
      have hod := oddD_at c
      rw [hci] at hod
      have hcw : wrap64 (c.toNat : Int) = (c.toNat : Int) := by have := c.toNat_lt; unfold wrap64; omega
      have hcm : (c.toNat : Int).tmod 11 = (ci : Int) := by rw [Int.tmod_eq_emod_of_nonneg (by omega)]; omega
      have hix : ∀ h, (⟨#[48, 49, 50, 51, 52, 53, 54, 55, 56, 57, 59]⟩ : ByteArray)[ci]'h = oddD c := fun h => by
        obtain ⟨_, h2⟩ := List.getElem?_eq_some_iff.1 hod
        rw [← h2]
        rfl
      have hnew : SlOf IsByte (wr.alloc (.cells #[.int .u8 ((oddD c).toNat : Int)] 5)) (some ⟨wr.heap.size, 0, none⟩) 1 [oddD c] := by
        refine ⟨by simp, by simp [maxLen], (fun e => by cases e), fun j d hj => ?_⟩
        match j, hj with
        | 0, hj =>
          injection hj with hj
          subst hj
          exact ⟨wr.heap.size, 0, _, rfl, by rw [Lib.cell_of_heap (heap_alloc_new wr _)]; rfl, rfl⟩
      have hcv := hnew.convert Tryd.underlying39 Tryd.underlying5 Tryd.underlying9 (Below.refl _ _)
      simp only [List.length_singleton] at hcv
      have hul2 := size_mk (63 :: u)
      have hcl : ¬ 9223372036854775807 < (63 :: u).length + ([oddD c] : List UInt8).length := by simp; omega
      have HOD := Lib.hid hod
      have HC := Lib.hid hc
      have HUL := Lib.hid hul
      clear hsl hci hod hc hul hnew
      go_wp2_with fail
      go_roundw
      case rel => exact ⟨i + 1, by go_num, by omega, ⟨u ++ [oddD c], congrArg Value.string (mk_append (63 :: u) [oddD c]), by simp [HUL.out], Lib.hid (by rw [odd_snoc par i HC.out, ← hu.out])⟩, Lib.hid (hbr.out.alloc hbr.out.size _)⟩
      case measure => simp [intOf]; omega
    · obtain rfl : i = par.length := by omega
      have hu20 : u.length ≤ 20 := by omega
      go_wp2_with fail
      have HUL := Lib.hid hul
      clear hul
      have hqw := HQW.out
      have hki := HKI.out
      have z1 : ¬ 9223372036854775807 < 2 + (u.length + 1) := by omega
      have z2 : ¬ 9223372036854775807 < 2 + (u.length + 1) + 1 := by omega
      have z3 : ¬ 9223372036854775807 < 2 + u.length := by omega
      have z4 : ¬ 9223372036854775807 < 2 + u.length + 1 := by omega
      have z5 : ¬ 9223372036854775807 < 3 + u.length := by omega
      have z6 : ¬ 9223372036854775807 < 3 + u.length + 1 := by omega
      have z7 : ¬ 9223372036854775807 < 2 + u.length + 2 := by omega
      have z8 : ¬ 9223372036854775807 < 2 + u.length + 2 + u.length := by omega
      have z9 : ¬ 9223372036854775807 < 2 + u.length + 2 + u.length + 1 := by omega
      have z0 : (1 : Int) ≤ (u.length : Int) + 1 := by omega
      go_still_tail 26, (by kernel_rfl)
      go_wp2_with fail
      clear z1 z2 z3 z4 z5 z6 z7 z8 z9 z0 hqw hki
      have hkl : k < (oddVs u).length := hk15
      change Calls _ _ #[_, (oddVs u)[k]'hkl] _ _
      rw [oddVs_at u k hk15 hkl]
      have HB5 := Lib.hid (fun o => (hbr.out.alloc hbr.out.size o).drew)
      refine ((H5.out.later (HB5.out _)).feed _ (by rw [HP1.out]; have := oddP_len u k hk15 hu20; simp; omega)).mono ?_
      rintro e w6 ⟨rfl, S6, hf6⟩
      have hxl : xa < w4.heap.size := lt_of_heap HA4.out
      have hq : EndP w w6 Bv v (T1.feed (oddP u k)) S6 xa g3 G1.cells.length G1 := by
        refine ⟨(H5.out.later (HB5.out _)).fed hf6, ?_, ?_, ?_⟩
        · exact (hf6.keep.block xa (Nat.lt_of_lt_of_le hxl (HB5.out _).size) (fun e => by have h1 := HLT.out xa e; have := HXA.out; have := HZ3.out; omega)).trans (HA4.out.later (HB5.out _))
        · exact ((HO5.out.later (HB5.out _)).kept hf6.keep (fun i hi e => by have h1 := HLT.out i e; have h2 := (HO5.out.lt i hi).1; have := HG3.out; omega)).sl
        · have hpq : u.all parB = true := by rw [hu.out]; exact odd_par _
          rw [same_grid (odd_law T1 HE1.out u hpq k hk15), HG1.out]
      generalize T1.feed (oddP u k) = T2 at *
      obtain ⟨c0, c1, c2, c3, c4⟩ := hq.box.cells
      have HQ0 := Lib.hid hq
      clear hq hf6 hxl HB5 H5 HA4 HO5 hbr
      go_wp2_with fail
      have HQ := Lib.hid (HQ0.out.later ((Below.refl _ _).drew))
      have tok1 : True := trivial
      go_region_held3 (fun w' => w'.cell? ⟨xa, 0, none⟩ = some (.int .i64 G1.rows) ∧ w'.cell? ⟨xa, 1, none⟩ = some (.int .i64 G1.cols) ∧ w'.cell? ⟨xa, 2, none⟩ = some (.slice (some ⟨g3, 0, none⟩) G1.cells.length G1.cells.length) ∧ w'.cell? ⟨xa, 3, none⟩ = some (.int .i64 G1.row) ∧ w'.cell? ⟨xa, 4, none⟩ = some (.int .i64 G1.col))
        (first | exact ⟨c0, c1, c2, c3, c4⟩ | exact ⟨a0, a1, a2, a3, a4⟩ | exact ⟨b0, b1, b2, b3, b4⟩ | exact ⟨d0, d1, d2, d3, d4⟩ | exact ⟨k0, k1, k2, k3, k4⟩ | go_keep)
        (first | (have _t := tok1; go_at_call 16; refine HQ.out.grid.mono ?_; rintro e wa ⟨ga, rfl, hsa, hqa, hla⟩; obtain ⟨a0, a1, a2, a3, a4⟩ := hqa.box.cells; have HSA := Lib.hid hsa; have HQA := Lib.hid hqa; clear hsa hqa hla _t tok1) | (go_at_call 20; refine (same_self_g G1 _ _ _ _ _ HSA.out HQA.out.sl HQA.out.len).mono ?_; rintro e wb ⟨rfl, hbb⟩; obtain ⟨b0, b1, b2, b3, b4⟩ := (HQA.out.later hbb).box.cells; have HQB := Lib.hid (HQA.out.later hbb); clear hbb) | (go_at_call 19; refine HQB.out.check.mono ?_; rintro e wk ⟨rfl, hbk⟩; obtain ⟨k0, k1, k2, k3, k4⟩ := (HQB.out.later hbk).box.cells; have HQK := Lib.hid (HQB.out.later hbk); clear hbk) | (go_at_call 13; refine (does_any _ HQK.out.one.m).mono ?_; rintro e wc ⟨rfl, hbc⟩; obtain ⟨d0, d1, d2, d3, d4⟩ := (HQK.out.later hbc).box.cells; have HQC := Lib.hid (HQK.out.later hbc); clear hbc) | (fail "no arm"))
      go_wp2_with fail
      go_returns
      exact ⟨rfl, HQC.out.one.below⟩
end Go.Proofs.YtgfcnafhfgncoaaDoor
