/- The walk of the law SplicesApply. -/
import Derived.Test.YtgcncmhaihgldaaDoorSpl13
import Derived.Lib.QuietBelow
namespace Go.Proofs.YtgcncmhaihgldaaDoor
open Go Go.Proofs Go.RowKit Go.Ink Go.Sort

/-- A block of three cells, laid and filled. -/
theorem put3 (w : World) (c0 c1 c2 v0 v1 v2 : Value) (T : TypeId) :
    ((((w.alloc (.cells #[c0, c1, c2] T (0, 0))).setCell ⟨w.heap.size, 0, none⟩ v0).setCell ⟨w.heap.size, 1, none⟩ v1).setCell ⟨w.heap.size, 2, none⟩ v2).heap[w.heap.size]? = some (.cells #[v0, v1, v2] T (0, 0)) ∧
    Below w.heap.size w ((((w.alloc (.cells #[c0, c1, c2] T (0, 0))).setCell ⟨w.heap.size, 0, none⟩ v0).setCell ⟨w.heap.size, 1, none⟩ v1).setCell ⟨w.heap.size, 2, none⟩ v2) := by
  have h := heap_alloc_at w (.cells #[c0, c1, c2] T (0, 0))
  exact ⟨heap_set (heap_set (heap_set h v0) v1) v2, (((below_alloc w _).setCell (by simp) _).setCell (by simp) _).setCell (by simp) _⟩
theorem own_headV {w : World} {B n c : Nat} {a : Option Addr} {l : List Line} (hn : l.length = n) (h : OwnStrs w B (.slice a n c) l) : 0 < n → ∃ g, a = some ⟨g, 0, none⟩ ∧ B ≤ g ∧ g < w.heap.size := by
  subst hn
  obtain ⟨ao, cap, e, h⟩ := own_headS h
  simp only [Value.slice.injEq] at e
  obtain ⟨rfl, _, rfl⟩ := e
  exact h
theorem own_slOfV {w : World} {B n c : Nat} {a : Option Addr} {l : List Line} (hn : l.length = n) (h : OwnStrs w B (.slice a n c) l) : SlOf IsStr w a c l := by
  subst hn
  obtain ⟨ao, cap, e, h⟩ := OwnStrs.slOf h
  simp only [Value.slice.injEq] at e
  obtain ⟨rfl, _, rfl⟩ := e
  exact h
theorem same_self (a : List Line) (ao1 ao2 : Option Addr) (cap1 cap2 : Nat) (w : World) (ha : SlOf IsStr w ao1 cap1 a) (hb : SlOf IsStr w ao2 cap2 a) :
    Calls Tryd.prog 16 #[.slice ao1 a.length cap1, .slice ao2 a.length cap2] w fun e w' => e = .returned (.bool true) ∧ Below w.heap.size w w' := by
  refine (same_any a a ao1 ao2 cap1 cap2 w ha hb).mono ?_
  rintro e w' ⟨rfl, n, rfl⟩
  rw [sameS_self]
  exact ⟨rfl, below_drewN (Below.refl _ _) n⟩
theorem splSame_self (a : Spl) (a1 a2 : Option Addr) (c1 c2 : Nat) (w : World) (ha : SlOf IsStr w a1 c1 a.ins) (hb : SlOf IsStr w a2 c2 a.ins) :
    Calls Tryd.prog 17 #[.agg #[.int .i64 a.pos, .int .i64 a.del, .slice a1 a.ins.length c1], .agg #[.int .i64 a.pos, .int .i64 a.del, .slice a2 a.ins.length c2]] w fun e w' => e = .returned (.bool true) ∧ Below w.heap.size w w' := by
  have := splSame_any a a a1 a2 c1 c2 w ha hb
  rw [(splSame_iff a a).2 rfl] at this
  exact this
theorem muchS_one (s : Spl) (h : muchS [s] 1 = false) : greatS s.ins 2100 20000 = false := by
  exact muchL_false h s (by simp)

set_option maxRecDepth 100000 in
set_option maxHeartbeats 400000 in
theorem splicesApply_any (l : List Line) (ao : Option Addr) (cap : Nat) (s : Spl) (ai : Option Addr) (ci : Nat) (w : World) (hl : SlOf IsStr w ao cap l) (hi : SlOf IsStr w ai ci s.ins) (ht : Tab10 w) :
    Calls Tryd.prog 3 #[.slice ao l.length cap, splV s ai ci] w fun e w' => e = .returned (.bool true) ∧ Below w.heap.size w w' := by
  have HT := Lib.hid ht
  have HB0 := Lib.hid (below_alloc w (.cells #[.int .i64 s.pos, .int .i64 s.del, .slice ai s.ins.length ci] 24 (0, 0)))
  have HX0 := Lib.hid (heap_alloc_at w (.cells #[.int .i64 s.pos, .int .i64 s.del, .slice ai s.ins.length ci] 24 (0, 0)))
  have HL0 := Lib.hid (hl.later lasts_str HB0.out)
  have HI0 := Lib.hid (hi.later lasts_str HB0.out)
  have hone := one_spl s ai ci HI0.out 24
  rw [show (w.alloc (.cells #[.int .i64 s.pos, .int .i64 s.del, .slice ai s.ins.length ci] 24 (0, 0))).heap.size = w.heap.size + 1 by simp] at hone
  have HMU := Lib.hid (much_any [s] _ _ 1 _ hone)
  simp only [List.length_cons, List.length_nil, Nat.zero_add] at HMU
  clear hl hi ht hone
  simp only [splV]
  cases hg : greatS l 2100 20000 with
  | true =>
    go_enter Tryd.func3, Tryd.ntmps3
    go_wp2_with fail
    refine (great_any l _ _ 2100 20000 _ HL0.out (by omega) (by omega)).mono ?_
    rintro e w1 ⟨rfl, rfl⟩
    rw [hg]
    go_wp2_with fail
    go_returns
    exact ⟨rfl, HB0.out⟩
  | false =>
    cases hm : muchS [s] 1 with
    | true =>
      go_enter Tryd.func3, Tryd.ntmps3
      go_wp2_with fail
      refine (great_any l _ _ 2100 20000 _ HL0.out (by omega) (by omega)).mono ?_
      rintro e w1 ⟨rfl, rfl⟩
      rw [hg]
      go_wp2_with fail
      refine HMU.out.mono ?_
      rintro e w1 ⟨rfl, rfl⟩
      rw [hm]
      go_wp2_with fail
      go_returns
      exact ⟨rfl, HB0.out.trans ((below_alloc _ _).mono HB0.out.size)⟩
    | false =>
      have HSM := Lib.hid (small_of hg)
      have HSP := Lib.hid (small_of (muchS_one s hm))
      go_enter Tryd.func3, Tryd.ntmps3
      go_wp2_with fail
      refine (great_any l _ _ 2100 20000 _ HL0.out (by omega) (by omega)).mono ?_
      rintro e w1 ⟨rfl, rfl⟩
      rw [hg]
      go_wp2_with fail
      have HA1 := Lib.hid (below_alloc (w.alloc (.cells #[.int .i64 s.pos, .int .i64 s.del, .slice ai s.ins.length ci] 24 (0, 0))) (.cells #[.int .i64 s.pos, .int .i64 s.del, .slice ai s.ins.length ci] 24 (0, 0)))
      refine HMU.out.mono ?_
      rintro e w1 ⟨rfl, rfl⟩
      rw [hm]
      have HB1 := Lib.hid (HB0.out.trans (HA1.out.mono HB0.out.size))
      have HL1 := Lib.hid (HL0.out.later lasts_str HA1.out)
      have HI1 := Lib.hid (HI0.out.later lasts_str HA1.out)
      have HX1 := Lib.hid ((HA1.out.block _ (lt_of_heap HX0.out)).trans HX0.out)
      clear HB0 HX0 HL0 HI0 HA1 HMU
      generalize ((w.alloc (.cells #[.int .i64 s.pos, .int .i64 s.del, .slice ai s.ins.length ci] 24 (0, 0))).alloc (.cells #[.int .i64 s.pos, .int .i64 s.del, .slice ai s.ins.length ci] 24 (0, 0))) = w1 at *
      obtain ⟨c0, c1, c2⟩ := box_spl HX1.out
      have HT1 := Lib.hid (fun w2 (h : Below w1.heap.size w1 w2) => twin_any l ao cap w2 (HL1.out.later lasts_str h) (by have := HSM.out.1; omega))
      have HT2 := Lib.hid (fun w2 (h : Below w1.heap.size w1 w2) => twin_any s.ins ai ci w2 (HI1.out.later lasts_str h) (by have := HSP.out.1; omega))
      go_wp2_with fail
      go_region_held3 (fun w' => w'.cell? ⟨w.heap.size, 0, none⟩ = some (.int .i64 s.pos) ∧ w'.cell? ⟨w.heap.size, 1, none⟩ = some (.int .i64 s.del) ∧ w'.cell? ⟨w.heap.size, 2, none⟩ = some (.slice ai s.ins.length ci))
        (first | exact ⟨c0, c1, c2⟩ | exact ⟨c0', c1', c2'⟩ | exact ⟨c0'', c1'', c2''⟩ | go_keep)
        (first
          | ((with_reducible refine (HT1.out _ ((Below.refl _ _).drew)).mono ?_); rintro e w2 ⟨g1, k1, rfl, hlc1, htw1, hb2⟩; have c0' := (hb2.cell (p := ⟨w.heap.size, 0, none⟩) (lt_of_cell c0)).trans c0; have c1' := (hb2.cell (p := ⟨w.heap.size, 1, none⟩) (lt_of_cell c1)).trans c1; have c2' := (hb2.cell (p := ⟨w.heap.size, 2, none⟩) (lt_of_cell c2)).trans c2; have HLC1 := Lib.hid hlc1; have HTW1 := Lib.hid htw1; have HB2 := Lib.hid (((Below.refl w1.heap.size w1).drew).trans hb2); clear hlc1 htw1 hb2)
          | ((with_reducible refine (HT2.out _ HB2.out).mono ?_); rintro e w3 ⟨g2, k2, rfl, hlc2, htw2, hb3⟩; have c0'' := (hb3.cell (p := ⟨w.heap.size, 0, none⟩) (lt_of_cell c0')).trans c0'; have c1'' := (hb3.cell (p := ⟨w.heap.size, 1, none⟩) (lt_of_cell c1')).trans c1'; have c2'' := (hb3.cell (p := ⟨w.heap.size, 2, none⟩) (lt_of_cell c2')).trans c2'; have HLC2 := Lib.hid hlc2; have HTW2 := Lib.hid htw2; have HB3 := Lib.hid hb3; clear hlc2 htw2 hb3))
      rename_i hheld
      clear hheld
      have HS1 := Lib.hid (Below.trans HB2.out (HB3.out.mono HB2.out.size))
      have HB3' := Lib.hid (HB1.out.trans (HS1.out.mono HB1.out.size))
      have HL3 := Lib.hid (HL1.out.later lasts_str HS1.out)
      have HI3 := Lib.hid (HI1.out.later lasts_str HS1.out)
      have HX3 := Lib.hid ((HS1.out.block _ (lt_of_heap HX1.out)).trans HX1.out)
      have HU3 := Lib.hid (HTW1.out.later HB3.out)
      clear HB1 HL1 HI1 HX1 c0 c1 c2 HT1 HT2 c0' c1' c2' HTW1 HB2 HS1 HB3 c0'' c1'' c2''
      obtain ⟨c0, c1, c2⟩ := box_spl HX3.out
      have HA := Lib.hid (below_alloc w3 (.cells #[.int .i64 s.pos, .int .i64 s.del, .slice (some ⟨g2, 0, none⟩) s.ins.length k2] 24 (0, 0)))
      have HY4 := Lib.hid (heap_alloc_at w3 (.cells #[.int .i64 s.pos, .int .i64 s.del, .slice (some ⟨g2, 0, none⟩) s.ins.length k2] 24 (0, 0)))
      go_wp2_with fail
      have HL4 := Lib.hid (HL3.out.later lasts_str HA.out)
      have HI4 := Lib.hid (HI3.out.later lasts_str HA.out)
      have HU4 := Lib.hid (HU3.out.later HA.out)
      have HV4 := Lib.hid (HTW2.out.later HA.out)
      have HX4 := Lib.hid ((HA.out.block _ (lt_of_heap HX3.out)).trans HX3.out)
      have HB4 := Lib.hid (HB3'.out.trans (HA.out.mono HB3'.out.size))
      have HSZ := Lib.hid (show w.heap.size ≤ w3.heap.size from HB3'.out.size)
      clear HL3 HI3 HU3 HTW2 HX3 HB3' HA c0 c1 c2
      generalize w3.heap.size = b7 at *
      generalize w3.alloc (.cells #[.int .i64 s.pos, .int .i64 s.del, .slice (some ⟨g2, 0, none⟩) s.ins.length k2] 24 (0, 0)) = w4 at *
      obtain ⟨c0, c1, c2⟩ := box_spl HX4.out
      obtain ⟨d0, d1, d2⟩ := box_spl HY4.out
      have HLL := Lib.hid (show l.length ≤ 100000 by have := HSM.out.1; omega)
      have HLS := Lib.hid (show ∀ t ∈ l, t.length ≤ 9223372036854775807 from fun t ht => Nat.le_trans (HSM.out.2 t ht) (by omega))
      have HIL := Lib.hid (show s.ins.length ≤ 100000 by have := HSP.out.1; omega)
      have HIS := Lib.hid (show ∀ t ∈ s.ins, t.length ≤ 9223372036854775807 from fun t ht => Nat.le_trans (HSP.out.2 t ht) (by omega))
      have HF1 := Lib.hid (fun w hl hi => apply_any l (some ⟨g1, 0, none⟩) k1 s (some ⟨g2, 0, none⟩) k2 w hl hi HLL.out)
      have HF2 := Lib.hid (fun w hl hi => refApply_any l ao cap s ai ci w hl hi HLL.out HLS.out HIS.out HIL.out)
      have HF3 := Lib.hid (fun w hl hi => inverse_any l (some ⟨g1, 0, none⟩) k1 s (some ⟨g2, 0, none⟩) k2 w hl hi HLL.out)
      have HF4 := Lib.hid (fun w hl hi => refInverse_any l ao cap s ai ci w hl hi HLL.out HLS.out HIS.out HIL.out)
      simp only [splV] at HF1 HF2 HF3 HF4
      refine (HF1.out _ HU4.out.slOf HV4.out.slOf).mono ?_
      rintro e w5 ⟨v5, rfl, ho5, hb5⟩
      have HO5 := Lib.hid ho5
      have HC5 := Lib.hid hb5
      obtain ⟨a5, k5, hv5⟩ := ownsRow_shape ho5
      subst hv5
      have c0' := (hb5.cell (p := ⟨w.heap.size, 0, none⟩) (lt_of_cell c0)).trans c0
      have c1' := (hb5.cell (p := ⟨w.heap.size, 1, none⟩) (lt_of_cell c1)).trans c1
      have c2' := (hb5.cell (p := ⟨w.heap.size, 2, none⟩) (lt_of_cell c2)).trans c2
      clear ho5 hb5 c0 c1 c2 d0 d1 d2
      go_wp2_with fail
      refine (HF2.out _ (HL4.out.later lasts_str HC5.out) (HI4.out.later lasts_str HC5.out)).mono ?_
      rintro e w6 ⟨v6, rfl, ho6, hb6⟩
      have HO6 := Lib.hid ho6
      have HC6 := Lib.hid (HC5.out.trans (hb6.mono HC5.out.size))
      have HO56 := Lib.hid (ownsRow_below HO5.out hb6)
      have HZ56 := Lib.hid hb6.size
      obtain ⟨a6, k6, hv6⟩ := ownsRow_shape ho6
      subst hv6
      obtain ⟨d0, d1, d2⟩ := box_spl ((HC6.out.block _ (lt_of_heap HY4.out)).trans HY4.out)
      clear ho6 hb6 c0' c1' c2'
      go_wp2_with fail
      refine (HF3.out _ (HU4.out.later HC6.out).slOf (HV4.out.later HC6.out).slOf).mono ?_
      rintro e w7 ⟨v7, rfl, ho7, hb7⟩
      have HC7 := Lib.hid (HC6.out.trans (hb7.mono HC6.out.size))
      have HO57 := Lib.hid (ownsRow_below HO56.out hb7)
      have HO67 := Lib.hid (ownsRow_below HO6.out hb7)
      have HZ67 := Lib.hid hb7.size
      have HO7 := Lib.hid ho7
      obtain ⟨a7, k7, hv7⟩ := ownsRow_shape ho7
      subst hv7
      have HA8 := Lib.hid (below_alloc w7 (.cells #[.int .i64 (invS l s).1.pos, .int .i64 (invS l s).1.del, .slice a7 (invS l s).1.ins.length k7] 24 (0, 0)))
      have HY8 := Lib.hid (heap_alloc_at w7 (.cells #[.int .i64 (invS l s).1.pos, .int .i64 (invS l s).1.del, .slice a7 (invS l s).1.ins.length k7] 24 (0, 0)))
      obtain ⟨c0, c1, c2⟩ := box_spl ((HC7.out.block _ (lt_of_heap HX4.out)).trans HX4.out)
      have hz : w.heap.size < w7.heap.size := lt_of_heap ((HC7.out.block _ (lt_of_heap HX4.out)).trans HX4.out)
      clear ho7 hb7 d0 d1 d2
      go_wp2_with fail
      have HC8 := Lib.hid (HC7.out.trans (HA8.out.mono HC7.out.size))
      have HO58 := Lib.hid (ownsRow_below HO57.out HA8.out)
      have HO68 := Lib.hid (ownsRow_below HO67.out HA8.out)
      have HO78 := Lib.hid (ownsRow_below HO7.out HA8.out)
      have HG7 := Lib.hid (own_headV rfl HO7.out)
      have HG5 := Lib.hid (own_headV rfl HO5.out)
      clear c0 c1 c2 hz HO57 HO67 HO7 HO56 HO6 HA8
      have HZ7 := Lib.hid (show b7 < w7.heap.size from lt_of_heap ((HC7.out.block _ (lt_of_heap HY4.out)).trans HY4.out))
      have HZX := Lib.hid (show w.heap.size < w7.heap.size from lt_of_heap ((HC7.out.block _ (lt_of_heap HX4.out)).trans HX4.out))
      have HZ5 := Lib.hid HC5.out.size
      have HZ6 := Lib.hid HC6.out.size
      clear HC7 HC6 HC5
      have HZ57 := Lib.hid (show w5.heap.size ≤ w7.heap.size from Nat.le_trans HZ56.out HZ67.out)
      generalize w7.heap.size = b12 at *
      generalize w7.alloc (.cells #[.int .i64 (invS l s).1.pos, .int .i64 (invS l s).1.del, .slice a7 (invS l s).1.ins.length k7] 24 (0, 0)) = w8 at *
      refine (HF4.out _ (HL4.out.later lasts_str HC8.out) (HI4.out.later lasts_str HC8.out)).mono ?_
      rintro e w9 ⟨v9, rfl, ho9, hb9⟩
      have HC9 := Lib.hid (HC8.out.trans (hb9.mono HC8.out.size))
      have HO59 := Lib.hid (ownsRow_below HO58.out hb9)
      have HO69 := Lib.hid (ownsRow_below HO68.out hb9)
      have HO79 := Lib.hid (ownsRow_below HO78.out hb9)
      have HY9 := Lib.hid ((hb9.block _ (lt_of_heap HY8.out)).trans HY8.out)
      have HO9 := Lib.hid ho9
      obtain ⟨a9, k9, hv9⟩ := ownsRow_shape ho9
      subst hv9
      have HA10 := Lib.hid (below_alloc w9 (.cells #[.int .i64 (invS l s).1.pos, .int .i64 (invS l s).1.del, .slice a9 (invS l s).1.ins.length k9] 24 (0, 0)))
      have HY10 := Lib.hid (heap_alloc_at w9 (.cells #[.int .i64 (invS l s).1.pos, .int .i64 (invS l s).1.del, .slice a9 (invS l s).1.ins.length k9] 24 (0, 0)))
      clear ho9 hb9 HO58 HO68 HO78 HY8 HC8
      go_wp2_with fail
      have HC10 := Lib.hid (HC9.out.trans (HA10.out.mono HC9.out.size))
      have HO510 := Lib.hid (ownsRow_below HO59.out HA10.out)
      have HO610 := Lib.hid (ownsRow_below HO69.out HA10.out)
      have HO710 := Lib.hid (ownsRow_below HO79.out HA10.out)
      have HO910 := Lib.hid (ownsRow_below HO9.out HA10.out)
      have HY12 := Lib.hid ((HA10.out.block _ (lt_of_heap HY9.out)).trans HY9.out)
      clear HO59 HO69 HO79 HO9 HY9 HA10 HC9
      generalize w9.heap.size = b14 at *
      generalize w9.alloc (.cells #[.int .i64 (invS l s).1.pos, .int .i64 (invS l s).1.del, .slice a9 (invS l s).1.ins.length k9] 24 (0, 0)) = w10 at *
      clear HF1 HF2 HF3 HF4 HO5
      generalize (applyS l s).1 = m at *
      generalize (applyS l s).2 = E1 at *
      generalize (invS l s).2 = E2 at *
      generalize (invS l s).1 = IV at *
      have hmm : m.length ≤ 9223372036854775807 := by have h := own_slOfV rfl HO510.out; exact Nat.le_trans h.1 h.2.1
      have hii : IV.ins.length ≤ 9223372036854775807 := by have h := own_slOfV rfl HO710.out; exact Nat.le_trans h.1 h.2.1
      have HS5 := Lib.hid (fun d os => same_self m a5 a6 k5 k6 (grow (redrawn w10 d) os) ((own_slOfV rfl HO510.out).later lasts_str (below_regrown w10 d os)) ((own_slOfV rfl HO610.out).later lasts_str (below_regrown w10 d os)))
      have HS7 := Lib.hid (fun d os => splSame_self IV a7 a9 k7 k9 (grow (redrawn w10 d) os) ((own_slOfV rfl HO710.out).later lasts_str (below_regrown w10 d os)) ((own_slOfV rfl HO910.out).later lasts_str (below_regrown w10 d os)))
      have HK7 := Lib.hid (fun d os => splCheck_any s (some ⟨g2, 0, none⟩) k2 (grow (redrawn w10 d) os) ((HV4.out.later HC10.out).slOf.later lasts_str (below_regrown w10 d os)))
      have HK3 := Lib.hid (fun d os => refSplCheck_any s ai ci (grow (redrawn w10 d) os) ((HI4.out.later lasts_str HC10.out).later lasts_str (below_regrown w10 d os)) HIS.out)
      simp only [splV] at HK7 HK3
      generalize checkS s = E3 at *
      obtain ⟨p0, p1, p2⟩ := box_spl HY12.out
      obtain ⟨r0, r1, r2⟩ := box_spl HY10.out
      obtain ⟨c0, c1, c2⟩ := box_spl ((HC10.out.block _ (lt_of_heap HX4.out)).trans HX4.out)
      obtain ⟨d0, d1, d2⟩ := box_spl ((HC10.out.block _ (lt_of_heap HY4.out)).trans HY4.out)
      have q0 := fun d os => cell_regrown p0 d os
      have q1 := fun d os => cell_regrown p1 d os
      have q2 := fun d os => cell_regrown p2 d os
      have q3 := fun d os => cell_regrown r0 d os
      have q4 := fun d os => cell_regrown r1 d os
      have q5 := fun d os => cell_regrown r2 d os
      have q6 := fun d os => cell_regrown c0 d os
      have q7 := fun d os => cell_regrown c1 d os
      have q8 := fun d os => cell_regrown c2 d os
      have q9 := fun d os => cell_regrown d0 d os
      have qa := fun d os => cell_regrown d1 d os
      have qb := fun d os => cell_regrown d2 d os
      refine wp_region_quiet_below (by kernel_rfl) (by kernel_rfl) ?_
      repeat (quiet_step (first | (with_reducible exact Calls.regrown_of (HS5.out _ _)) | (with_reducible exact Calls.regrown_of (HS7.out _ _)) | (with_reducible exact Calls.regrown_of (HK7.out _ _)) | (with_reducible exact Calls.regrown_of (HK3.out _ _))))
      refine wpQuiet_nil ?_
      intro _ hw'
      obtain ⟨⟨dq, osq⟩, hw''⟩ := hw'
      subst hw''
      have HR := Lib.hid (below_regrown w10 dq osq)
      have HO5 := Lib.hid (show OwnStrs (grow (redrawn w10 dq) osq) w4.heap.size (.slice a5 m.length k5) m from ownsRow_below HO510.out HR.out)
      have HO7 := Lib.hid (show OwnStrs (grow (redrawn w10 dq) osq) w6.heap.size (.slice a7 IV.ins.length k7) IV.ins from ownsRow_below HO710.out HR.out)
      have HY := Lib.hid ((HR.out.block _ (lt_of_heap HY12.out)).trans HY12.out)
      have HC := Lib.hid (HC10.out.trans (HR.out.mono HC10.out.size))
      clear q0 q1 q2 q3 q4 q5 q6 q7 q8 q9 qa qb p0 p1 p2 r0 r1 r2 c0 c1 c2 d0 d1 d2 HS5 HS7 HK7 HK3 HR HO510 HO610 HO710 HO910 HY12 HY10 HC10
      generalize grow (redrawn w10 dq) osq = w11 at *
      go_wp2_with fail
      go_loopw [16] (fun q wr => ∃ k : Nat, q = .int .i64 k ∧ k ≤ m.length ∧ Hid (∃ L : List Line, L.length = m.length ∧ OwnStrs wr w4.heap.size (.slice a5 m.length k5) L) ∧ Hid (OwnStrs wr w6.heap.size (.slice a7 IV.ins.length k7) IV.ins) ∧ Hid (wr.heap[b12]? = some (.cells #[.int .i64 IV.pos, .int .i64 IV.del, .slice a7 IV.ins.length k7] 24 (0, 0))) ∧ Hid (Below w4.heap.size w4 wr)) (fun q _ => m.length - (intOf q).toNat)
      case atStart => exact ⟨0, rfl, by omega, Lib.hid ⟨m, rfl, HO5.out⟩, HO7, HY, HC⟩
      case round =>
        obtain ⟨k, rfl, hk, HO, HP, HQ, HD⟩ := hrel
        by_cases hlt : k < m.length
        · obtain ⟨g3, rfl, hg1, hg2⟩ := HG5.out (by omega)
          obtain ⟨L, hL, ho⟩ := HO.out
          obtain ⟨⟨u, hu⟩, hfz⟩ := own_cell hL ho hlt
          have HN : Hid (∃ L : List Line, L.length = m.length ∧ OwnStrs (wr.setCell ⟨g3, k, none⟩ (.string ⟨#[63]⟩)) w4.heap.size (.slice (some ⟨g3, 0, none⟩) m.length k5) L) := Lib.hid ⟨L.set k [63], by simpa using hL, own_put hL ho k [63]⟩
          have HPN : Hid (OwnStrs (wr.setCell ⟨g3, k, none⟩ (.string ⟨#[63]⟩)) w6.heap.size (.slice a7 IV.ins.length k7) IV.ins) := Lib.hid (ownsRow_setCell_below HP.out (a := ⟨g3, k, none⟩) (by have := HZ56.out; simp only; omega) _)
          have HQN : Hid ((wr.setCell ⟨g3, k, none⟩ (.string ⟨#[63]⟩)).heap[b12]? = some (.cells #[.int .i64 IV.pos, .int .i64 IV.del, .slice a7 IV.ins.length k7] 24 (0, 0))) := Lib.hid ((Below.heap_setCell _ _ _ _ (by have := HZ57.out; simp only; omega)).trans HQ.out)
          have HDN := Lib.hid (HD.out.setCell (p := ⟨g3, k, none⟩) hg1 (.string ⟨#[63]⟩))
          clear ho
          go_wp2_with fail
          go_roundw
          case rel => exact ⟨k + 1, by go_num, by omega, HN, HPN, HQN, HDN⟩
          case measure => simp [intOf]; omega
        · have hkl : k = m.length := by omega
          subst hkl
          clear HO HO5 HO7 HY HC
          go_wp2_with fail
          go_loopw [17] (fun q wr => ∃ k : Nat, q = .int .i64 k ∧ k ≤ IV.ins.length ∧ Hid (∃ L : List Line, L.length = IV.ins.length ∧ OwnStrs wr w6.heap.size (.slice a7 IV.ins.length k7) L) ∧ Hid (wr.heap[b12]? = some (.cells #[.int .i64 IV.pos, .int .i64 IV.del, .slice a7 IV.ins.length k7] 24 (0, 0))) ∧ Hid (Below w4.heap.size w4 wr)) (fun q _ => IV.ins.length - (intOf q).toNat)
          case atStart => exact ⟨0, rfl, by omega, Lib.hid ⟨IV.ins, rfl, HP.out⟩, HQ, HD⟩
          case round =>
            rename_i wr0 _ wr _
            clear HP HQ HD
            obtain ⟨k, rfl, hk, HO, HQ, HD⟩ := hrel
            obtain ⟨p0, p1, p2⟩ := box_spl HQ.out
            by_cases hlt : k < IV.ins.length
            · obtain ⟨g3, rfl, hg1, hg2⟩ := HG7.out (by omega)
              obtain ⟨L, hL, ho⟩ := HO.out
              obtain ⟨⟨u, hu⟩, hfz⟩ := own_cell hL ho hlt
              have HN : Hid (∃ L : List Line, L.length = IV.ins.length ∧ OwnStrs (wr.setCell ⟨g3, k, none⟩ (.string ⟨#[63]⟩)) w6.heap.size (.slice (some ⟨g3, 0, none⟩) IV.ins.length k7) L) := Lib.hid ⟨L.set k [63], by simpa using hL, own_put hL ho k [63]⟩
              have HQN : Hid ((wr.setCell ⟨g3, k, none⟩ (.string ⟨#[63]⟩)).heap[b12]? = some (.cells #[.int .i64 IV.pos, .int .i64 IV.del, .slice (some ⟨g3, 0, none⟩) IV.ins.length k7] 24 (0, 0))) := Lib.hid ((Below.heap_setCell _ _ _ _ (by simp only; omega)).trans HQ.out)
              have HDN := Lib.hid (HD.out.setCell (p := ⟨g3, k, none⟩) (by have := HZ6.out; simp only; omega) (.string ⟨#[63]⟩))
              clear ho
              go_wp2_with fail
              go_roundw
              case rel => exact ⟨k + 1, by go_num, by omega, HN, HQN, HDN⟩
              case measure => simp [intOf]; omega
            · have hkl : k = IV.ins.length := by omega
              subst hkl
              go_wp2_with fail
              clear p0 p1 p2 HO HQ
              refine (left_any _ g1 k1 l ao cap _ (HL4.out.later lasts_str HD.out) (HU4.out.later HD.out) HLC1.out (by have := HSM.out.1; omega)).mono ?_
              rintro e wa ⟨rfl, n6, rfl⟩
              have HDA := Lib.hid (below_drewN HD.out n6)
              generalize wr.drewN n6 = wa at *
              obtain ⟨c0, c1, c2⟩ := box_spl ((HDA.out.block _ (lt_of_heap HX4.out)).trans HX4.out)
              go_wp2_with fail
              refine (left_any _ g2 k2 s.ins ai ci _ (HI4.out.later lasts_str HDA.out) (HV4.out.later HDA.out) HLC2.out (by have := HSP.out.1; omega)).mono ?_
              rintro e wb ⟨rfl, n7, rfl⟩
              have HDB := Lib.hid (below_drewN HDA.out n7)
              clear c0 c1 c2
              generalize wa.drewN n7 = wb at *
              have HBB := Lib.hid (HB4.out.trans (HDB.out.mono HB4.out.size))
              go_wp2_with fail
              refine (does_any _ (HT.out.later HBB.out)).mono ?_
              rintro e wc ⟨rfl, hb⟩
              have HBC := Lib.hid (HBB.out.trans (hb.mono HBB.out.size)); clear hb
              go_wp2_with fail
              go_returns
              exact ⟨rfl, HBC.out⟩
end Go.Proofs.YtgcncmhaihgldaaDoor
