/- The walk of the law VtCut. -/
import Derived.Test.YtgfcnafhfgncoaaDoorVtP
import Derived.Deep.RegionHeld3
namespace Go.Proofs.YtgfcnafhfgncoaaDoor
open Go Go.Proofs Go.RowKit Go.Ink

theorem extract_mk' (s : List UInt8) (a b : Nat) : (⟨s.toArray⟩ : ByteArray).extract a b = ⟨((s.drop a).take (b - a)).toArray⟩ := by
  apply ByteArray.ext
  simp only [ByteArray.data_extract, List.extract_toArray, List.extract_eq_take_drop]
set_option maxRecDepth 100000 in
set_option maxHeartbeats 2000000 in
theorem vtCut_any (m n : UInt8) (s : List UInt8) (at' : Nat) (w : World) (hm : MaxAt w) (hs : s.length ≤ maxLen) (ha : at' ≤ 65535) :
    Calls Tryd.prog 5 #[.agg #[.int .u8 (m.toNat : Int), .int .u8 (n.toNat : Int)], .string ⟨s.toArray⟩, .int .u16 (at' : Int)] w fun e w' => e = .returned (.bool true) ∧ Below w.heap.size w w' := by
  unfold maxLen at hs
  have HSZ := size_mk s
  have HM := Lib.hid hm; clear hm
  by_cases hl : (3000 : Int) < (s.length : Int)
  · go_enter Tryd.func5, Tryd.ntmps5
    go_wp2_with fail
    go_returns
    exact ⟨rfl, (Below.refl _ _).alloc (Nat.le_refl _) _⟩
  · obtain ⟨k, hk⟩ : ∃ k, at' % (s.length + 1) = k := ⟨_, rfl⟩
    have hkl : k ≤ s.length := by have := Nat.mod_lt at' (show 0 < s.length + 1 by omega); omega
    have hki : ((at' : Int) % ((s.length : Int) + 1)) = (k : Int) := by rw [← hk]; simp
    have HKI := Lib.hid hki
    have hb0 := (Below.refl w.heap.size w).alloc (Nat.le_refl _) (.cells #[.int .u8 (m.toNat : Int), .int .u8 (n.toNat : Int)] 45)
    have HX0 : Hid ((w.alloc (.cells #[.int .u8 (m.toNat : Int), .int .u8 (n.toNat : Int)] 45)).heap[w.heap.size]? = some (.cells #[.int .u8 (m.toNat : Int), .int .u8 (n.toNat : Int)] 45 (0, 0))) := Lib.hid (heap_alloc_new w _)
    have HB0 := Lib.hid hb0
    have hp1 : (0 : Int) ≤ (at' : Int) := by omega
    have hp2 : (0 : Int) < (s.length : Int) + 1 := by omega
    have hp3 : ¬ (s.length : Int) + 1 = 0 := by omega
    clear hb0 hki hk
    go_enter Tryd.func5, Tryd.ntmps5
    go_wp2_with fail
    rw [HKI.out]
    have q0 : (w.alloc (.cells #[.int .u8 (m.toNat : Int), .int .u8 (n.toNat : Int)] 45)).cell? ⟨w.heap.size, 0, none⟩ = some (.int .u8 (m.toNat : Int)) := by rw [Lib.cell_of_heap HX0.out]; rfl
    have q1 : (w.alloc (.cells #[.int .u8 (m.toNat : Int), .int .u8 (n.toNat : Int)] 45)).cell? ⟨w.heap.size, 1, none⟩ = some (.int .u8 (n.toNat : Int)) := by rw [Lib.cell_of_heap HX0.out]; rfl
    have HM0 := Lib.hid (HM.out.later HB0.out)
    obtain ⟨W0, hW0⟩ : ∃ W0, w.alloc (.cells #[.int .u8 (m.toNat : Int), .int .u8 (n.toNat : Int)] 45) = W0 := ⟨_, rfl⟩
    rw [hW0] at q0 q1 HB0 HM0 ⊢
    obtain ⟨x, hx⟩ : ∃ x, w.heap.size = x := ⟨_, rfl⟩
    rw [hx] at q0 q1 ⊢
    have HXX := Lib.hid hx
    clear hW0 hx HX0 HM
    have hmx := max_lt HM0.out
    have HMX := Lib.hid hmx
    have tok1 : True := trivial
    go_region_held3 (fun w' => w'.cell? ⟨x, 0, none⟩ = some (.int .u8 (m.toNat : Int)) ∧ w'.cell? ⟨x, 1, none⟩ = some (.int .u8 (n.toNat : Int)))
      (first | exact ⟨q0, q1⟩ | exact ⟨a0, a1⟩ | exact ⟨b0, b1⟩ | go_keep)
      (first | (have _t := tok1; go_at_call 18; refine (made_any m n _).mono ?_; rintro e wa hpa; obtain ⟨va, Sa, rfl, hva, hba⟩ := OneP.of_new HB0.out.drew (HM0.out.later ((Below.refl _ _).drew)) hpa (by omega) (by omega); have a0 := (hba.cell (p := ⟨x, 0, none⟩) (lt_of_cell q0)).trans q0; have a1 := (hba.cell (p := ⟨x, 1, none⟩) (lt_of_cell q1)).trans q1; have HVA := Lib.hid hva; have HBA := Lib.hid hba; clear hva hba hpa _t tok1) | (go_at_call 18; refine (made_any m n _).mono ?_; rintro e wb hpb; obtain ⟨vb, Sb, rfl, hvb, hbb⟩ := OneP.of_new HVA.out.below HVA.out.m hpb (by omega) (by omega); have b0 := (hbb.cell (p := ⟨x, 0, none⟩) (lt_of_cell a0)).trans a0; have b1 := (hbb.cell (p := ⟨x, 1, none⟩) (lt_of_cell a1)).trans a1; have HVB := Lib.hid hvb; have HBB := Lib.hid hbb; clear hvb hbb hpb) | (fail "no arm"))
    have HT0 : Hid (TwoP w wb W0.drew.heap.size va (Tm.start (2 + m.toNat % 59) (8 + n.toNat % 125)) Sa wa.heap.size vb (Tm.start (2 + m.toNat % 59) (8 + n.toNat % 125)) Sb) := Lib.hid ⟨HVA.out.later HBB.out, HVB.out, fun i e e' => by have := (HVA.out.a.lt i e).2; have := (HVB.out.a.lt i e').1; omega⟩
    have HP0 : Hid ((Tm.start (2 + m.toNat % 59) (8 + n.toNat % 125)).par.length = 0) := Lib.hid rfl
    generalize Tm.start (2 + m.toNat % 59) (8 + n.toNat % 125) = T0 at *
    generalize W0.drew.heap.size = Ba at *
    generalize hBb : wa.heap.size = Bb at *
    clear q0 q1 a0 a1 b0 b1 HVA HVB HBA HBB hBb hmx HMX HKI
    have HTK := Lib.hid (show T0.feed s = (T0.feed (s.take k)).feed (s.drop k) from by rw [← Tm.feed_append, List.take_append_drop])
    have HX1 : Hid ((⟨s.toArray⟩ : ByteArray).extract 0 k = ⟨(s.take k).toArray⟩) := Lib.hid (by rw [extract_mk', List.drop_zero, Nat.sub_zero])
    have HX2 : Hid ((⟨s.toArray⟩ : ByteArray).extract k s.length = ⟨(s.drop k).toArray⟩) := Lib.hid (by rw [extract_mk', List.take_of_length_le (by rw [List.length_drop]; omega)])
    have htk : (s.take k).length ≤ 3000 := by rw [List.length_take]; omega
    have hdk : (s.drop k).length ≤ 3000 := by rw [List.length_drop]; omega
    have hP1 := feed_par_len T0 (s.take k)
    have HPL : Hid ((T0.feed (s.take k)).par.length ≤ 3000) := Lib.hid (by have := HP0.out; omega)
    clear hP1
    go_wp2_with fail
    refine (HT0.out.a.feed s (by have := HP0.out; omega)).mono ?_
    rintro e w1 ⟨rfl, S1, hf1⟩
    have HT1 := Lib.hid (HT0.out.fedA hf1).swap
    clear hf1 HT0
    go_wp2_with fail
    rw [HX1.out]
    refine (HT1.out.a.feed _ (by have := HP0.out; omega)).mono ?_
    rintro e w2 ⟨rfl, S2, hf2⟩
    have HT2 := Lib.hid (HT1.out.fedA hf2)
    clear hf2 HT1
    go_wp2_with fail
    refine (gridP HT2.out.a.a HT2.out.a.g).mono ?_
    rintro e w3 ⟨g3, bs3, rfl, _, ho3, hb3⟩
    have HT3 := Lib.hid (HT2.out.later hb3)
    have HS3 := Lib.hid ho3.sl
    clear hb3 ho3 HT2
    go_wp2_with fail
    refine (checkP (w := w3) HT3.out.a.g _ _ HS3.out).mono ?_
    rintro e w4 ⟨rfl, hb4⟩
    have HT4 := Lib.hid (HT3.out.later hb4)
    clear hb4 HT3 HS3
    go_wp2_with fail
    rw [HX2.out]
    refine (HT4.out.a.feed _ (by have := HPL.out; omega)).mono ?_
    rintro e w5 ⟨rfl, S5, hf5⟩
    have HT5 := Lib.hid (HT4.out.fedA hf5).swap
    clear hf5 HT4
    go_wp2_with fail
    refine (gridP HT5.out.a.a HT5.out.a.g).mono ?_
    rintro e w6 ⟨g6, bs6, rfl, _, ho6, hb6⟩
    have HT6 := Lib.hid (HT5.out.later hb6)
    have HS6 := Lib.hid ho6.sl
    clear hb6 ho6 HT5
    go_wp2_with fail
    refine (checkP (w := w6) HT6.out.a.g _ _ HS6.out).mono ?_
    rintro e w7 ⟨rfl, hb7⟩
    have HT7 := Lib.hid (HT6.out.later hb7)
    clear hb7 HT6 HS6
    go_wp2_with fail
    refine (gridP HT7.out.a.a HT7.out.a.g).mono ?_
    rintro e w8 ⟨g8, bs8, rfl, _, ho8, hb8⟩
    have HT8 := Lib.hid (HT7.out.later hb8)
    have HS8 := Lib.hid ho8.sl
    clear hb8 ho8 HT7
    go_wp2_with fail
    refine (gridP HT8.out.b.a HT8.out.b.g).mono ?_
    rintro e w9 ⟨g9, bs9, rfl, _, ho9, hb9⟩
    have HT9 := Lib.hid (HT8.out.later hb9)
    have HS9 := Lib.hid (HS8.out.later lasts_bytes hb9)
    have HS9' := Lib.hid ho9.sl
    have HCL : Hid ((T0.feed s).grd.cells.length ≤ 1000000) := Lib.hid (by
      show (T0.feed s).cells.length ≤ _; have h1 := HT9.out.a.g.many; have h2 := HT9.out.a.g.rows; omega)
    clear hb9 ho9 HT8 HS8
    go_wp2_with fail
    rw [← HTK.out] at HS9' ⊢
    refine (same_self_g (T0.feed s).grd _ _ _ _ w9 HS9.out HS9'.out HCL.out).mono ?_
    rintro e w10 ⟨rfl, hb10⟩
    have HT10 := Lib.hid (HT9.out.later hb10)
    clear hb10 HT9 HS9 HS9'
    go_wp2_with fail
    refine (does_any _ HT10.out.a.m).mono ?_
    rintro e w11 ⟨rfl, hb11⟩
    have HT11 := Lib.hid (HT10.out.later hb11)
    clear hb11 HT10
    go_wp2_with fail
    go_returns
    exact ⟨rfl, HT11.out.a.below⟩
end Go.Proofs.YtgfcnafhfgncoaaDoor
