/- RunsMove: a place within what moves. -/
import Derived.Test.YtjibimocplkfiaaGreatDoorRm2
namespace Go.Proofs.YtjibimocplkfiaaGreatDoor
open Go Go.Proofs Go.Ev Go.RowKit Go.Ink Go.Sort

set_option maxRecDepth 100000 in
set_option maxHeartbeats 2000000 in
theorem runsMove_no (l : List Line) (ao : Option Addr) (cap : Nat) (n0 n1 n2 : UInt8) (w : World) (hl : SlOf IsStr w ao cap l) (hs : 6 ≤ w.heap.size) (ht : TabW w) (hl0 : ¬ l.length = 0) (hck : checkL l = 0) {I J D : Nat} (hmn : l.length ≤ 8 → MoveN l.length n0 n1 n2 I J D) (hd' : I ≤ D ∧ D < J) :
    Calls Tryz.prog 3 #[.slice ao l.length cap, .agg #[.int .u8 (n0.toNat : Int), .int .u8 (n1.toNat : Int), .int .u8 (n2.toNat : Int)]] w fun e w' => e = .returned (.bool true) ∧ Below w.heap.size w w' := by
  have hc : l.length ≤ 9223372036854775807 := Nat.le_trans hl.1 hl.2.1
  have HA := Lib.hid (below_alloc w (.cells #[.int .u8 (n0.toNat : Int), .int .u8 (n1.toNat : Int), .int .u8 (n2.toNat : Int)] 23))
  have HX := Lib.hid (heap_alloc_at w (.cells #[.int .u8 (n0.toNat : Int), .int .u8 (n1.toNat : Int), .int .u8 (n2.toNat : Int)] 23))
  have HL := Lib.hid hl
  have HS := Lib.hid hs
  have HTW := Lib.hid ht
  have HLV := Lib.hid (fun (X : World) (hb : Below w.heap.size w X) => lives_any (w := X) ⟨Nat.le_trans hs hb.size, ht.later hb⟩)
  have HMN := Lib.hid hmn
  have HDD := Lib.hid hd'
  have HCKL := Lib.hid hck
  clear hl hs ht hmn hd' hck
  · have hli : ((l.length : Int) == 0) = false := by rw [beq_eq_false_iff_ne]; omega
    have hlz : ¬ (l.length : Int) = 0 := by omega
    go_enter Tryz.func3, Tryz.ntmps3
    go_wp2_with fail
    refine (beyondText_any l ao cap 8 _ (HL.out.later lasts_str HA.out)).mono ?_
    rintro e w1 ⟨⟨b, rfl, hb⟩, rfl⟩
    cases b
    · have h8 : l.length ≤ 8 := by have := (hb rfl).1; omega
      clear hb
      · have HCK := Lib.hid HCKL.out
        go_wp2_with fail
        refine (coreNew_apart l ao cap _ (HL.out.later lasts_str HA.out) (by omega) HCK.out).mono ?_
        rintro e w2 ⟨c, t, r, rfl, hT2, hC2, hR2, hcge, hb2⟩
        have HT2 := Lib.hid hT2
        have HC2 := Lib.hid hC2
        have HR2 := Lib.hid hR2
        have HB2 := Lib.hid hb2
        have HCG := Lib.hid hcge
        have hx2 := (hb2.block _ (lt_of_heap HX.out)).trans HX.out
        have x0 := Lib.cell_of_heap hx2 0
        have x1 := Lib.cell_of_heap hx2 1
        have x2 := Lib.cell_of_heap hx2 2
        simp only [List.getElem?_toArray, List.getElem?_cons_succ, List.getElem?_cons_zero] at x0 x1 x2
        clear hT2 hC2 hR2 hb2 hcge hx2
        obtain ⟨hIe, hI1, hI2, hz, hJe, hJ1, hJ2, hDe, hD⟩ := (HMN.out h8)
        have HIE := Lib.hid hIe
        have HJE := Lib.hid hJe
        have HDE := Lib.hid hDe
        have HZ := Lib.hid hz
        clear hIe hJe hDe hz
        go_wp2_with fail
        · rename_i h
          rw [HIE.out] at h
          exact absurd h HZ.out
        · rw [HIE.out, HJE.out, HDE.out]
          generalize hwE : ((w2.alloc _).alloc _).alloc _ = wE
          obtain ⟨hbE, hrE, hsE, hzE⟩ := three_blocks w2 _ _ _ I J wE hwE.symm
          clear hwE
          have hclt : c < w2.heap.size := HC2.out.lt
          have hb0 := HB2.out.size
          have ha0 := HA.out.size
          have HBE := Lib.hid ((HA.out.trans (HB2.out.mono HA.out.size)).trans (hbE.mono (Nat.le_trans ha0 hb0)))
          have hbw : w.heap.size ≤ wE.heap.size := HBE.out.size
          have hcb : w.heap.size ≤ c := Nat.le_trans ha0 HCG.out
          have HCW := Lib.hid (show l.length = manyS (ofS [l]) from (manyS_one l).symm)
          have hckl : checkL l = 0 := HCK.out
          have HLE := Lib.hid (fun (X : World) (hb : Below w.heap.size w X) => HL.out.later lasts_str hb)
          have hpos : 1 ≤ l.length := by omega
          have hd : I ≤ D ∧ D < J := HDD.out
          · have HR := Lib.hid (runsRun_no (B := w.heap.size) (w := wE) (sv := .slice (some ⟨w2.heap.size + 1 + 1, 0, none⟩) 1 1) (lb := w2.heap.size + 1) (lc2 := 2) (by have := HS.out; omega) (HC2.out.later hbE) (HR2.out.later hbE) (HT2.out.later hbE) hrE (.inr ⟨_, rfl, hsE⟩) (by omega) (fun b hb => by injection hb with hb; injection hb with hb; injection hb with hb; omega) (by omega) (by unfold maxLen; omega)
              (fun x hx => by unfold Only at hx; omega) rfl (by have := ofS_len [l]; simp only [List.length_singleton] at this; omega) (by have := HCW.out; omega) (by have := HCW.out; omega) (by rw [ofS_one]; exact hckl) hI1 hJ1 (by have := HCW.out; omega) (by have := HCW.out; omega) hd hbw hcb)
            rw [ofS_one] at HR
            refine HR.out.mono ?_
            rintro e w3 ⟨rfl, hE⟩
            have HB3 := Lib.hid (HBE.out.trans hE.below)
            obtain ⟨S', t', ps', hCo, hF, hM⟩ := hE.core (by omega)
            have HCA := Lib.hid (coreAll_of hCo l hF hM l.length rfl hpos)
            have d1 : (I : Int) ≤ (D : Int) := by omega
            have d2 : (D : Int) < (J : Int) := by omega
            have HSL := Lib.hid (sameS_self l)
            clear hE hCo hF hM HR hrE hsE hbE hckl
            go_wp2_with fail
            refine HCA.out.mono ?_
            rintro e w4 ⟨ao4, cap4, rfl, hs4, hb4⟩
            have HS4 := Lib.hid hs4
            have HB4 := Lib.hid (step2 HB3.out hb4)
            clear hs4 hb4
            go_wp2_with fail
            refine (same17_any l l ao4 ao cap4 cap _ HS4.out (HLE.out _ HB4.out)).mono ?_
            rintro e w5 ⟨rfl, n5, rfl⟩
            rw [HSL.out]
            have HB5 := Lib.hid (HB4.out.trans (below_draw _ n5))
            go_wp2_with fail
            refine (HLV.out _ HB5.out).mono ?_
            rintro e w6 ⟨rfl, hb6⟩
            have HB6 := Lib.hid (step2 HB5.out hb6)
            clear hb6
            go_wp2_with fail
            go_returns
            exact ⟨rfl, HB6.out⟩
    · clear hb
      go_wp2_with fail
      refine (HLV.out _ HA.out).mono ?_
      rintro e w2 ⟨rfl, hb2⟩
      have HB2 := Lib.hid (HA.out.trans (hb2.mono HA.out.size))
      clear hb2
      go_wp2_with fail
      go_returns
      exact ⟨rfl, HB2.out⟩
end Go.Proofs.YtjibimocplkfiaaGreatDoor
