/- The walk of splices.Inverse. -/
import Derived.Test.YtgcncmhaihgldaaGreatDoorSpl5
import Derived.Deep.RegionHeld3
namespace Go.Proofs.YtgcncmhaihgldaaGreatDoor
open Go Go.Proofs Go.RowKit Go.Ink

set_option maxRecDepth 100000 in
set_option maxHeartbeats 2000000 in
theorem inverse_any (l : List Line) (ao : Option Addr) (cap : Nat) (s : Spl) (ai : Option Addr) (ci : Nat) (w : World) (hl : SlOf IsStr w ao cap l) (hi : SlOf IsStr w ai ci s.ins) (hlen : l.length ≤ 100000) :
    Calls Tryz.prog 24 #[.slice ao l.length cap, splV s ai ci] w (SplPost w (invS l s)) := by
  have HL := Lib.hid hl
  have hc1 : cap ≤ 9223372036854775807 := hl.2.1
  have hc2 : l.length ≤ cap := hl.1
  clear hl
  have HI := Lib.hid hi; clear hi
  have HAP := Lib.hid (fun w hl hi => apply_any l ao cap s ai ci w hl hi hlen)
  simp only [splV] at *
  have H2 := Lib.hid (two_blocks w (.cells #[.int .i64 s.pos, .int .i64 s.del, .slice ai s.ins.length ci] 24 (0, 0)) (.cells #[.int .i64 0, .int .i64 0, .slice none 0 0] 24 (0, 0)))
  by_cases h : (applyS l s).2 = 0
  · have hcl : checkL l = 0 := by
      cases hc : decide (checkL l = 0) with
      | true => simpa using hc
      | false =>
        unfold applyS at h
        rw [if_pos (by simpa using hc)] at h
        exact h
    rw [applyS_of hcl] at h
    obtain ⟨h1, k1, k2, h4, h5, h6⟩ := doneS_ok h
    have HV := Lib.hid (invS_of hcl h)
    have HE := Lib.hid (show (applyS l s).2 = 0 by rw [applyS_of hcl]; exact h)
    obtain ⟨p, hp⟩ := Int.eq_ofNat_of_zero_le k1
    obtain ⟨d, hd⟩ := Int.eq_ofNat_of_zero_le k2
    obtain ⟨pos, del, ins⟩ := s
    simp only at hp hd
    subst hp hd
    simp only [Int.toNat_natCast] at h4 HV
    have HDL := Lib.hid (show ((l.drop p).take d).length = d by rw [List.length_take, List.length_drop]; omega)
    have hin : ins.length ≤ 9223372036854775807 := Nat.le_trans HI.out.1 HI.out.2.1
    clear h h1 h5 h6 k1 k2 hcl
    have e1 : p ≤ cap := by omega
    have e2 : p + d ≤ cap := by omega
    have e3 : p ≤ p + d := by omega
    have hs1 : IntKind.i64.wrap ((p : Int) + (d : Int)) = (p : Int) + (d : Int) := IntWalk.i64_in _ (by omega)
    have hs2 : (0 : Int) ≤ (p : Int) + (d : Int) := by omega
    have hs3 : (p : Int) + (d : Int) ≤ (cap : Int) := by omega
    have hs4 : ((p : Int) + (d : Int)).toNat = p + d := by omega
    have hs5 : (p : Int) ≤ (p : Int) + (d : Int) := by omega
    go_enter Tryz.func24, Tryz.ntmps24
    go_wp2_with fail
    refine (HAP.out _ (HL.out.later lasts_str H2.out.2.2.1) (HI.out.later lasts_str H2.out.2.2.1)).mono ?_
    rintro e w1 ⟨v, rfl, ho, hb⟩
    rw [HE.out]
    clear ho
    have HB := Lib.hid (H2.out.2.2.1.trans (hb.mono H2.out.2.2.1.size))
    have HX := Lib.hid ((hb.block w.heap.size (by have := H2.out.2.2.2; omega)).trans H2.out.1)
    have HR := Lib.hid ((hb.block (w.heap.size + 1) (by have := H2.out.2.2.2; omega)).trans H2.out.2.1)
    clear hb
    have b0 : w1.cell? ⟨w.heap.size, 0, none⟩ = some (.int .i64 p) := by rw [Lib.cell_of_heap HX.out]; rfl
    have b1 : w1.cell? ⟨w.heap.size, 1, none⟩ = some (.int .i64 d) := by rw [Lib.cell_of_heap HX.out]; rfl
    have b2 : w1.cell? ⟨w.heap.size, 2, none⟩ = some (.slice ai ins.length ci) := by rw [Lib.cell_of_heap HX.out]; rfl
    rcases ao with _ | ad
    · have HC0 := Lib.hid (show cap = 0 from HL.out.2.2.1 rfl)
      have HCS := Lib.hid (fun w2 (_ : Below w1.heap.size w1 w2) => show SlOf IsStr w2 none (cap - p) ((l.drop p).take d) from by
        have hc0 := HC0.out
        have : (l.drop p).take d = [] := by rw [List.drop_eq_nil_of_le (by omega), List.take_nil]
        rw [this, show cap - p = 0 by omega]
        exact slOf_none w2)
      have HLN := HDL
      generalize (l.drop p).take d = D at *
      go_wp2_with fail
      have HCL := Lib.hid (fun w2 (h : Below w1.heap.size w1 w2) => clone_any D none (cap - p) w2 (HCS.out w2 h) (by have := HLN.out; omega))
      rw [HLN.out] at HCL
      go_region_held3 (fun w' => w'.cell? ⟨w.heap.size, 0, none⟩ = some (.int .i64 p) ∧ w'.cell? ⟨w.heap.size, 1, none⟩ = some (.int .i64 d) ∧ w'.cell? ⟨w.heap.size, 2, none⟩ = some (.slice ai ins.length ci))
        (first | exact ⟨b0, b1, b2⟩ | exact ⟨b0', b1', b2'⟩ | go_keep)
        (first | (go_at_call 38; refine (HCL.out _ ((Below.refl _ _).drew)).mono ?_; rintro e w2 ⟨v2, rfl, ho2, hb2⟩; obtain ⟨a2, c2, hv2⟩ := ownsRow_shape ho2; subst hv2; have b0' := (hb2.cell (p := ⟨w.heap.size, 0, none⟩) (lt_of_cell b0)).trans b0; have b1' := (hb2.cell (p := ⟨w.heap.size, 1, none⟩) (lt_of_cell b1)).trans b1; have b2' := (hb2.cell (p := ⟨w.heap.size, 2, none⟩) (lt_of_cell b2)).trans b2; have HR2 := Lib.hid ((hb2.block (w.heap.size + 1) (lt_of_heap HR.out)).trans HR.out); have d0 := Lib.cell_of_heap HR2.out 0; have d1 := Lib.cell_of_heap HR2.out 1; have d2 := Lib.cell_of_heap HR2.out 2; simp only [List.getElem?_toArray, List.getElem?_cons_succ, List.getElem?_cons_zero] at d0 d1 d2; have f0 := Lib.frozen_of_heap HR2.out 0; have f1 := Lib.frozen_of_heap HR2.out 1; have f2 := Lib.frozen_of_heap HR2.out 2; have HO2 := Lib.hid ho2; have HB2 := Lib.hid hb2; clear ho2 hb2))
      go_wp2_with fail
      obtain ⟨s0, s1, s2⟩ := three_cells HR2.out (.int .i64 p) (.int .i64 ins.length) (.slice a2 D.length c2)
      have HBF := Lib.hid (HB.out.trans ((((Below.refl w1.heap.size w1).drew).trans HB2.out).mono HB.out.size))
      have HFB : Hid (Below w.heap.size w (((w2.setCell ⟨w.heap.size + 1, 0, none⟩ (.int .i64 p)).setCell ⟨w.heap.size + 1, 1, none⟩ (.int .i64 ins.length)).setCell ⟨w.heap.size + 1, 2, none⟩ (.slice a2 D.length c2))) :=
        Lib.hid (((HBF.out.setCell (by simp) _).setCell (by simp) _).setCell (by simp) _)
      have HLT2 := Lib.hid (show w.heap.size + 1 < w1.heap.size from lt_of_heap HR.out)
      have HOF : Hid (OwnStrs (((w2.setCell ⟨w.heap.size + 1, 0, none⟩ (.int .i64 p)).setCell ⟨w.heap.size + 1, 1, none⟩ (.int .i64 ins.length)).setCell ⟨w.heap.size + 1, 2, none⟩ (.slice a2 D.length c2)) w1.heap.size (.slice a2 D.length c2) D) :=
        Lib.hid (ownsRow_setCell_below (ownsRow_setCell_below (ownsRow_setCell_below HO2.out HLT2.out _) HLT2.out _) HLT2.out _)
      refine bodyPost_ret (v := .tuple #[.agg #[.int .i64 p, .int .i64 ins.length, .slice a2 D.length c2], .int .i64 0]) (by simp [results, Tryz.results24, go_sem, s0, s1, s2]) rfl ?_
      rw [HV.out]
      exact ⟨_, rfl, ownsRow_base HOF.out HB.out.size, HFB.out⟩
    · obtain ⟨A0, hif⟩ : ∃ A0, (if cap = p then some ad else some (ad.add p)) = A0 := ⟨_, rfl⟩
      have HCS := Lib.hid (fun w2 (h : Below w1.heap.size w1 w2) => show SlOf IsStr w2 A0 (cap - p) ((l.drop p).take d) from by
        by_cases hpc : cap = p
        · have : (l.drop p).take d = [] := by rw [List.drop_eq_nil_of_le (by omega), List.take_nil]
          rw [← hif, if_pos hpc, this]
          exact slOf_nil ad _ (by unfold maxLen; omega)
        · rw [← hif, if_neg hpc]
          exact slOf_take (slOf_drop ((HL.out.later lasts_str HB.out).later lasts_str h) p) d)
      have HLN := HDL
      generalize (l.drop p).take d = D at *
      go_wp2_with fail
      have HCL := Lib.hid (fun w2 (h : Below w1.heap.size w1 w2) => clone_any D A0 (cap - p) w2 (HCS.out w2 h) (by have := HLN.out; omega))
      rw [HLN.out] at HCL
      go_region_held3 (fun w' => w'.cell? ⟨w.heap.size, 0, none⟩ = some (.int .i64 p) ∧ w'.cell? ⟨w.heap.size, 1, none⟩ = some (.int .i64 d) ∧ w'.cell? ⟨w.heap.size, 2, none⟩ = some (.slice ai ins.length ci))
        (first | exact ⟨b0, b1, b2⟩ | exact ⟨b0', b1', b2'⟩ | go_keep)
        (first | (go_at_call 38; refine (HCL.out _ ((Below.refl _ _).drew)).mono ?_; rintro e w2 ⟨v2, rfl, ho2, hb2⟩; obtain ⟨a2, c2, hv2⟩ := ownsRow_shape ho2; subst hv2; have b0' := (hb2.cell (p := ⟨w.heap.size, 0, none⟩) (lt_of_cell b0)).trans b0; have b1' := (hb2.cell (p := ⟨w.heap.size, 1, none⟩) (lt_of_cell b1)).trans b1; have b2' := (hb2.cell (p := ⟨w.heap.size, 2, none⟩) (lt_of_cell b2)).trans b2; have HR2 := Lib.hid ((hb2.block (w.heap.size + 1) (lt_of_heap HR.out)).trans HR.out); have d0 := Lib.cell_of_heap HR2.out 0; have d1 := Lib.cell_of_heap HR2.out 1; have d2 := Lib.cell_of_heap HR2.out 2; simp only [List.getElem?_toArray, List.getElem?_cons_succ, List.getElem?_cons_zero] at d0 d1 d2; have f0 := Lib.frozen_of_heap HR2.out 0; have f1 := Lib.frozen_of_heap HR2.out 1; have f2 := Lib.frozen_of_heap HR2.out 2; have HO2 := Lib.hid ho2; have HB2 := Lib.hid hb2; clear ho2 hb2))
      go_wp2_with fail
      obtain ⟨s0, s1, s2⟩ := three_cells HR2.out (.int .i64 p) (.int .i64 ins.length) (.slice a2 D.length c2)
      have HBF := Lib.hid (HB.out.trans ((((Below.refl w1.heap.size w1).drew).trans HB2.out).mono HB.out.size))
      have HFB : Hid (Below w.heap.size w (((w2.setCell ⟨w.heap.size + 1, 0, none⟩ (.int .i64 p)).setCell ⟨w.heap.size + 1, 1, none⟩ (.int .i64 ins.length)).setCell ⟨w.heap.size + 1, 2, none⟩ (.slice a2 D.length c2))) :=
        Lib.hid (((HBF.out.setCell (by simp) _).setCell (by simp) _).setCell (by simp) _)
      have HLT2 := Lib.hid (show w.heap.size + 1 < w1.heap.size from lt_of_heap HR.out)
      have HOF : Hid (OwnStrs (((w2.setCell ⟨w.heap.size + 1, 0, none⟩ (.int .i64 p)).setCell ⟨w.heap.size + 1, 1, none⟩ (.int .i64 ins.length)).setCell ⟨w.heap.size + 1, 2, none⟩ (.slice a2 D.length c2)) w1.heap.size (.slice a2 D.length c2) D) :=
        Lib.hid (ownsRow_setCell_below (ownsRow_setCell_below (ownsRow_setCell_below HO2.out HLT2.out _) HLT2.out _) HLT2.out _)
      refine bodyPost_ret (v := .tuple #[.agg #[.int .i64 p, .int .i64 ins.length, .slice a2 D.length c2], .int .i64 0]) (by simp [results, Tryz.results24, go_sem, s0, s1, s2]) rfl ?_
      rw [HV.out]
      exact ⟨_, rfl, ownsRow_base HOF.out HB.out.size, HFB.out⟩
  · have HV := Lib.hid (show invS l s = (noSpl, (applyS l s).2) by unfold invS; rw [if_pos h])
    have hq : ((applyS l s).2 == 0) = false := by simpa using h
    clear h
    go_enter Tryz.func24, Tryz.ntmps24
    go_wp2_with fail
    refine (HAP.out _ (HL.out.later lasts_str H2.out.2.2.1) (HI.out.later lasts_str H2.out.2.2.1)).mono ?_
    rintro e w1 ⟨v, rfl, ho, hb⟩
    clear ho
    have HB := Lib.hid (H2.out.2.2.1.trans (hb.mono H2.out.2.2.1.size))
    have HR := Lib.hid ((hb.block (w.heap.size + 1) (by have := H2.out.2.2.2; omega)).trans H2.out.2.1)
    clear hb
    generalize (applyS l s).2 = E at *
    have c0 : w1.cell? ⟨w.heap.size + 1, 0, none⟩ = some (.int .i64 0) := by rw [Lib.cell_of_heap HR.out]; rfl
    have c1 : w1.cell? ⟨w.heap.size + 1, 1, none⟩ = some (.int .i64 0) := by rw [Lib.cell_of_heap HR.out]; rfl
    have c2 : w1.cell? ⟨w.heap.size + 1, 2, none⟩ = some (.slice none 0 0) := by rw [Lib.cell_of_heap HR.out]; rfl
    have f0 := Lib.frozen_of_heap HR.out 0
    have f1 := Lib.frozen_of_heap HR.out 1
    have f2 := Lib.frozen_of_heap HR.out 2
    obtain ⟨s0, s1, s2⟩ := three_cells HR.out (.int .i64 0) (.int .i64 0) (.slice none 0 0)
    have HFB : Hid (Below w.heap.size w (((w1.setCell ⟨w.heap.size + 1, 0, none⟩ (.int .i64 0)).setCell ⟨w.heap.size + 1, 1, none⟩ (.int .i64 0)).setCell ⟨w.heap.size + 1, 2, none⟩ (.slice none 0 0))) :=
      Lib.hid (((HB.out.setCell (by simp) _).setCell (by simp) _).setCell (by simp) _)
    go_wp2_with fail
    refine bodyPost_ret (v := .tuple #[.agg #[.int .i64 0, .int .i64 0, .slice none 0 0], .int .i64 E]) (by simp [results, Tryz.results24, go_sem, s0, s1, s2]) rfl ?_
    rw [HV.out]
    exact ⟨_, rfl, OwnStrs.nil _ _, HFB.out⟩
end Go.Proofs.YtgcncmhaihgldaaGreatDoor
