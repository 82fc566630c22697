/- The walk of the reference's All of splices. -/
import Derived.Test.YtgcncmhaihgldaaDoorSpl7
namespace Go.Proofs.YtgcncmhaihgldaaDoor
open Go Go.Proofs Go.RowKit Go.Ink

theorem may_len {l : List Line} (h : checkL l = 0) : ∀ t ∈ l, t.length ≤ 9223372036854775807 := fun t ht => Nat.le_trans ((checkL_ok.1 h).2.2 t ht) (by omega)

set_option maxRecDepth 100000 in
set_option maxHeartbeats 2000000 in
theorem refAll_any (l : List Line) (ao : Option Addr) (cap : Nat) (list : List Spl) (al : Option Addr) (cl : Nat) (w : World) (hl : SlOf IsStr w ao cap l) (hs : SplOf w al cl list) (hlen : l.length ≤ 100000)
    (hs1 : ∀ t ∈ l, t.length ≤ 9223372036854775807) (hs2 : ∀ s ∈ list, ∀ t ∈ s.ins, t.length ≤ 9223372036854775807) (hs3 : ∀ s ∈ list, s.ins.length ≤ 100000) :
    Calls Tryd.prog 23 #[.slice ao l.length cap, .slice al list.length cl] w (LinesPost w (allS l list)) := by
  have HL := Lib.hid hl; clear hl
  have HS := Lib.hid hs
  have hc : list.length ≤ 9223372036854775807 := Nat.le_trans hs.1 hs.2.1
  clear hs
  have HS1 := Lib.hid hs1
  have HS2 := Lib.hid hs2
  have HS3 := Lib.hid hs3
  clear hs1 hs2 hs3
  by_cases h : checkL l = 0
  · have HC := Lib.hid h
    have HV := Lib.hid (show allS l list = foldS l list by unfold allS; rw [if_neg (by rw [h]; simp)]); clear h
    go_enter Tryd.func23, Tryd.ntmps23
    go_wp2_with fail
    refine (refCheck_any _ _ l _ HL.out HS1.out).mono ?_
    rintro e w1 ⟨rfl, rfl⟩
    rw [HC.out]
    go_wp2_with (at_builtin; refine wpList_append_src rfl _ _ rfl w1.heap.size _ [] rfl (own_empty w1) ao l.length cap l rfl rfl (HL.out.later lasts_str (below_alloc w1 _)) (by simp) (by simp only [List.length_nil]; omega) ?_)
    intro v w2 ho hb hg
    have HO2 := Lib.hid (show OwnStrs w2 w1.heap.size v l from by simpa using ho)
    have HB2 := Lib.hid ((below_alloc w1 _).trans hb)
    clear ho hb hg
    go_wp2_with fail
    go_loopw [7, 8] (fun x i wr => ∃ (k : Nat) (m : List Line), i = .int .i64 k ∧ k ≤ list.length ∧ Hid (foldS l (list.take k) = (m, 0)) ∧ Hid (checkL m = 0) ∧ Hid (OwnStrs wr w1.heap.size x m) ∧ Hid (Below w1.heap.size w1 wr)) (fun _ i _ => list.length - (intOf i).toNat)
    case atStart => exact ⟨0, l, rfl, by omega, Lib.hid rfl, HC, HO2, HB2⟩
    case round =>
      obtain ⟨k, m, rfl, hk, HF, HCM, HO, HB⟩ := hrel
      obtain ⟨ax, cx, hx, hsx⟩ := HO.out.slOf
      subst hx
      have HX := Lib.hid hsx; clear hsx
      have HLEN := Lib.hid (show m.length ≤ 100000 by have := foldS_len (list.take k) l 100000 hlen (by omega); rw [HF.out] at this; exact this)
      by_cases hlt : k < list.length
      · obtain ⟨s, hks⟩ : ∃ s, list[k]? = some s := ⟨_, List.getElem?_eq_getElem hlt⟩
        have hmem : s ∈ list := List.mem_of_getElem? hks
        obtain ⟨b, off, ai, ci, hao, c0, c1, c2, hins⟩ := HS.out.2.2.2 k s hks
        subst hao
        have HI := Lib.hid (hins.later lasts_str HB.out)
        have d0 := ((HB.out.cell (p := ⟨b, off + k * 3, none⟩) (lt_of_cell c0))).trans c0
        have d1 := ((HB.out.cell (p := ⟨b, off + k * 3 + 1, none⟩) (lt_of_cell c1))).trans c1
        have d2 := ((HB.out.cell (p := ⟨b, off + k * 3 + 2, none⟩) (lt_of_cell c2))).trans c2
        have HT := Lib.hid (foldS_take hks (by rw [HF.out])); rw [HF.out] at HT
        have HNX := Lib.hid (fun w hl hi => refApply_any m ax cx s ai ci w hl hi HLEN.out (may_len HCM.out) (HS2.out s hmem) (HS3.out s hmem))
        clear c0 c1 c2 hins hks hmem
        rw [applyS_of HCM.out] at HNX
        simp only [splV] at HNX
        by_cases hd : (doneS m s).2 = 0
        · have HD := Lib.hid hd
          have HCN := Lib.hid (doneS_may HCM.out hd)
          clear hd
          go_wp2_with fail
          refine (HNX.out _ HX.out HI.out).mono ?_
          rintro e w3 ⟨v3, rfl, ho, hb⟩
          rw [HD.out]
          have HO3 := Lib.hid (show OwnStrs w3 w1.heap.size v3 (doneS m s).1 from ownsRow_base ho HB.out.size)
          have HB3 := Lib.hid (HB.out.trans (hb.mono HB.out.size))
          clear ho hb d0 d1 d2
          go_wp2_with fail
          go_roundw
          case rel => exact ⟨k + 1, (doneS m s).1, by go_num, by omega, Lib.hid (by rw [HT.out]; exact Prod.ext rfl HD.out), HCN, HO3, HB3⟩
          case measure => simp [intOf]; omega
        · have hq : ((doneS m s).2 == 0) = false := by simpa using hd
          have HST := Lib.hid (foldS_stop (l := l) (list := list) (k := k + 1) (by rw [HT.out]; exact hd))
          rw [HT.out] at HST
          clear hd
          go_wp2_with fail
          refine (HNX.out _ HX.out HI.out).mono ?_
          rintro e w3 ⟨v3, rfl, ho, hb⟩
          have HB3 := Lib.hid (HB.out.trans (hb.mono HB.out.size))
          clear ho hb d0 d1 d2
          generalize (doneS m s).2 = E at *
          go_wp2_with fail
          go_returns
          rw [HV.out, HST.out]
          exact ⟨_, rfl, OwnStrs.nil _ _, HB3.out⟩
      · have hkl : k = list.length := by omega
        subst hkl
        have HF' := HF.out
        rw [List.take_length] at HF'
        have HF' := Lib.hid HF'
        go_wp2_with fail
        go_returns
        rw [HV.out, HF'.out]
        exact ⟨_, rfl, HO.out, HB.out⟩
  · have HV := Lib.hid (show allS l list = ([], checkL l) by unfold allS; rw [if_pos h])
    have hq : (checkL l == 0) = false := by simpa using h
    clear h
    go_enter Tryd.func23, Tryd.ntmps23
    go_wp2_with fail
    refine (refCheck_any _ _ l _ HL.out HS1.out).mono ?_
    rintro e w1 ⟨rfl, rfl⟩
    go_wp2_with fail
    go_returns
    rw [HV.out]
    exact ⟨_, rfl, OwnStrs.nil _ _, Below.refl _ _⟩
end Go.Proofs.YtgcncmhaihgldaaDoor
