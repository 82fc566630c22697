/- The walk of the law SplicesAll (begun). -/
import Derived.Test.YtgcncmhaihgldaaDoorSpl12
namespace Go.Proofs.YtgcncmhaihgldaaDoor
open Go Go.Proofs Go.RowKit Go.Ink

theorem own_headS {w : World} {B : Nat} {v : Value} {l : List Line} (h : OwnStrs w B v l) : ∃ ao cap, v = .slice ao l.length cap ∧ (0 < l.length → ∃ g, ao = some ⟨g, 0, none⟩ ∧ B ≤ g ∧ g < w.heap.size) := by
  rcases h.2 with ⟨rfl, h0⟩ | ⟨g, cap, cur, rfl, hg, hh, _⟩
  · exact ⟨_, _, by rw [h0], fun h => by omega⟩
  · exact ⟨_, _, rfl, fun _ => ⟨g, rfl, hg, (Array.getElem?_eq_some_iff.1 hh).1⟩⟩
theorem own_put {w : World} {B g cap : Nat} {L : List Line} {n : Nat} (hn : L.length = n) (h : OwnStrs w B (.slice (some ⟨g, 0, none⟩) n cap) L) (k : Nat) (t : Line) :
    OwnStrs (w.setCell ⟨g, k, none⟩ (.string ⟨t.toArray⟩)) B (.slice (some ⟨g, 0, none⟩) n cap) (L.set k t) := by
  subst hn
  have := World.ownsRow.stored h k (.string ⟨t.toArray⟩)
  unfold OwnStrs
  rw [show strVs (L.set k t) = (strVs L).set k (.string ⟨t.toArray⟩) by unfold strVs; rw [List.map_set], List.length_set]
  exact this.1
theorem own_cell {w : World} {B g cap : Nat} {L : List Line} {n : Nat} (hn : L.length = n) (h : OwnStrs w B (.slice (some ⟨g, 0, none⟩) n cap) L) {k : Nat} (hk : k < n) :
    (∃ u, w.cell? ⟨g, k, none⟩ = some u) ∧ w.frozen? ⟨g, k, none⟩ = false := by
  subst hn
  refine ⟨?_, World.ownsRow.frozenAt h k⟩
  have hk' : k < (strVs L).length := by simpa [strVs] using hk
  exact ⟨(strVs L)[k], by rw [World.ownsRow.cellAt h k (by omega), List.getElem?_eq_getElem hk']⟩
theorem total_mem : ∀ {l : List Line} {t : Line}, t ∈ l → t.length ≤ total l
  | a :: l, t, h => by
    rcases List.mem_cons.1 h with rfl | h
    · simp [total]
    · have := total_mem h; simp only [total]; omega
theorem muchL_false : ∀ {list : List Spl} {many n : Int} {len : Nat}, muchL many len n list = false → ∀ s ∈ list, greatS s.ins 2100 20000 = false
  | [], _, _, _, _, s, hs => by simp at hs
  | a :: r, many, n, len, h, s, hs => by
    unfold muchL at h
    split at h
    · cases h
    · rename_i hg
      rcases List.mem_cons.1 hs with rfl | hs
      · simpa using hg
      · exact muchL_false h s hs
theorem small_of {l : List Line} (h : greatS l 2100 20000 = false) : l.length ≤ 2100 ∧ ∀ t ∈ l, t.length ≤ 20000 := by
  obtain ⟨h1, h2⟩ := greatS_false h (by omega) (by omega)
  exact ⟨by omega, fun t ht => by have := total_mem ht; omega⟩

set_option maxRecDepth 100000 in
set_option maxHeartbeats 1000000 in
theorem splicesAll_any (l : List Line) (ao : Option Addr) (cap : Nat) (list : List Spl) (al : Option Addr) (cl : Nat) (w : World) (hl : SlOf IsStr w ao cap l) (hs : SplOf w al cl list) (ht : Tab10 w) :
    Calls Tryd.prog 4 #[.slice ao l.length cap, .slice al list.length cl] w fun e w' => e = .returned (.bool true) ∧ Below w.heap.size w w' := by
  have HL := Lib.hid hl
  have HS := Lib.hid hs
  have HT := Lib.hid ht
  clear hl hs ht
  cases hg : greatS l 2100 20000 with
  | true =>
    go_enter Tryd.func4, Tryd.ntmps4
    go_wp2_with fail
    refine (great_any l _ _ 2100 20000 _ HL.out (by omega) (by omega)).mono ?_
    rintro e w1 ⟨rfl, rfl⟩
    rw [hg]
    go_wp2_with fail
    go_returns
    exact ⟨rfl, Below.refl _ _⟩
  | false =>
    cases hm : muchS list 40 with
    | true =>
      go_enter Tryd.func4, Tryd.ntmps4
      go_wp2_with fail
      refine (great_any l _ _ 2100 20000 _ HL.out (by omega) (by omega)).mono ?_
      rintro e w1 ⟨rfl, rfl⟩
      rw [hg]
      go_wp2_with fail
      refine (much_any list _ _ 40 _ HS.out).mono ?_
      rintro e w1 ⟨rfl, rfl⟩
      rw [hm]
      go_wp2_with fail
      go_returns
      exact ⟨rfl, Below.refl _ _⟩
    | false =>
      have HSM := Lib.hid (small_of hg)
      have HSP := Lib.hid (fun s hs => small_of (muchL_false hm s hs))
      go_enter Tryd.func4, Tryd.ntmps4
      go_wp2_with fail
      refine (great_any l _ _ 2100 20000 _ HL.out (by omega) (by omega)).mono ?_
      rintro e w1 ⟨rfl, rfl⟩
      rw [hg]
      go_wp2_with fail
      refine (much_any list _ _ 40 _ HS.out).mono ?_
      rintro e w1 ⟨rfl, rfl⟩
      rw [hm]
      go_wp2_with fail
      refine (twin_any l _ _ _ HL.out (by have := HSM.out.1; omega)).mono ?_
      rintro e w2 ⟨g, c, rfl, hlc, htw, hb⟩
      go_wp2_with fail
      have HTW := Lib.hid htw
      have HLC := Lib.hid hlc
      have HB2 := Lib.hid hb
      have HL2 := Lib.hid (HL.out.later lasts_str hb)
      have HS2 := Lib.hid (HS.out.later hb)
      clear htw hlc hb
      refine (all_any l _ c list _ _ _ HTW.out.slOf HS2.out (by have := HSM.out.1; omega)).mono ?_
      rintro e w3 ⟨v3, rfl, ho3, hb3⟩
      have HO3 := Lib.hid ho3
      have HB3 := Lib.hid (HB2.out.trans (hb3.mono HB2.out.size))
      have HL3 := Lib.hid (HL2.out.later lasts_str hb3)
      have HS3 := Lib.hid (HS2.out.later hb3)
      have HTW3 := Lib.hid (HTW.out.later hb3)
      have HC3 := Lib.hid hb3
      clear ho3 hb3 HS2
      go_wp2_with fail
      refine (refAll_any l _ cap list _ _ _ HL3.out HS3.out (by have := HSM.out.1; omega) (fun t ht => Nat.le_trans (HSM.out.2 t ht) (by omega)) (fun s hs t ht => Nat.le_trans ((HSP.out s hs).2 t ht) (by omega)) (fun s hs => Nat.le_trans (HSP.out s hs).1 (by omega))).mono ?_
      rintro e w4 ⟨v4, rfl, ho4, hb4⟩
      have HO4 := Lib.hid ho4
      have HB4 := Lib.hid (HB3.out.trans (hb4.mono HB3.out.size))
      have HL4 := Lib.hid (HL3.out.later lasts_str hb4)
      have HTW4 := Lib.hid (HTW3.out.later hb4)
      have HO34 := Lib.hid (ownsRow_below HO3.out hb4)
      have HC4 := Lib.hid (HC3.out.trans (hb4.mono HC3.out.size))
      clear ho4 hb4 HTW3 HL3 HS3 HO3 HC3 HL4 HTW4
      generalize (allS l list).2 = E at *
      generalize (allS l list).1 = m at *
      obtain ⟨a3, c3, rfl, hg3⟩ := own_headS HO34.out
      have HG3 := Lib.hid hg3
      obtain ⟨a4, c4, rfl, hs4⟩ := OwnStrs.slOf HO4.out
      have HS4 := Lib.hid hs4
      have hs3 : SlOf IsStr w4 a3 c3 m := by
        obtain ⟨ao', cap', e, hs'⟩ := OwnStrs.slOf HO34.out
        simp only [Value.slice.injEq] at e
        obtain ⟨rfl, _, rfl⟩ := e
        exact hs'
      have HS3 := Lib.hid hs3
      clear hg3 hs4 hs3
      have hlm : m.length ≤ 9223372036854775807 := Nat.le_trans HS3.out.1 HS3.out.2.1
      have HSS := Lib.hid (sameS_self m)
      go_wp2_with fail
      refine (same_any m m _ _ _ _ _ HS3.out HS4.out).mono ?_
      rintro e w5 ⟨rfl, n, rfl⟩
      rw [HSS.out]
      have HC5 := Lib.hid (below_drewN HC4.out n)
      have HO5 := Lib.hid (show OwnStrs (w4.drewN n) w2.heap.size (.slice a3 m.length c3) m from HO34.out)
      generalize w4.drewN n = w5 at *
      go_wp2_with fail
      go_loopw [10] (fun q wr => ∃ k : Nat, q = .int .i64 k ∧ k ≤ m.length ∧ Hid (∃ L : List Line, L.length = m.length ∧ OwnStrs wr w2.heap.size (.slice a3 m.length c3) L) ∧ Hid (Below w2.heap.size w2 wr)) (fun q _ => m.length - (intOf q).toNat)
      case atStart => exact ⟨0, rfl, by omega, Lib.hid ⟨m, rfl, HO5.out⟩, HC5⟩
      case round =>
        obtain ⟨k, rfl, hk, HO, HC⟩ := hrel
        by_cases hlt : k < m.length
        · obtain ⟨g3, rfl, hg1, hg2⟩ := HG3.out (by omega)
          obtain ⟨L, hL, ho⟩ := HO.out
          obtain ⟨⟨u, hu⟩, hfz⟩ := own_cell hL ho hlt
          have HN : Hid (∃ L : List Line, L.length = m.length ∧ OwnStrs (wr.setCell ⟨g3, k, none⟩ (.string ⟨#[63]⟩)) w2.heap.size (.slice (some ⟨g3, 0, none⟩) m.length c3) L) := Lib.hid ⟨L.set k [63], by simpa using hL, own_put hL ho k [63]⟩
          have HCN := Lib.hid (HC.out.setCell (p := ⟨g3, k, none⟩) hg1 (.string ⟨#[63]⟩))
          clear ho
          go_wp2_with fail
          go_roundw
          case rel => exact ⟨k + 1, by go_num, by omega, HN, HCN⟩
          case measure => simp [intOf]; omega
        · have hkl : k = m.length := by omega
          subst hkl
          go_wp2_with fail
          have HBR := Lib.hid (HB2.out.trans (HC.out.mono HB2.out.size))
          refine (left_any _ g c l ao cap _ (HL2.out.later lasts_str HC.out) (HTW.out.later HC.out) HLC.out (by have := HSM.out.1; omega)).mono ?_
          rintro e w6 ⟨rfl, n6, rfl⟩
          have HB6 := Lib.hid (below_drewN HBR.out n6)
          generalize wr.drewN n6 = w6 at *
          go_wp2_with fail
          refine (does_any _ (HT.out.later HB6.out)).mono ?_
          rintro e w7 ⟨rfl, hb⟩
          have HB7 := Lib.hid (HB6.out.trans (hb.mono HB6.out.size)); clear hb
          go_wp2_with fail
          go_returns
          exact ⟨rfl, HB7.out⟩
end Go.Proofs.YtgcncmhaihgldaaDoor
