/- The walks of the laws NumsList and NumsBack: they answer true. -/
import Derived.Test.YtnjbnncmpdpkfaaDoorNumsPut
namespace Go.Proofs.YtnjbnncmpdpkfaaDoor
open Go Go.Proofs Go.RowKit Go.Ink

/-- At the head of NumsList's loop: the first list's memory holds some texts, the second one's its own still. -/
structure OverAt (w w2 wr : World) (v1 v2 : Value) (l : List (List UInt8)) : Prop where
  o1 : ∃ L : List (List UInt8), L.length = l.length ∧ OwnStrs wr w.heap.size v1 L
  o2 : OwnStrs wr w2.heap.size v2 l
  b : Below w.heap.size w wr
theorem strVs_set (l : List (List UInt8)) (k : Nat) (t : List UInt8) : strVs (l.set k t) = (strVs l).set k (.string ⟨t.toArray⟩) := by
  unfold strVs; rw [List.map_set]
theorem OwnStrs.stored {w : World} {B g cap : Nat} {l : List (List UInt8)} {n : Nat} (hn : l.length = n) (h : OwnStrs w B (.slice (some ⟨g, 0, none⟩) n cap) l) (k : Nat) (t : List UInt8) :
    OwnStrs (w.setCell ⟨g, k, none⟩ (.string ⟨t.toArray⟩)) B (.slice (some ⟨g, 0, none⟩) n cap) (l.set k t) := by
  subst hn
  have := World.ownsRow.stored h k (.string ⟨t.toArray⟩)
  unfold OwnStrs
  rw [strVs_set, List.length_set]
  exact this.1
theorem own_head {w : World} {B : Nat} {v : Value} {l : List (List UInt8)} (h : OwnStrs w B v l) : ∃ ao cap, v = .slice ao l.length cap ∧ (0 < l.length → ∃ g, ao = some ⟨g, 0, none⟩ ∧ B ≤ g ∧ g < w.heap.size) := by
  rcases h.2 with ⟨rfl, h0⟩ | ⟨g, cap, cur, rfl, hg, hh, _⟩
  · exact ⟨_, _, by rw [h0], fun h => by omega⟩
  · exact ⟨_, _, rfl, fun _ => ⟨g, rfl, hg, (Array.getElem?_eq_some_iff.1 hh).1⟩⟩
theorem OverAt.next {w w2 wr : World} {g cap n : Nat} {v2 : Value} {l : List (List UInt8)} (h : OverAt w w2 wr (.slice (some ⟨g, 0, none⟩) n cap) v2 l) (hn : l.length = n) (hg0 : w.heap.size ≤ g) (hg : g < w2.heap.size) (k : Nat) :
    OverAt w w2 (wr.setCell ⟨g, k, none⟩ (.string ⟨#[63]⟩)) (.slice (some ⟨g, 0, none⟩) n cap) v2 l := by
  obtain ⟨⟨L, hL, ho⟩, h2, hb⟩ := h
  exact ⟨⟨L.set k [63], by simpa using hL, ho.stored (by omega) k [63]⟩, ownsRow_setCell_below h2 hg _, hb.setCell hg0 _⟩
theorem OverAt.cell {w w2 wr : World} {g cap n : Nat} {v2 : Value} {l : List (List UInt8)} (h : OverAt w w2 wr (.slice (some ⟨g, 0, none⟩) n cap) v2 l) (hn : l.length = n) {k : Nat} (hk : k < n) :
    (∃ u, wr.cell? ⟨g, k, none⟩ = some u) ∧ wr.frozen? ⟨g, k, none⟩ = false := by
  obtain ⟨⟨L, hL, ho⟩, _, _⟩ := h
  have hLn : L.length = n := by omega
  subst hLn
  refine ⟨?_, World.ownsRow.frozenAt ho k⟩
  have hk' : k < (strVs L).length := by simpa [strVs] using hk
  exact ⟨(strVs L)[k], by rw [World.ownsRow.cellAt ho k (by omega), List.getElem?_eq_getElem hk']⟩

set_option maxRecDepth 100000 in
set_option maxHeartbeats 1000000 in
theorem numsList_any (s : List UInt8) (i : Int) (w : World) (hs : s.length ≤ 140737488355328) (he : Env w) :
    Calls Tryd.prog 5 #[.string ⟨s.toArray⟩, .int .i64 i] w fun e w' => e = .returned (.bool true) ∧ Below w.heap.size w w' := by
  have HE := Lib.hid he; clear he
  by_cases hs1 : 5000 < s.length
  · go_enter Tryd.func5, Tryd.ntmps5
    go_wp2_with fail
    go_returns
    exact ⟨rfl, Below.refl _ _⟩
  have HA := Lib.hid (fun w he => getList_any s i w (by omega) he)
  have HB := Lib.hid (fun w => refGetList_any s i w (by omega))
  unfold ListPost at HA HB
  generalize (Option.map (fun x => x.2) (getLAt s i)).getD 0 = nx at *
  generalize (getLAt s i).isSome = ok at *
  generalize (Option.map (fun x => x.1) (getLAt s i)).getD [] = l at *
  have HSS := Lib.hid (sameS_self l)
  go_enter Tryd.func5, Tryd.ntmps5
  go_wp2_with fail
  refine (HA.out _ HE.out).mono ?_
  rintro e w2 ⟨v1, rfl, ho, hb⟩
  obtain ⟨ao, cap, rfl, hg⟩ := own_head ho
  have HG := Lib.hid hg
  have HB2 := Lib.hid hb
  have HO2 := Lib.hid ho; clear hb ho hg
  go_wp2_with fail
  refine (HB.out _).mono ?_
  rintro e w3 ⟨v2, rfl, ho, hb⟩
  have HB3 := Lib.hid (step2 HB2.out hb)
  have HOV := Lib.hid (show OverAt w w2 w3 (.slice ao l.length cap) v2 l from ⟨⟨l, rfl, HO2.out.later hb⟩, ho, step2 HB2.out hb⟩)
  obtain ⟨ao2, cap2, rfl, hs2⟩ := ho.slOf
  have HS2 := Lib.hid hs2
  have HS1 : Hid (SlOf IsStr w3 ao cap l) := Lib.hid (by
    obtain ⟨ao', cap', e, hs'⟩ := (HO2.out.later hb).slOf
    simp only [Value.slice.injEq] at e
    obtain ⟨rfl, _, rfl⟩ := e
    exact hs')
  clear hb ho hs2
  have hlm : l.length ≤ 9223372036854775807 := Nat.le_trans HS1.out.1 HS1.out.2.1
  go_wp2_with fail
  refine (same_any l l _ _ _ _ _ HS1.out HS2.out).mono ?_
  rintro e w4 ⟨rfl, n, rfl⟩
  rw [HSS.out]
  have HOV4 := Lib.hid (show OverAt w w2 (w3.drewN n) (.slice ao l.length cap) (.slice ao2 l.length cap2) l from ⟨HOV.out.o1, HOV.out.o2, below_drewN HOV.out.b n⟩)
  generalize w3.drewN n = w4 at *
  go_wp2_with fail
  go_loopw [11] (fun c wr => ∃ k : Nat, c = .int .i64 k ∧ k ≤ l.length ∧ Hid (OverAt w w2 wr (.slice ao l.length cap) (.slice ao2 l.length cap2) l)) (fun c _ => l.length - (intOf c).toNat)
  case atStart => exact ⟨0, rfl, by omega, HOV4⟩
  case round =>
    obtain ⟨k, rfl, hk, HO⟩ := hrel
    by_cases hlt : k < l.length
    · obtain ⟨g, rfl, hg1, hg2⟩ := HG.out (by omega)
      obtain ⟨⟨u, hu⟩, hfz⟩ := HO.out.cell rfl hlt
      have HN := Lib.hid (HO.out.next rfl hg1 hg2 k)
      go_wp2_with fail
      go_roundw
      case rel => exact ⟨k + 1, by go_num, by omega, HN⟩
      case measure => simp [intOf]; omega
    · have hkl : k = l.length := by omega
      subst hkl
      go_wp2_with fail
      refine (HA.out _ (HE.out.later HO.out.b)).mono ?_
      rintro e w5 ⟨v3, rfl, ho, hb⟩
      obtain ⟨ao3, cap3, rfl, hs3⟩ := ho.slOf
      have HS3 := Lib.hid hs3
      have HS2' : Hid (SlOf IsStr w5 ao2 cap2 l) := Lib.hid (by
        obtain ⟨ao', cap', e, hs'⟩ := (HO.out.o2.later hb).slOf
        simp only [Value.slice.injEq] at e
        obtain ⟨rfl, _, rfl⟩ := e
        exact hs')
      have HB5 := Lib.hid (step2 HO.out.b hb)
      clear hb ho hs3
      go_wp2_with fail
      refine (same_any l l _ _ _ _ _ HS3.out HS2'.out).mono ?_
      rintro e w6 ⟨rfl, n, rfl⟩
      rw [HSS.out]
      have HB6 := Lib.hid (below_drewN HB5.out n)
      generalize w5.drewN n = w6 at *
      go_wp2_with fail
      refine (does_any _ (HE.out.later HB6.out)).mono ?_
      rintro e w7 ⟨rfl, hb⟩
      have HB7 := Lib.hid (step2 HB6.out hb); clear hb
      go_wp2_with fail
      go_returns
      exact ⟨rfl, HB7.out⟩
end Go.Proofs.YtnjbnncmpdpkfaaDoor
