/- The walks of the laws NumsPut and NumsGet: they answer true. -/
import Derived.Test.YtnjbnncmpdpkfaaDoorDoes02
import Derived.Test.YtnjbnncmpdpkfaaDoorNums7
namespace Go.Proofs.YtnjbnncmpdpkfaaDoor
open Go Go.Proofs Go.RowKit Go.Ink

theorem totalT_eq : ∀ l : List (List UInt8), totalT l = total l
  | [] => rfl
  | t :: l => by unfold totalT total; rw [totalT_eq l]
theorem great_sizes {l : List (List UInt8)} {m b : Int} (h : greatS l m b = false) (hm : m ≤ 1000000) (hb0 : 0 ≤ b) (hb1 : b ≤ 1000000) : (l.length : Int) ≤ m ∧ (total l : Int) ≤ b ∧ (putL l).length ≤ total l + 20 * l.length + 20 := by
  obtain ⟨h1, h2⟩ := greatS_false h (by omega) hb0
  exact ⟨h1, h2, by have := putL_le l (by rw [totalT_eq]; omega) (by omega); rw [totalT_eq] at this; exact this⟩

set_option maxRecDepth 100000 in
set_option maxHeartbeats 1000000 in
theorem numsPut_any (n : Int) (s : List UInt8) (l : List (List UInt8)) (ao : Option Addr) (cap : Nat) (w : World) (h1 : -9223372036854775808 ≤ n) (h2 : n ≤ 9223372036854775807) (hs : s.length ≤ 140737488355328) (hl : SlOf IsStr w ao cap l) (he : Env w) :
    Calls Tryd.prog 3 #[.int .i64 n, .string ⟨s.toArray⟩, .slice ao l.length cap] w fun e w' => e = .returned (.bool true) ∧ Below w.heap.size w w' := by
  have HE := Lib.hid he; clear he
  have HL := Lib.hid hl
  have hlm : l.length ≤ 9223372036854775807 := Nat.le_trans hl.1 hl.2.1
  clear hl
  by_cases hs1 : 20000 < s.length
  · go_enter Tryd.func3, Tryd.ntmps3
    go_wp2_with fail
    go_returns
    exact ⟨rfl, Below.refl _ _⟩
  have hg := great_any l ao cap 1000 20000 w HL.out (by omega) (by omega)
  cases hgr : greatS l 1000 20000 with
  | true =>
    rw [hgr] at hg
    have HG := Lib.hid hg; clear hg hgr
    go_enter Tryd.func3, Tryd.ntmps3
    go_wp2_with fail
    refine HG.out.mono ?_
    rintro e w1 ⟨rfl, rfl⟩
    go_wp2_with fail
    go_returns
    exact ⟨rfl, Below.refl _ _⟩
  | false =>
    rw [hgr] at hg
    obtain ⟨z1, z2, z3⟩ := great_sizes hgr (by omega) (by omega) (by omega)
    have HG := Lib.hid hg; clear hg hgr
    have HA := Lib.hid (fun w ht => put_any n w h1 h2 ht)
    have HB := Lib.hid (fun w => refPut_any n w h1 h2)
    have HC := Lib.hid (fun w ht => putText_any s w (by omega) ht)
    have HD := Lib.hid (fun w => refPutText_any s w (by omega))
    have HF := Lib.hid (fun ao cap w hl ht => putList_any l ao cap w hl (by omega) ht)
    have HH := Lib.hid (fun ao cap w hl => refPutList_any l ao cap w hl (by omega))
    generalize putN n = A at *
    generalize putT s = B at *
    generalize putL l = C at *
    go_enter Tryd.func3, Tryd.ntmps3
    go_wp2_with fail
    refine HG.out.mono ?_
    rintro e w1 ⟨rfl, rfl⟩
    go_wp2_with fail
    refine (twin_any l ao cap _ HL.out (by omega)).mono ?_
    rintro e w2 ⟨g, c, rfl, hgc, ht, hb⟩
    have HB2 := Lib.hid hb
    have HT2 := Lib.hid ht; clear hb ht
    go_wp2_with fail
    refine (HA.out _ (HE.out.later HB2.out).h10).mono ?_
    rintro e w3 ⟨rfl, hb⟩
    have HT3 := Lib.hid (HT2.out.later hb)
    have HB3 := Lib.hid (HB2.out.trans (hb.mono HB2.out.size)); clear hb
    go_wp2_with fail
    refine (HB.out _).mono ?_
    rintro e w4 ⟨rfl, hb⟩
    have HT4 := Lib.hid (HT3.out.later hb)
    have HB4 := Lib.hid (HB3.out.trans (hb.mono HB3.out.size)); clear hb
    go_wp2_with fail
    refine (HC.out _ (HE.out.later HB4.out).h10).mono ?_
    rintro e w5 ⟨rfl, hb⟩
    have HT5 := Lib.hid (HT4.out.later hb)
    have HB5 := Lib.hid (HB4.out.trans (hb.mono HB4.out.size)); clear hb
    go_wp2_with fail
    refine (HD.out _).mono ?_
    rintro e w6 ⟨rfl, hb⟩
    have HT6 := Lib.hid (HT5.out.later hb)
    have HB6 := Lib.hid (HB5.out.trans (hb.mono HB5.out.size)); clear hb
    go_wp2_with fail
    refine (HF.out _ _ _ HT6.out.slOf (HE.out.later HB6.out).h10).mono ?_
    rintro e w7 ⟨rfl, hb⟩
    have HT7 := Lib.hid (HT6.out.later hb)
    have HB7 := Lib.hid (HB6.out.trans (hb.mono HB6.out.size)); clear hb
    go_wp2_with fail
    refine (HH.out _ _ _ (HL.out.later lasts_str HB7.out)).mono ?_
    rintro e w8 ⟨rfl, hb⟩
    have HT8 := Lib.hid (HT7.out.later hb)
    have HB8 := Lib.hid (HB7.out.trans (hb.mono HB7.out.size)); clear hb
    go_wp2_with fail
    refine (left_any _ _ _ l _ _ _ (HL.out.later lasts_str HB8.out) HT8.out hgc (by omega)).mono ?_
    rintro e w9 ⟨rfl, k, rfl⟩
    have HB9 := Lib.hid (below_drewN HB8.out k)
    generalize w8.drewN k = w9 at *
    go_wp2_with fail
    refine (does_any _ (HE.out.later HB9.out)).mono ?_
    rintro e w10 ⟨rfl, hb⟩
    have HB10 := Lib.hid (HB9.out.trans (hb.mono HB9.out.size)); clear hb
    go_wp2_with fail
    go_returns
    exact ⟨rfl, HB10.out⟩

/-- Behind calls that make memory. -/
theorem step2 {w w1 w2 : World} (h : Below w.heap.size w w1) (hb : Below w1.heap.size w1 w2) : Below w.heap.size w w2 := h.trans (hb.mono h.size)

set_option maxRecDepth 100000 in
set_option maxHeartbeats 1000000 in
theorem numsGet_any (s : List UInt8) (i : Int) (w : World) (hs : s.length ≤ 140737488355328) (he : Env w) :
    Calls Tryd.prog 4 #[.string ⟨s.toArray⟩, .int .i64 i] w fun e w' => e = .returned (.bool true) ∧ Below w.heap.size w w' := by
  have HE := Lib.hid he; clear he
  have hsm : s.length ≤ maxLen := by unfold maxLen; omega
  have hA := fun w he => get_any s i w hsm he
  have hB := fun w => refGet_any s i w hs
  have hC := fun w he => getText_any s i w hsm he
  have hD := fun w => refGetText_any s i w hs
  clear hsm
  cases hg : getAt s i with
  | none =>
    have ht : getTAt s i = none := by unfold getTAt; rw [hg]
    simp only [hg, ht, getV, getTV] at hA hB hC hD
    have HA := Lib.hid hA; have HB := Lib.hid hB; have HC := Lib.hid hC; have HD := Lib.hid hD; clear hA hB hC hD hg ht
    go_enter Tryd.func4, Tryd.ntmps4
    go_wp2_with fail
    refine (HA.out _ HE.out).mono ?_
    rintro e w1 ⟨rfl, hb⟩
    have HB1 := Lib.hid hb; clear hb
    go_wp2_with fail
    refine (HB.out _).mono ?_
    rintro e w2 ⟨rfl, hb⟩
    have HB2 := Lib.hid (step2 HB1.out hb); clear hb
    go_wp2_with fail
    refine (HC.out _ (HE.out.later HB2.out)).mono ?_
    rintro e w3 ⟨rfl, hb⟩
    have HB3 := Lib.hid (step2 HB2.out hb); clear hb
    go_wp2_with fail
    refine (HD.out _).mono ?_
    rintro e w4 ⟨rfl, hb⟩
    have HB4 := Lib.hid (step2 HB3.out hb); clear hb
    go_wp2_with fail
    refine (does_any _ (HE.out.later HB4.out)).mono ?_
    rintro e w10 ⟨rfl, hb⟩
    have HB10 := Lib.hid (step2 HB4.out hb); clear hb
    go_wp2_with fail
    go_returns
    exact ⟨rfl, HB10.out⟩
  | some x =>
    obtain ⟨n, j⟩ := x
    simp only [hg, getV] at hA hB
    cases ht : getTAt s i with
    | none =>
      simp only [ht, getTV] at hC hD
      have HA := Lib.hid hA; have HB := Lib.hid hB; have HC := Lib.hid hC; have HD := Lib.hid hD; clear hA hB hC hD hg ht
      go_enter Tryd.func4, Tryd.ntmps4
      go_wp2_with fail
      refine (HA.out _ HE.out).mono ?_
      rintro e w1 ⟨rfl, hb⟩
      have HB1 := Lib.hid hb; clear hb
      go_wp2_with fail
      refine (HB.out _).mono ?_
      rintro e w2 ⟨rfl, hb⟩
      have HB2 := Lib.hid (step2 HB1.out hb); clear hb
      go_wp2_with fail
      refine (HC.out _ (HE.out.later HB2.out)).mono ?_
      rintro e w3 ⟨rfl, hb⟩
      have HB3 := Lib.hid (step2 HB2.out hb); clear hb
      go_wp2_with fail
      refine (HD.out _).mono ?_
      rintro e w4 ⟨rfl, hb⟩
      have HB4 := Lib.hid (step2 HB3.out hb); clear hb
      go_wp2_with fail
      refine (does_any _ (HE.out.later HB4.out)).mono ?_
      rintro e w10 ⟨rfl, hb⟩
      have HB10 := Lib.hid (step2 HB4.out hb); clear hb
      go_wp2_with fail
      go_returns
      exact ⟨rfl, HB10.out⟩
    | some y =>
      obtain ⟨t, k⟩ := y
      simp only [ht, getTV] at hC hD
      have HA := Lib.hid hA; have HB := Lib.hid hB; have HC := Lib.hid hC; have HD := Lib.hid hD; clear hA hB hC hD hg ht
      go_enter Tryd.func4, Tryd.ntmps4
      go_wp2_with fail
      refine (HA.out _ HE.out).mono ?_
      rintro e w1 ⟨rfl, hb⟩
      have HB1 := Lib.hid hb; clear hb
      go_wp2_with fail
      refine (HB.out _).mono ?_
      rintro e w2 ⟨rfl, hb⟩
      have HB2 := Lib.hid (step2 HB1.out hb); clear hb
      go_wp2_with fail
      refine (HC.out _ (HE.out.later HB2.out)).mono ?_
      rintro e w3 ⟨rfl, hb⟩
      have HB3 := Lib.hid (step2 HB2.out hb); clear hb
      go_wp2_with fail
      refine (HD.out _).mono ?_
      rintro e w4 ⟨rfl, hb⟩
      have HB4 := Lib.hid (step2 HB3.out hb); clear hb
      go_wp2_with fail
      refine (does_any _ (HE.out.later HB4.out)).mono ?_
      rintro e w10 ⟨rfl, hb⟩
      have HB10 := Lib.hid (step2 HB4.out hb); clear hb
      go_wp2_with fail
      go_returns
      exact ⟨rfl, HB10.out⟩
end Go.Proofs.YtnjbnncmpdpkfaaDoor
