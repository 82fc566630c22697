/- The walk of EdNone (chapter 25). -/
import Derived.Test.YthabjdjbcfkjhaaGreatDoorEn3
set_option linter.unusedVariables false
set_option linter.unusedSimpArgs false
namespace Go.Proofs.YthabjdjbcfkjhaaGreatDoor
open Go Go.Proofs Go.Ev Go.RowKit Go.Ink

theorem bad_refused {s : List UInt8} {c : UInt8} (h0 : s[0]? = some c) (h : 16 < s.length ∨ c.toNat ≤ 32 ∨ 125 < c.toNat) : refB s = true := by
  have hne : (s == []) = false := by
    rw [beq_eq_false_iff_ne]
    rintro rfl
    simp at h0
  have hf : nameB s = false := by
    unfold nameB
    by_cases h16 : 16 < s.length
    · rw [decide_eq_true h16]; simp
    · rw [any_yes h0 (show badC c = true by unfold badC; rw [decide_eq_true_eq]; omega)]
      simp
  unfold refB
  rw [hne, hf]
  rfl
theorem first_at {s : List UInt8} {c : UInt8} (h : s[0]? = some c) : ∀ h, (⟨s.toArray⟩ : ByteArray)[0]'h = c := fun _ => by
  obtain ⟨hx, rfl⟩ := List.getElem?_eq_some_iff.1 h
  rfl
set_option maxRecDepth 100000 in
set_option maxHeartbeats 2000000 in
theorem edNone_law (line name : List UInt8) (w : World) (hw : 6 ≤ w.heap.size ∧ TabW w) :
    Calls Tryz.prog 4 #[.string ⟨line.toArray⟩, .string ⟨name.toArray⟩] w fun r w' => r = .returned (.bool true) ∧ Below w.heap.size w w' := by
  have HSL := size_mk line
  have HSN := size_mk name
  have HW := Lib.hid hw
  clear hw
  by_cases hl : 100 < line.length
  · have hli : (100 : Int) < (line.length : Int) := by omega
    go_enter Tryz.func4, Tryz.ntmps4
    go_wp2_with fail
    refine (lives_any HW.out).mono ?_
    rintro r w1 ⟨rfl, hb⟩
    go_wp2_with fail
    go_returns
    exact ⟨rfl, hb⟩
  have hli : ¬ (100 : Int) < (line.length : Int) := by omega
  by_cases hn : 100 < name.length
  · have hni : (100 : Int) < (name.length : Int) := by omega
    go_enter Tryz.func4, Tryz.ntmps4
    go_wp2_with fail
    refine (lives_any HW.out).mono ?_
    rintro r w1 ⟨rfl, hb⟩
    go_wp2_with fail
    go_returns
    exact ⟨rfl, hb⟩
  have hni : ¬ (100 : Int) < (name.length : Int) := by omega
  go_enter Tryz.func4, Tryz.ntmps4
  go_wp2_with fail
  go_loopw [5, 6] (fun v i wr => ∃ k : Nat, i = .int .i64 (k : Int) ∧ k ≤ 2 ∧ Hid (NoEd wr v) ∧ Hid (Below w.heap.size w wr)) (fun _ i _ => 2 - (intOf i).toNat)
  case atStart => exact ⟨0, rfl, by omega, Lib.hid (.inl rfl), Lib.hid (Below.refl _ _)⟩
  case round =>
    obtain ⟨k, rfl, hk, HNO, HB⟩ := hrel
    by_cases hlt : k < 2
    · have hki : (k : Int) < 2 := by omega
      have hk0 : (0 : Int) ≤ (k : Int) := by omega
      go_wp2_with fail
      refine (noStep_any HNO.out _).mono ?_
      rintro e w1 ⟨rfl, rfl⟩
      go_wp2_with fail
      refine (noCore_any HNO.out).mono ?_
      rintro e w1 ⟨rfl, rfl⟩
      go_wp2_with fail
      refine (noName_any HNO.out).mono ?_
      rintro e w1 ⟨rfl, rfl⟩
      go_wp2_with fail
      refine (noEnded_any HNO.out).mono ?_
      rintro e w1 ⟨rfl, rfl⟩
      go_wp2_with fail
      refine (noText_any HNO.out).mono ?_
      rintro e w1 ⟨rfl, rfl⟩
      go_wp2_with fail
      refine (noTurned_any HNO.out).mono ?_
      rintro e w1 ⟨rfl, rfl⟩
      go_wp2_with fail
      go_round
      case rel => exact ⟨k + 1, by go_num, by omega, Lib.hid (.inr ⟨_, rfl, by rw [Lib.cell_of_heap (heap_alloc_new _ _)]; rfl⟩), Lib.hid (HB.out.alloc HB.out.size _)⟩
      case measure => simp [intOf]; omega
    have hki : ¬ (k : Int) < 2 := by omega
    clear HNO
    go_wp2_with fail
    refine (filesNew_any _).mono ?_
    rintro e w1 ⟨rfl, hb1⟩
    have HB1 := Lib.hid (HB.out.trans (hb1.mono HB.out.size))
    clear hb1 HB
    go_wp2_with fail
    refine (coreNew_any (Nat.le_trans HW.out.1 HB1.out.size)).mono ?_
    rintro e w2 ⟨a, q, rfl, hc, hb2⟩
    have HC := Lib.hid hc
    have HB2 := Lib.hid (HB1.out.trans (hb2.mono HB1.out.size))
    clear hb2 hc HB1
    go_wp2_with fail
    refine (edNew_noC _ _ _ _).mono ?_
    rintro e w3 ⟨rfl, rfl⟩
    go_wp2_with fail
    refine (edNew_noF _ _ HC.out).mono ?_
    rintro e w3 ⟨rfl, rfl⟩
    go_wp2_with fail
    refine (edNew_any name (by omega) true HC.out).mono ?_
    rintro e w3 ⟨he, hb3⟩
    have HB3 := Lib.hid (HB2.out.trans (hb3.mono HB2.out.size))
    clear hb3 HB2
    have HV := Lib.hid (lives_any (w := w3) ⟨Nat.le_trans HW.out.1 HB3.out.size, HW.out.2.later HB3.out⟩)
    by_cases hs : name = []
    · subst hs
      rw [show refB [] = false from rfl] at he
      simp only [Bool.false_eq_true, if_false] at he
      subst he
      go_wp2_with fail
      refine HV.out.mono ?_
      rintro r w4 ⟨rfl, hb4⟩
      have HB4 := Lib.hid (HB3.out.trans (hb4.mono HB3.out.size))
      clear hb4
      go_wp2_with fail
      go_returns
      exact ⟨rfl, HB4.out⟩
    obtain ⟨c0, h0⟩ : ∃ c, name[0]? = some c := by
      cases name with
      | nil => exact absurd rfl hs
      | cons c r => exact ⟨c, rfl⟩
    have hne : (name == []) = false := by simpa using hs
    have hpos : (0 : Int) < (name.length : Int) := by
      have := (List.getElem?_eq_some_iff.1 h0).1
      omega
    have hby := first_at h0
    have HBAD := Lib.hid (bad_refused h0)
    clear hs h0
    by_cases h16 : 16 < name.length
    · have h16i : (16 : Int) < (name.length : Int) := by omega
      rw [HBAD.out (.inl h16)] at he
      simp only [if_true] at he
      subst he
      go_wp2_with fail
      refine HV.out.mono ?_
      rintro r w4 ⟨rfl, hb4⟩
      have HB4 := Lib.hid (HB3.out.trans (hb4.mono HB3.out.size))
      clear hb4
      go_wp2_with fail
      go_returns
      exact ⟨rfl, HB4.out⟩
    have h16i : ¬ (16 : Int) < (name.length : Int) := by omega
    by_cases h32 : c0.toNat ≤ 32
    · have h32i : (c0.toNat : Int) ≤ 32 := by omega
      rw [HBAD.out (.inr (.inl h32))] at he
      simp only [if_true] at he
      subst he
      go_wp2_with fail
      refine HV.out.mono ?_
      rintro r w4 ⟨rfl, hb4⟩
      have HB4 := Lib.hid (HB3.out.trans (hb4.mono HB3.out.size))
      clear hb4
      go_wp2_with fail
      go_returns
      exact ⟨rfl, HB4.out⟩
    have h32i : ¬ (c0.toNat : Int) ≤ 32 := by omega
    by_cases h125 : 125 < c0.toNat
    · have h125i : (125 : Int) < (c0.toNat : Int) := by omega
      rw [HBAD.out (.inr (.inr h125))] at he
      simp only [if_true] at he
      subst he
      go_wp2_with fail
      refine HV.out.mono ?_
      rintro r w4 ⟨rfl, hb4⟩
      have HB4 := Lib.hid (HB3.out.trans (hb4.mono HB3.out.size))
      clear hb4
      go_wp2_with fail
      go_returns
      exact ⟨rfl, HB4.out⟩
    have h125i : ¬ (125 : Int) < (c0.toNat : Int) := by omega
    clear HBAD
    generalize refB name = rf at *
    cases rf
    · simp only [Bool.false_eq_true, if_false] at he
      subst he
      go_wp2_with fail
      refine HV.out.mono ?_
      rintro r w4 ⟨rfl, hb4⟩
      have HB4 := Lib.hid (HB3.out.trans (hb4.mono HB3.out.size))
      clear hb4
      go_wp2_with fail
      go_returns
      exact ⟨rfl, HB4.out⟩
    · simp only [if_true] at he
      subst he
      go_wp2_with fail
      refine HV.out.mono ?_
      rintro r w4 ⟨rfl, hb4⟩
      have HB4 := Lib.hid (HB3.out.trans (hb4.mono HB3.out.size))
      clear hb4
      go_wp2_with fail
      go_returns
      exact ⟨rfl, HB4.out⟩
end Go.Proofs.YthabjdjbcfkjhaaGreatDoor
