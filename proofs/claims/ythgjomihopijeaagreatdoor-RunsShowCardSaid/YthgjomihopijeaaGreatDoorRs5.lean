/- Lines shifted, by the program and by the reference (chapter 23). -/
import Derived.Test.YthgjomihopijeaaGreatDoorRs1
import Derived.Test.YthgjomihopijeaaGreatDoorBase
import Derived.Test.YthgjomihopijeaaGreatDoorProg
import Derived.WalkSmall
namespace Go.Proofs.YthgjomihopijeaaGreatDoor
open Go Go.Proofs Go.RowKit Go.Ink

theorem rest_ext (t : List UInt8) (i : Nat) : (⟨t.toArray⟩ : ByteArray).extract i t.length = ⟨(t.drop i).toArray⟩ := by
  apply ByteArray.ext
  simp [ByteArray.data_extract, List.extract_toArray, List.extract_eq_take_drop]
  exact List.take_of_length_le (by simp)
theorem head_ext (c : UInt8) (r : List UInt8) : (⟨(c :: r).toArray⟩ : ByteArray).extract 0 1 = ⟨#[c]⟩ := by
  apply ByteArray.ext
  simp [ByteArray.data_extract, List.extract_toArray, List.extract_eq_take_drop]
theorem blanks_next {l : List UInt8} {k : Nat} (hk : k < 8) (h : l[k]? = some 32) : blanks (8 - k) (l.drop k) = blanks (8 - (k + 1)) (l.drop (k + 1)) + 1 := by
  obtain ⟨hl, hx⟩ := List.getElem?_eq_some_iff.1 h
  rw [List.drop_eq_getElem_cons hl, hx, show 8 - k = (8 - (k + 1)) + 1 by omega]
  rfl
theorem blanks_end {l : List UInt8} {k : Nat} (h : l.length ≤ k) : blanks (8 - k) (l.drop k) = 0 := by
  rw [List.drop_eq_nil_of_le h]
  cases 8 - k <;> rfl
theorem blanks_most {l : List UInt8} {k : Nat} (h : 8 ≤ k) : blanks (8 - k) (l.drop k) = 0 := by
  rw [show 8 - k = 0 by omega]
  rfl
theorem blanks_other {l : List UInt8} {k : Nat} {c : UInt8} (h : l[k]? = some c) (hc : c ≠ 32) : blanks (8 - k) (l.drop k) = 0 := by
  obtain ⟨hl, hx⟩ := List.getElem?_eq_some_iff.1 h
  rw [List.drop_eq_getElem_cons hl, hx]
  cases 8 - k with
  | zero => rfl
  | succ n => show (if c = 32 then _ else 0) = 0; rw [if_neg hc]
def shiftL (l : List UInt8) : List UInt8 := match l with
  | [] => []
  | c :: r => if c = 9 then r else (c :: r).drop (blanks 8 (c :: r))
theorem at_byte {l : List UInt8} {k : Nat} {c : UInt8} (h : l[k]? = some c) : ∀ h, (⟨l.toArray⟩ : ByteArray)[k]'h = c := fun _ => by
  obtain ⟨hx, rfl⟩ := List.getElem?_eq_some_iff.1 h
  rfl
theorem slHas_nil (w : World) : Calls Tryz.prog 18 #[.string ⟨#[]⟩, .string ⟨#[9]⟩] w fun e w' => e = .returned (.bool false) ∧ w' = w := by
  go_enter Tryz.func18, Tryz.ntmps18
  go_wp2_with fail
  go_returns
  exact ⟨rfl, rfl⟩
theorem slHas_cons (c : UInt8) (r : List UInt8) (w : World) : Calls Tryz.prog 18 #[.string ⟨(c :: r).toArray⟩, .string ⟨#[9]⟩] w fun e w' => e = .returned (.bool (decide (c = 9))) ∧ w' = w := by
  have HSZ := size_mk (c :: r)
  have he := head_ext c r
  have h1 : (1 : Int) ≤ ((c :: r).length : Int) := by simp; omega
  have h0 : ¬ ((c :: r).length : Int) < 1 := by omega
  generalize hl : c :: r = l at *
  clear hl
  by_cases hc : c = 9
  · subst hc
    go_enter Tryz.func18, Tryz.ntmps18
    go_wp2_with fail
    go_returns
    exact ⟨rfl, rfl⟩
  · have hb2 : ([c] == [(9 : UInt8)]) = false := by simpa using hc
    rw [decide_eq_false hc]
    clear hc
    go_enter Tryz.func18, Tryz.ntmps18
    go_wp2_with fail
    go_returns
    exact ⟨rfl, rfl⟩
theorem has_nil (w : World) : Calls Tryz.prog 14 #[.string ⟨#[]⟩, .string ⟨#[9]⟩] w fun e w' => e = .returned (.bool false) ∧ w' = w := by
  go_enter Tryz.func14, Tryz.ntmps14
  go_wp2_with fail
  refine (slHas_nil _).mono ?_
  rintro e w1 ⟨rfl, rfl⟩
  go_wp2_with fail
  go_returns
  exact ⟨rfl, rfl⟩
theorem has_cons (c : UInt8) (r : List UInt8) (w : World) : Calls Tryz.prog 14 #[.string ⟨(c :: r).toArray⟩, .string ⟨#[9]⟩] w fun e w' => e = .returned (.bool (decide (c = 9))) ∧ w' = w := by
  have HH := Lib.hid (slHas_cons c r w)
  generalize decide (c = 9) = b at *
  generalize c :: r = l at *
  go_enter Tryz.func14, Tryz.ntmps14
  go_wp2_with fail
  refine HH.out.mono ?_
  rintro e w1 ⟨rfl, rfl⟩
  go_wp2_with fail
  go_returns
  exact ⟨rfl, rfl⟩
/-! ### to the right -/
theorem shift_right (l : List UInt8) (hl : l.length ≤ 100) (w : World) : Calls Tryz.prog 7 #[.string ⟨l.toArray⟩, .bool true] w fun e w' => e = .returned (.string ⟨(if l = [] then [] else 9 :: l).toArray⟩) ∧ w' = w := by
  by_cases h0 : l = []
  · subst h0
    go_enter Tryz.func7, Tryz.ntmps7
    go_wp2_with fail
    go_returns
    exact ⟨rfl, rfl⟩
  · rw [if_neg h0]
    have hb : (l == []) = false := by simpa using h0
    have HSZ := size_mk l
    have hs : ¬ 9223372036854775807 < 1 + l.length := by omega
    have hap : (⟨#[9]⟩ : ByteArray) ++ ⟨l.toArray⟩ = ⟨(9 :: l).toArray⟩ := by apply ByteArray.ext; simp
    clear h0
    go_enter Tryz.func7, Tryz.ntmps7
    go_wp2_with fail
    go_returns
    exact ⟨rfl, rfl⟩
theorem rShift_right (l : List UInt8) (hl : l.length ≤ 100) (w : World) : Calls Tryz.prog 8 #[.string ⟨l.toArray⟩, .bool true] w fun e w' => e = .returned (.string ⟨(if l = [] then [] else 9 :: l).toArray⟩) ∧ w' = w := by
  by_cases h0 : l = []
  · subst h0
    go_enter Tryz.func8, Tryz.ntmps8
    go_wp2_with fail
    go_returns
    exact ⟨rfl, rfl⟩
  · rw [if_neg h0]
    have hb : (l == []) = false := by simpa using h0
    have HSZ := size_mk l
    have hs : ¬ 9223372036854775807 < 1 + l.length := by omega
    have hap : (⟨#[9]⟩ : ByteArray) ++ ⟨l.toArray⟩ = ⟨(9 :: l).toArray⟩ := by apply ByteArray.ext; simp
    clear h0
    go_enter Tryz.func8, Tryz.ntmps8
    go_wp2_with fail
    go_returns
    exact ⟨rfl, rfl⟩
/-! ### to the left -/
set_option maxHeartbeats 1000000 in
theorem shift_left (l : List UInt8) (hl : l.length ≤ 100) (w : World) : Calls Tryz.prog 7 #[.string ⟨l.toArray⟩, .bool false] w fun e w' => e = .returned (.string ⟨(shiftL l).toArray⟩) ∧ w' = w := by
  cases l with
  | nil =>
    go_enter Tryz.func7, Tryz.ntmps7
    go_wp2_with fail
    refine (has_nil _).mono ?_
    rintro e w1 ⟨rfl, rfl⟩
    go_wp2_with fail
    refine wp_loop_rounds 1 ?_
    rw [rounds_succ]
    go_wp2_with fail
    go_returns
    exact ⟨rfl, rfl⟩
  | cons c r =>
    have HH := Lib.hid (has_cons c r w)
    have HSZ := size_mk (c :: r)
    by_cases hc : c = 9
    · have HR := Lib.hid (show shiftL (c :: r) = r by unfold shiftL; exact if_pos hc)
      rw [decide_eq_true hc] at HH
      have h1 : (1 : Int) ≤ ((c :: r).length : Int) := by simp; omega
      have he := rest_ext (c :: r) 1
      rw [show (c :: r).drop 1 = r from rfl] at he
      rw [HR.out]
      clear hc HR
      generalize c :: r = l at *
      go_enter Tryz.func7, Tryz.ntmps7
      go_wp2_with fail
      refine HH.out.mono ?_
      rintro e w1 ⟨rfl, rfl⟩
      go_wp2_with fail
      go_returns
      exact ⟨rfl, rfl⟩
    · have HR := Lib.hid (show shiftL (c :: r) = (c :: r).drop (blanks 8 (c :: r)) by unfold shiftL; exact if_neg hc)
      rw [decide_eq_false hc] at HH
      rw [HR.out]
      clear hc HR
      generalize c :: r = l at *
      go_enter Tryz.func7, Tryz.ntmps7
      go_wp2_with fail
      refine HH.out.mono ?_
      rintro e w1 ⟨rfl, rfl⟩
      go_wp2_with fail
      go_loop [5] (fun i => ∃ k : Nat, i = .int .i64 (k : Int) ∧ k ≤ l.length ∧ k ≤ 8 ∧ Hid (blanks 8 l = k + blanks (8 - k) (l.drop k))) (fun i => 8 - (intOf i).toNat)
      case atStart => exact ⟨0, rfl, by omega, by omega, Lib.hid (by simp)⟩
      case round =>
        obtain ⟨k, rfl, hk, hk8, HB⟩ := hrel
        have hk0 : (0 : Int) ≤ (k : Int) := by omega
        have hki : (k : Int) ≤ (l.length : Int) := by omega
        have he := rest_ext l k
        by_cases hlt : k < l.length
        · have hlti : (k : Int) < (l.length : Int) := by omega
          by_cases h8 : k < 8
          · have h8i : (k : Int) < 8 := by omega
            obtain ⟨d, hkc⟩ : ∃ d, l[k]? = some d := ⟨_, List.getElem?_eq_getElem hlt⟩
            have hby := at_byte hkc
            by_cases hd : d = 32
            · subst hd
              have HN := Lib.hid (blanks_next h8 hkc)
              clear hkc he
              go_wp2_with fail
              go_round
              case rel => exact ⟨k + 1, by go_num, by omega, by omega, Lib.hid (by rw [HB.out, HN.out]; omega)⟩
              case measure => simp [intOf] <;> omega
            · have hb : ((d.toNat : Int) == 32) = false := by
                rw [beq_eq_false_iff_ne]
                intro e
                exact hd (UInt8.toNat.inj ((show d.toNat = 32 by omega).trans rfl))
              have HE := Lib.hid (show blanks 8 l = k by rw [HB.out, blanks_other hkc hd]; omega)
              clear hkc hd HB
              go_wp2_with fail
              go_returns
              exact ⟨by rw [HE.out]; rfl, rfl⟩
          · have h8i : ¬ (k : Int) < 8 := by omega
            have HE := Lib.hid (show blanks 8 l = k by rw [HB.out, blanks_most (by omega)]; omega)
            clear HB
            go_wp2_with fail
            go_returns
            exact ⟨by rw [HE.out]; rfl, rfl⟩
        · have hlti : ¬ (k : Int) < (l.length : Int) := by omega
          have HE := Lib.hid (show blanks 8 l = k by rw [HB.out, blanks_end (by omega)]; omega)
          clear HB
          go_wp2_with fail
          go_returns
          exact ⟨by rw [HE.out]; rfl, rfl⟩
set_option maxHeartbeats 1000000 in
theorem rShift_left (l : List UInt8) (hl : l.length ≤ 100) (w : World) : Calls Tryz.prog 8 #[.string ⟨l.toArray⟩, .bool false] w fun e w' => e = .returned (.string ⟨(shiftL l).toArray⟩) ∧ w' = w := by
  cases l with
  | nil =>
    go_enter Tryz.func8, Tryz.ntmps8
    go_wp2_with fail
    refine wp_loop_rounds 1 ?_
    rw [rounds_succ]
    go_wp2_with fail
    go_returns
    exact ⟨rfl, rfl⟩
  | cons c r =>
    have HSZ := size_mk (c :: r)
    have hne : (c :: r == []) = false := rfl
    have hby0 := at_byte (l := c :: r) (k := 0) rfl
    have hpos : (0 : Int) < ((c :: r).length : Int) := by rw [List.length_cons]; omega
    by_cases hc : c = 9
    · have HR := Lib.hid (show shiftL (c :: r) = r by unfold shiftL; exact if_pos hc)
      have h1 : (1 : Int) ≤ ((c :: r).length : Int) := by omega
      have he := rest_ext (c :: r) 1
      rw [show (c :: r).drop 1 = r from rfl] at he
      rw [HR.out]
      subst hc
      clear HR
      generalize 9 :: r = l at *
      go_enter Tryz.func8, Tryz.ntmps8
      go_wp2_with fail
      go_returns
      exact ⟨rfl, rfl⟩
    · have HR := Lib.hid (show shiftL (c :: r) = (c :: r).drop (blanks 8 (c :: r)) by unfold shiftL; exact if_neg hc)
      have hb9 : ((c.toNat : Int) == 9) = false := by
        rw [beq_eq_false_iff_ne]
        intro e
        exact hc (UInt8.toNat.inj ((show c.toNat = 9 by omega).trans rfl))
      rw [HR.out]
      clear hc HR
      generalize c :: r = l at *
      go_enter Tryz.func8, Tryz.ntmps8
      go_wp2_with fail
      go_loop [5] (fun i => ∃ k : Nat, i = .int .i64 (k : Int) ∧ k ≤ l.length ∧ k ≤ 8 ∧ Hid (blanks 8 l = k + blanks (8 - k) (l.drop k))) (fun i => 8 - (intOf i).toNat)
      case atStart => exact ⟨0, rfl, by omega, by omega, Lib.hid (by simp)⟩
      case round =>
        obtain ⟨k, rfl, hk, hk8, HB⟩ := hrel
        clear hby0
        have hk0 : (0 : Int) ≤ (k : Int) := by omega
        have hki : (k : Int) ≤ (l.length : Int) := by omega
        have he := rest_ext l k
        by_cases h8 : k < 8
        · have h8i : (k : Int) < 8 := by omega
          by_cases hlt : k < l.length
          · have hlti : (k : Int) < (l.length : Int) := by omega
            obtain ⟨d, hkc⟩ : ∃ d, l[k]? = some d := ⟨_, List.getElem?_eq_getElem hlt⟩
            have hby := at_byte hkc
            by_cases hd : d = 32
            · subst hd
              have HN := Lib.hid (blanks_next h8 hkc)
              clear hkc he
              go_wp2_with fail
              go_round
              case rel => exact ⟨k + 1, by go_num, by omega, by omega, Lib.hid (by rw [HB.out, HN.out]; omega)⟩
              case measure => simp [intOf] <;> omega
            · have hb : ((d.toNat : Int) == 32) = false := by
                rw [beq_eq_false_iff_ne]
                intro e
                exact hd (UInt8.toNat.inj ((show d.toNat = 32 by omega).trans rfl))
              have HE := Lib.hid (show blanks 8 l = k by rw [HB.out, blanks_other hkc hd]; omega)
              clear hkc hd HB
              go_wp2_with fail
              go_returns
              exact ⟨by rw [HE.out]; rfl, rfl⟩
          · have hlti : ¬ (k : Int) < (l.length : Int) := by omega
            have HE := Lib.hid (show blanks 8 l = k by rw [HB.out, blanks_end (by omega)]; omega)
            clear HB
            go_wp2_with fail
            go_returns
            exact ⟨by rw [HE.out]; rfl, rfl⟩
        · have h8i : ¬ (k : Int) < 8 := by omega
          have HE := Lib.hid (show blanks 8 l = k by rw [HB.out, blanks_most (by omega)]; omega)
          clear HB
          go_wp2_with fail
          go_returns
          exact ⟨by rw [HE.out]; rfl, rfl⟩
end Go.Proofs.YthgjomihopijeaaGreatDoor
