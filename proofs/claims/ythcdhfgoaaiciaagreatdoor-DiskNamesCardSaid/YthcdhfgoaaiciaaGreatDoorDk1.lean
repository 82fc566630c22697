/- The walks of disk.Name and the reference's Name (chapter 24). -/
import Derived.Test.YthcdhfgoaaiciaaGreatDoorFind
import Derived.Test.YthcdhfgoaaiciaaGreatDoorShelf
set_option linter.unusedVariables false
set_option linter.unusedSimpArgs false
namespace Go.Proofs.YthcdhfgoaaiciaaGreatDoor
open Go Go.Proofs Go.RowKit Go.Ink

def badC (c : UInt8) : Bool := decide (c.toNat < 33 ∨ 125 < c.toNat)
def logL : List UInt8 := [108, 111, 103]
/-- May it be a file's name? -/
def nameB (s : List UInt8) : Bool := !(s == []) && !(decide (16 < s.length)) && !(s.take 3 == logL) && !(s.any badC)
theorem any_no {l : List UInt8} (h : Hno badC l l.length) : l.any badC = false := by
  rw [List.any_eq_false]
  intro x hx
  obtain ⟨j, hj, rfl⟩ := List.mem_iff_getElem.1 hx
  have := h j _ hj (List.getElem?_eq_getElem hj)
  simp [this]
theorem any_yes {l : List UInt8} {k : Nat} {c : UInt8} (hk : l[k]? = some c) (hc : badC c = true) : l.any badC = true := List.any_eq_true.2 ⟨c, List.mem_of_getElem? hk, hc⟩
theorem take_mk (t : List UInt8) (n : Nat) : (⟨t.toArray⟩ : ByteArray).extract 0 n = ⟨(t.take n).toArray⟩ := by
  apply ByteArray.ext
  simp [ByteArray.data_extract, List.extract_toArray, List.extract_eq_take_drop]
theorem prefix_in (s : List UInt8) (w : World) (hs : s.length ≤ 100) :
    Calls Tryz.prog 24 #[.string ⟨s.toArray⟩, .string ⟨#[108, 111, 103]⟩] w fun e w' => e = .returned (.bool (s.take 3 == logL)) ∧ w' = w := by
  have HSZ := size_mk s
  have hx := take_mk s 3
  obtain ⟨x, hxx⟩ : ∃ x, s.take 3 = x := ⟨_, rfl⟩
  by_cases h3 : 3 ≤ s.length
  · have h3i : (3 : Int) ≤ (s.length : Int) := by omega
    rw [hxx] at hx ⊢
    have hb : (x == logL) = (x == [108, 111, 103]) := rfl
    have HB := Lib.hid hb
    clear hxx hb
    go_enter Tryz.func24, Tryz.ntmps24
    cases hq : (x == [108, 111, 103])
    · go_wp2_with fail
      go_returns
      exact ⟨by rw [HB.out, hq]; rfl, rfl⟩
    · go_wp2_with fail
      go_returns
      exact ⟨by rw [HB.out, hq]; rfl, rfl⟩
  · have h3i : ¬ (3 : Int) ≤ (s.length : Int) := by omega
    have hl : (s.take 3 == logL) = false := by
      rw [beq_eq_false_iff_ne]
      intro e
      have := congrArg List.length e
      simp [logL] at this
      omega
    have HB := Lib.hid hl
    clear hl hx hxx
    go_enter Tryz.func24, Tryz.ntmps24
    go_wp2_with fail
    go_returns
    exact ⟨by rw [HB.out]; rfl, rfl⟩
theorem prefix_any (s : List UInt8) (w : World) (hs : s.length ≤ 100) :
    Calls Tryz.prog 15 #[.string ⟨s.toArray⟩, .string ⟨#[108, 111, 103]⟩] w fun e w' => e = .returned (.bool (s.take 3 == logL)) ∧ w' = w := by
  have HC := Lib.hid (prefix_in s w hs)
  generalize (s.take 3 == logL) = r at *
  go_enter Tryz.func15, Tryz.ntmps15
  go_wp2_with fail
  refine HC.out.mono ?_
  rintro e w1 ⟨rfl, rfl⟩
  clear HC
  go_wp2_with fail
  go_returns
  exact ⟨rfl, rfl⟩
set_option maxHeartbeats 1000000 in
theorem name_any (s : List UInt8) (w : World) (hs : s.length ≤ 100) :
    Calls Tryz.prog 5 #[.string ⟨s.toArray⟩] w fun e w' => e = .returned (.bool (nameB s)) ∧ w' = w := by
  obtain ⟨r, hr⟩ : ∃ r, nameB s = r := ⟨_, rfl⟩
  rw [hr]
  have HR := Lib.hid hr
  have HSZ := size_mk s
  clear hr
  by_cases h0 : s = []
  · subst h0
    go_enter Tryz.func5, Tryz.ntmps5
    go_wp2_with fail
    go_returns
    exact ⟨by rw [← HR.out]; rfl, rfl⟩
  have h0b : (s == []) = false := by simpa using h0
  by_cases h16 : 16 < s.length
  · have h16i : (16 : Int) < (s.length : Int) := by omega
    have HF := Lib.hid (show nameB s = false by unfold nameB; rw [decide_eq_true h16]; simp)
    go_enter Tryz.func5, Tryz.ntmps5
    go_wp2_with fail
    go_returns
    exact ⟨by rw [← HR.out, HF.out]; rfl, rfl⟩
  have h16i : ¬ (16 : Int) < (s.length : Int) := by omega
  have HP := Lib.hid (prefix_any s w hs)
  have HN : Hid (nameB s = (!(s.take 3 == logL) && !(s.any badC))) := Lib.hid (by unfold nameB; rw [h0b, decide_eq_false h16]; rfl)
  generalize (s.take 3 == logL) = pre at *
  cases pre
  case true =>
    go_enter Tryz.func5, Tryz.ntmps5
    go_wp2_with fail
    refine HP.out.mono ?_
    rintro e w1 ⟨rfl, rfl⟩
    clear HP
    go_wp2_with fail
    go_returns
    exact ⟨by rw [← HR.out, HN.out]; rfl, rfl⟩
  case false =>
    go_enter Tryz.func5, Tryz.ntmps5
    go_wp2_with fail
    refine HP.out.mono ?_
    rintro e w1 ⟨rfl, rfl⟩
    clear HP
    go_wp2_with fail
    go_loop [17] (fun i => ∃ k : Nat, i = .int .i64 k ∧ k ≤ s.length ∧ Hid (Hno badC s k)) (fun i => s.length - (intOf i).toNat)
    case atStart => exact ⟨0, rfl, by omega, Lib.hid fun j y hj => by omega⟩
    case round =>
      obtain ⟨k, rfl, hk, HNo⟩ := hrel
      by_cases hlt : k < s.length
      · have hki : (k : Int) < (s.length : Int) := by omega
        have HK := Lib.hid (List.getElem?_eq_getElem hlt)
        have hby : ∀ h, (⟨s.toArray⟩ : ByteArray)[k]'h = s[k]'hlt := fun h => rfl
        have HB := Lib.hid (show badC (s[k]'hlt) = decide ((s[k]'hlt).toNat < 33 ∨ 125 < (s[k]'hlt).toNat) from rfl)
        generalize s[k]'hlt = c at *
        have hc : c.toNat < 256 := c.toNat_lt
        by_cases h1 : c.toNat < 33
        · have h1i : (c.toNat : Int) ≤ 32 := by omega
          have HT := Lib.hid (show badC c = true by rw [HB.out]; simp [h1])
          go_wp2_with fail
          go_ret
          exact ⟨by rw [← HR.out, HN.out, any_yes HK.out HT.out]; rfl, rfl⟩
        · have h1i : ¬ (c.toNat : Int) ≤ 32 := by omega
          by_cases h2 : 125 < c.toNat
          · have h2i : (126 : Int) ≤ (c.toNat : Int) := by omega
            have HT := Lib.hid (show badC c = true by rw [HB.out]; simp [h2])
            go_wp2_with fail
            go_ret
            exact ⟨by rw [← HR.out, HN.out, any_yes HK.out HT.out]; rfl, rfl⟩
          · have h2i : ¬ (126 : Int) ≤ (c.toNat : Int) := by omega
            have HT := Lib.hid (show badC c = false by rw [HB.out]; simp [h1, h2])
            go_wp2_with fail
            go_round
            case rel => exact ⟨k + 1, by go_num, by omega, Lib.hid (HNo.out.next HK.out HT.out)⟩
            case measure => simp [intOf]; omega
      · have hki : ¬ (k : Int) < (s.length : Int) := by omega
        obtain rfl : k = s.length := by omega
        go_wp2_with fail
        go_ret
        exact ⟨by rw [← HR.out, HN.out, any_no HNo.out]; rfl, rfl⟩
end Go.Proofs.YthcdhfgoaaiciaaGreatDoor
