/- Are lines more than is looked at? (law 17's) -/
import Derived.Test.YtlcjjcmfpmflcaaGreatDoorLawM
import Derived.Test.YtlcjjcmfpmflcaaGreatDoorProg
import Derived.Test.YtlcjjcmfpmflcaaGreatDoorBase
import Derived.WalkSmall
set_option linter.unusedVariables false
set_option linter.unusedSimpArgs false
namespace Go.Proofs.YtlcjjcmfpmflcaaGreatDoor
open Go Go.Proofs Go.RowKit Go.Ink

/-- Some answer, of which this is known. -/
def SomeB (Q : Bool → Prop) (e : Ending) : Prop := ∃ b, e = .returned (.bool b) ∧ Q b
theorem SomeB.mk {Q : Bool → Prop} (b : Bool) (h : Q b) : SomeB Q (.returned (.bool b)) := ⟨b, rfl, h⟩
def fewQ (l : List (List UInt8)) (m : Int) (b : Bool) : Prop := b = false → (l.length : Int) ≤ m ∧ ∀ x ∈ l, x.length ≤ 300
def anyQ (_ : Bool) : Prop := True
set_option maxHeartbeats 1000000 in
theorem beyondLines_any (l : List (List UInt8)) (ao : Option Addr) (cap : Nat) (m : Int) (w : World) (hs : SlOf IsStr w ao cap l) :
    Calls Tryz.prog 21 #[.slice ao l.length cap, .int .i64 m] w fun e w' => SomeB (fewQ l m) e ∧ w' = w := by
  have HS := Lib.hid hs
  have hc : l.length ≤ 9223372036854775807 := Nat.le_trans hs.1 hs.2.1
  clear hs
  by_cases hm : m < (l.length : Int)
  · go_enter Tryz.func21, Tryz.ntmps21
    go_wp2_with fail
    go_returns
    exact ⟨.mk true (fun h => by cases h), rfl⟩
  · have HM := Lib.hid (show (l.length : Int) ≤ m by omega)
    go_enter Tryz.func21, Tryz.ntmps21
    go_wp2_with fail
    go_loop [5] (fun i => ∃ k : Nat, i = .int .i64 (k : Int) ∧ k ≤ l.length ∧ Hid (∀ j x, j < k → l[j]? = some x → x.length ≤ 300)) (fun i => l.length - (intOf i).toNat)
    case atStart => exact ⟨0, rfl, by omega, Lib.hid (fun j x hj => by omega)⟩
    case round =>
      obtain ⟨k, rfl, hk, HK⟩ := hrel
      by_cases hlt : k < l.length
      · have hlti : (k : Int) < (l.length : Int) := by omega
        obtain ⟨c, hkc⟩ : ∃ c, l[k]? = some c := ⟨_, List.getElem?_eq_getElem hlt⟩
        obtain ⟨g1, off1, u, hao1, hcell1, hu⟩ := HS.out.2.2.2 k c hkc
        subst hao1
        have h1 : u = .string ⟨c.toArray⟩ := hu
        subst h1
        clear hu
        have HKC := Lib.hid hkc; clear hkc
        by_cases h3 : 300 < c.length
        · have h3i : (300 : Int) < (c.length : Int) := by omega
          go_wp2_with fail
          go_returns
          exact ⟨.mk true (fun h => by cases h), rfl⟩
        · have h3i : ¬ (300 : Int) < (c.length : Int) := by omega
          have H3 := Lib.hid h3
          clear h3
          go_wp2_with fail
          go_round
          case rel => exact ⟨k + 1, by go_num, by omega, Lib.hid (fun j x hj hx => by
            by_cases e : j = k
            · subst e
              rw [HKC.out] at hx
              cases hx
              exact Nat.le_of_not_lt H3.out
            · exact HK.out j x (by omega) hx)⟩
          case measure => simp [intOf] <;> omega
      · have hlti : ¬ (k : Int) < (l.length : Int) := by omega
        have hkl : k = l.length := by omega
        have HR := Lib.hid (show (l.length : Int) ≤ m ∧ ∀ x ∈ l, x.length ≤ 300 from ⟨HM.out, fun x hx => by
          obtain ⟨j, hj⟩ := List.getElem?_of_mem hx
          exact HK.out j x (by have := (List.getElem?_eq_some_iff.1 hj).1; omega) hj⟩)
        go_wp2_with fail
        go_returns
        exact ⟨.mk false (fun _ => HR.out), rfl⟩
end Go.Proofs.YtlcjjcmfpmflcaaGreatDoor
