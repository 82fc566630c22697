/- inkhornlaw17.SameLines. -/
import Derived.Test.YtlcjjcmfpmflcaaGreatDoorLawM
import Derived.Test.YtlcjjcmfpmflcaaGreatDoorGreat
import Derived.Test.YtlcjjcmfpmflcaaGreatDoorBase
import Derived.Deep.QuietTactic
import Derived.BigQuiet
import Derived.WalkSmall
set_option linter.unusedVariables false
set_option linter.unusedSimpArgs false
namespace Go.Proofs.YtlcjjcmfpmflcaaGreatDoor
open Go Go.Proofs Go.RowKit Go.Ink

theorem sameS_false_of {a b : List (List UInt8)} (h : a ≠ b) : sameS a b = false := by
  cases e : sameS a b with
  | false => rfl
  | true => exact absurd ((sameS_iff a b).1 e) h

set_option maxHeartbeats 1000000 in
theorem same17_any (a b : List (List UInt8)) (ao1 ao2 : Option Addr) (cap1 cap2 : Nat) (w : World) (ha : SlOf IsStr w ao1 cap1 a) (hb : SlOf IsStr w ao2 cap2 b) :
    Calls Tryz.prog 24 #[.slice ao1 a.length cap1, .slice ao2 b.length cap2] w fun e w' => e = .returned (.bool (sameS a b)) ∧ ∃ n, w' = w.drewN n := by
  have HA := Lib.hid ha
  have HB := Lib.hid hb
  have hc : a.length ≤ 9223372036854775807 := Nat.le_trans ha.1 ha.2.1
  clear ha hb
  by_cases hl : a.length = b.length
  · have HL := Lib.hid hl
    have hle : ((a.length : Int) == (b.length : Int)) = true := by rw [hl]; simp
    have hblt : a.length ≤ b.length := by omega
    rw [← hl]
    clear hl hle
    go_enter Tryz.func24, Tryz.ntmps24
    go_wp2_with fail
    go_loopw [5] (fun i wr => ∃ k : Nat, i = .int .i64 k ∧ k ≤ a.length ∧ Hid (∀ j, j < k → a[j]? = b[j]?) ∧ ∃ n, wr = w.drewN n) (fun i _ => a.length - (intOf i).toNat)
    case atStart => exact ⟨0, rfl, by omega, Lib.hid (fun j hj => by omega), 0, rfl⟩
    case round =>
      obtain ⟨k, rfl, hk, heq, n, rfl⟩ := hrel
      by_cases hlt : k < a.length
      · obtain ⟨c, hkc⟩ : ∃ c, a[k]? = some c := ⟨_, List.getElem?_eq_getElem hlt⟩
        obtain ⟨d, hkd⟩ : ∃ d, b[k]? = some d := ⟨_, List.getElem?_eq_getElem (by omega)⟩
        obtain ⟨g1, off1, u, hao1, hcell1, hu⟩ := HA.out.2.2.2 k c hkc
        obtain ⟨g2, off2, u', hao2, hcell2, hu'⟩ := HB.out.2.2.2 k d hkd
        subst hao1 hao2
        have h1 : u = .string ⟨c.toArray⟩ := hu
        have h2 : u' = .string ⟨d.toArray⟩ := hu'
        subst h1 h2
        clear hu hu'
        have HKC := Lib.hid hkc; clear hkc
        have HKD := Lib.hid hkd; clear hkd
        have hlti : (k : Int) < (a.length : Int) := by omega
        by_cases hcd : c = d
        · have hbq : (c == d) = true := by simpa using hcd
          have HCD := Lib.hid hcd; clear hcd
          go_wp2_with fail
          go_quiet (fail)
          go_wp2_with fail
          go_roundw
          case rel => exact ⟨k + 1, by go_num, by omega, Lib.hid (fun j hj => by
            by_cases e : j = k
            · subst e; rw [HKC.out, HKD.out, HCD.out]
            · exact heq.out j (by omega)), _, rfl⟩
          case measure => simp [intOf] <;> omega
        · have hbq : (c == d) = false := by simpa using hcd
          have HF := Lib.hid (show sameS a b = false from sameS_false_of (by
            rintro rfl
            have := HKC.out.symm.trans HKD.out
            injection this with this
            exact hcd this))
          clear hcd
          go_wp2_with fail
          go_quiet (fail)
          go_wp2_with fail
          go_returns
          exact ⟨by rw [HF.out]; rfl, _, World.drewN_drewN _ _ _⟩
      · have hkl : k = a.length := by omega
        subst hkl
        have HF := Lib.hid (show sameS a b = true from (sameS_iff a b).2 (List.ext_getElem? fun j => by
          rcases Nat.lt_or_ge j a.length with h | h
          · exact heq.out j h
          · rw [List.getElem?_eq_none h, List.getElem?_eq_none (by have := HL.out; omega)]))
        go_wp2_with fail
        go_returns
        exact ⟨by rw [HF.out]; rfl, _, rfl⟩
  · have HF := Lib.hid (show sameS a b = false from sameS_false_of (by rintro rfl; exact hl rfl))
    have hle : ((a.length : Int) == (b.length : Int)) = false := by rw [beq_eq_false_iff_ne]; omega
    clear hl
    go_enter Tryz.func24, Tryz.ntmps24
    go_wp2_with fail
    go_returns
    exact ⟨by rw [HF.out]; rfl, 0, rfl⟩

end Go.Proofs.YtlcjjcmfpmflcaaGreatDoor
/- inkhornlaw23.BeyondText. -/
namespace Go.Proofs.YtlcjjcmfpmflcaaGreatDoor
open Go Go.Proofs Go.RowKit Go.Ink

def SomeB (Q : Bool → Prop) (e : Ending) : Prop := ∃ b, e = .returned (.bool b) ∧ Q b
theorem SomeB.mk {Q : Bool → Prop} (b : Bool) (h : Q b) : SomeB Q (.returned (.bool b)) := ⟨b, rfl, h⟩
def fewQ (l : List (List UInt8)) (m : Int) (b : Bool) : Prop := b = false → (l.length : Int) ≤ m ∧ ∀ x ∈ l, x.length ≤ 20
def anyQ (_ : Bool) : Prop := True
set_option maxHeartbeats 1000000 in
theorem beyondText_any (l : List (List UInt8)) (ao : Option Addr) (cap : Nat) (m : Int) (w : World) (hs : SlOf IsStr w ao cap l) :
    Calls Tryz.prog 6 #[.slice ao l.length cap, .int .i64 m] w fun e w' => SomeB (fewQ l m) e ∧ w' = w := by
  have HS := Lib.hid hs
  have hc : l.length ≤ 9223372036854775807 := Nat.le_trans hs.1 hs.2.1
  clear hs
  by_cases hm : m < (l.length : Int)
  · go_enter Tryz.func6, Tryz.ntmps6
    go_wp2_with fail
    go_returns
    exact ⟨.mk true (fun h => by cases h), rfl⟩
  · have HM := Lib.hid (show (l.length : Int) ≤ m by omega)
    go_enter Tryz.func6, Tryz.ntmps6
    go_wp2_with fail
    go_loop [5] (fun i => ∃ k : Nat, i = .int .i64 (k : Int) ∧ k ≤ l.length ∧ Hid (∀ j x, j < k → l[j]? = some x → x.length ≤ 20)) (fun i => l.length - (intOf i).toNat)
    case atStart => exact ⟨0, rfl, by omega, Lib.hid (fun j x hj => by omega)⟩
    case round =>
      obtain ⟨k, rfl, hk, HK⟩ := hrel
      by_cases hlt : k < l.length
      · have hlti : (k : Int) < (l.length : Int) := by omega
        obtain ⟨c, hkc⟩ : ∃ c, l[k]? = some c := ⟨_, List.getElem?_eq_getElem hlt⟩
        obtain ⟨g1, off1, u, hao1, hcell1, hu⟩ := HS.out.2.2.2 k c hkc
        subst hao1
        have h1 : u = .string ⟨c.toArray⟩ := hu
        subst h1
        clear hu
        have HKC := Lib.hid hkc; clear hkc
        by_cases h3 : 20 < c.length
        · have h3i : (20 : Int) < (c.length : Int) := by omega
          go_wp2_with fail
          go_returns
          exact ⟨.mk true (fun h => by cases h), rfl⟩
        · have h3i : ¬ (20 : Int) < (c.length : Int) := by omega
          have H3 := Lib.hid h3
          clear h3
          go_wp2_with fail
          go_round
          case rel => exact ⟨k + 1, by go_num, by omega, Lib.hid (fun j x hj hx => by
            by_cases e : j = k
            · subst e
              rw [HKC.out] at hx
              cases hx
              exact Nat.le_of_not_lt H3.out
            · exact HK.out j x (by omega) hx)⟩
          case measure => simp [intOf] <;> omega
      · have hlti : ¬ (k : Int) < (l.length : Int) := by omega
        have hkl : k = l.length := by omega
        have HR := Lib.hid (show (l.length : Int) ≤ m ∧ ∀ x ∈ l, x.length ≤ 20 from ⟨HM.out, fun x hx => by
          obtain ⟨j, hj⟩ := List.getElem?_of_mem hx
          exact HK.out j x (by have := (List.getElem?_eq_some_iff.1 hj).1; omega) hj⟩)
        go_wp2_with fail
        go_returns
        exact ⟨.mk false (fun _ => HR.out), rfl⟩
end Go.Proofs.YtlcjjcmfpmflcaaGreatDoor
