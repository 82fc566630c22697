/- The walks of the law's beyond: BeyondText, Heavy at no pattern. -/
import Derived.Test.YtopbpmcanhbklaaGreatDoorMv10
import Derived.Test.YtopbpmcanhbklaaGreatDoorFind
set_option linter.unusedVariables false
set_option linter.unusedSimpArgs false
namespace Go.Proofs.YtopbpmcanhbklaaGreatDoor
open Go Go.Proofs Go.RowKit Go.Ink Go.Sort

/-- Are lines more than is looked at? -/
def beyondT (ls : List (List UInt8)) (many : Int) : Bool := decide (many < ls.length) || ls.any (fun l => decide (20 < l.length))
set_option maxRecDepth 100000 in
set_option maxHeartbeats 1000000 in
theorem beyondText_any {w : World} {ls : List (List UInt8)} {ao : Option Addr} {cap : Nat} (h : SlOf IsStr w ao cap ls) (many : Int) :
    Calls Tryz.prog 7 #[.slice ao ls.length cap, .int .i64 many] w fun e w' => e = .returned (.bool (beyondT ls many)) ∧ w' = w := by
  have hlen : ls.length ≤ 9223372036854775807 := Nat.le_trans h.1 h.2.1
  have HS := Lib.hid h
  clear h
  by_cases hm : many < (ls.length : Int)
  · have HR := Lib.hid (show beyondT ls many = true by unfold beyondT; rw [decide_eq_true hm]; rfl)
    go_enter Tryz.func7, Tryz.ntmps7
    go_wp2_with fail
    go_returns
    exact ⟨by rw [HR.out]; rfl, rfl⟩
  · have HR := Lib.hid (show beyondT ls many = ls.any (fun l => decide (20 < l.length)) by unfold beyondT; rw [decide_eq_false hm]; rfl)
    go_enter Tryz.func7, Tryz.ntmps7
    go_wp2_with fail
    go_loop [5] (fun i => ∃ k : Nat, i = .int .i64 k ∧ k ≤ ls.length ∧ Hno (fun l : List UInt8 => decide (20 < l.length)) ls k) (fun i => ls.length - (intOf i).toNat)
    case atStart => exact ⟨0, rfl, by omega, fun j y hj => by omega⟩
    case round =>
      obtain ⟨k, rfl, hk, hno⟩ := hrel
      have HNo := Lib.hid hno; clear hno
      by_cases hlt : k < ls.length
      · obtain ⟨c, hkc⟩ : ∃ c, ls[k]? = some c := ⟨_, List.getElem?_eq_getElem hlt⟩
        obtain ⟨b', off, u, rfl, hcell, hu⟩ := HS.out.2.2.2 k c hkc
        have hu' : u = .string ⟨c.toArray⟩ := hu
        subst hu'
        have HK := Lib.hid hkc; clear hkc hu
        have HSZ := size_mk c
        have hki : (k : Int) < (ls.length : Int) := by omega
        by_cases h20 : 20 < c.length
        · have H20 := Lib.hid (decide_eq_true h20)
          have h20i : (20 : Int) < (c.length : Int) := by omega
          go_wp2_with fail
          go_returns
          refine ⟨?_, rfl⟩
          rw [HR.out, List.any_eq_true.2 ⟨c, List.mem_of_getElem? HK.out, H20.out⟩]
          rfl
        · have H20 := Lib.hid (decide_eq_false h20)
          have h20i : ¬ (20 : Int) < (c.length : Int) := by omega
          go_wp2_with fail
          go_round
          case rel => exact ⟨k + 1, by go_num, by omega, HNo.out.next HK.out H20.out⟩
          case measure => simp [intOf] <;> omega
      · have hki : ¬ (k : Int) < (ls.length : Int) := by omega
        go_wp2_with fail
        go_returns
        refine ⟨?_, rfl⟩
        have hany : ls.any (fun l => decide (20 < l.length)) = false := by
          rw [List.any_eq_false]
          intro l hl
          obtain ⟨j, hj⟩ := List.getElem?_of_mem hl
          have := HNo.out j l (by have := (List.getElem?_eq_some_iff.1 hj).1; omega) hj
          simpa using this
        rw [HR.out, hany]
        rfl
end Go.Proofs.YtopbpmcanhbklaaGreatDoor
