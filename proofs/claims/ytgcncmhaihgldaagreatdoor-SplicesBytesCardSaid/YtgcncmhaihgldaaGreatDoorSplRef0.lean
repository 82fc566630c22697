/- The walk of the reference's Check of splices. -/
import Derived.Test.YtgcncmhaihgldaaGreatDoorSpl4
namespace Go.Proofs.YtgcncmhaihgldaaGreatDoor
open Go Go.Proofs Go.RowKit Go.Ink

theorem refSplCheck_any (s : Spl) (ao : Option Addr) (cap : Nat) (w : World) (hs : SlOf IsStr w ao cap s.ins) (hsh : ∀ t ∈ s.ins, t.length ≤ 9223372036854775807) :
    Calls Tryz.prog 15 #[splV s ao cap] w fun e w' => e = .returned (.int .i64 (checkS s)) ∧ Below w.heap.size w w' := by
  have HAL := Lib.hid (fun o => below_alloc w o)
  have HS := Lib.hid hs; clear hs
  have HSH := Lib.hid hsh; clear hsh
  obtain ⟨pos, del, ins⟩ := s
  simp only [splV] at *
  by_cases h : pos < 0 ∨ del < 0
  · have HV := Lib.hid (show checkS ⟨pos, del, ins⟩ = 2 by unfold checkS; rw [if_pos h])
    by_cases h1 : pos < 0
    · clear h
      go_enter Tryz.func15, Tryz.ntmps15
      go_wp2_with fail
      go_returns
      exact ⟨by rw [HV.out]; rfl, HAL.out _⟩
    · have h2 : del < 0 := h.resolve_left h1
      clear h
      go_enter Tryz.func15, Tryz.ntmps15
      go_wp2_with fail
      go_returns
      exact ⟨by rw [HV.out]; rfl, HAL.out _⟩
  · have HV := Lib.hid (show checkS ⟨pos, del, ins⟩ = checkL ins by unfold checkS; rw [if_neg h])
    have h1 : ¬ pos < 0 := fun e => h (.inl e)
    have h2 : ¬ del < 0 := fun e => h (.inr e)
    clear h
    go_enter Tryz.func15, Tryz.ntmps15
    go_wp2_with fail
    refine (refCheck_any _ _ ins _ (HS.out.later lasts_str (HAL.out _)) HSH.out).mono ?_
    rintro e w1 ⟨rfl, rfl⟩
    go_wp2_with fail
    go_returns
    exact ⟨by rw [HV.out]; rfl, HAL.out _⟩
end Go.Proofs.YtgcncmhaihgldaaGreatDoor
