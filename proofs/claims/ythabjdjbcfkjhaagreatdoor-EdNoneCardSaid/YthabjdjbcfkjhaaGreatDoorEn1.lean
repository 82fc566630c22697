/- An editor that is none (nil, or without a buffer): what it answers (chapter 25). -/
import Derived.Test.YthabjdjbcfkjhaaGreatDoorBase
import Derived.Test.YthabjdjbcfkjhaaGreatDoorProg
import Derived.WalkSmall
set_option linter.unusedVariables false
set_option linter.unusedSimpArgs false
namespace Go.Proofs.YthabjdjbcfkjhaaGreatDoor
open Go Go.Proofs Go.RowKit Go.Ink

/-- A line editor that is none. -/
def NoEd (w : World) (v : Value) : Prop := v = .pointer none ∨ ∃ g, v = .pointer (some ⟨g, 0, none⟩) ∧ w.cell? ⟨g, 0, none⟩ = some (.pointer none)
theorem edNone_any {v : Value} {w : World} (h : NoEd w v) : Calls Tryz.prog 19 #[v] w fun e w' => e = .returned (.bool true) ∧ w' = w := by
  rcases h with rfl | ⟨g, rfl, hc⟩
  · go_enter Tryz.func19, Tryz.ntmps19
    go_wp2_with fail
    go_returns
    exact ⟨rfl, rfl⟩
  · go_enter Tryz.func19, Tryz.ntmps19
    go_wp2_with fail
    go_returns
    exact ⟨rfl, rfl⟩
theorem noCore_any {v : Value} {w : World} (h : NoEd w v) : Calls Tryz.prog 9 #[v] w fun e w' => e = .returned (.pointer none) ∧ w' = w := by
  have HN := Lib.hid (edNone_any h)
  clear h
  go_enter Tryz.func9, Tryz.ntmps9
  go_wp2_with fail
  refine HN.out.mono ?_
  rintro e w1 ⟨rfl, rfl⟩
  go_wp2_with fail
  go_returns
  exact ⟨rfl, rfl⟩
theorem noName_any {v : Value} {w : World} (h : NoEd w v) : Calls Tryz.prog 10 #[v] w fun e w' => e = .returned (.string ⟨#[]⟩) ∧ w' = w := by
  have HN := Lib.hid (edNone_any h)
  clear h
  go_enter Tryz.func10, Tryz.ntmps10
  go_wp2_with fail
  refine HN.out.mono ?_
  rintro e w1 ⟨rfl, rfl⟩
  go_wp2_with fail
  go_returns
  exact ⟨rfl, rfl⟩
theorem noEnded_any {v : Value} {w : World} (h : NoEd w v) : Calls Tryz.prog 11 #[v] w fun e w' => e = .returned (.bool false) ∧ w' = w := by
  have HN := Lib.hid (edNone_any h)
  clear h
  go_enter Tryz.func11, Tryz.ntmps11
  go_wp2_with fail
  refine HN.out.mono ?_
  rintro e w1 ⟨rfl, rfl⟩
  go_wp2_with fail
  go_returns
  exact ⟨rfl, rfl⟩
theorem noText_any {v : Value} {w : World} (h : NoEd w v) : Calls Tryz.prog 12 #[v] w fun e w' => e = .returned (.bool false) ∧ w' = w := by
  have HN := Lib.hid (edNone_any h)
  clear h
  go_enter Tryz.func12, Tryz.ntmps12
  go_wp2_with fail
  refine HN.out.mono ?_
  rintro e w1 ⟨rfl, rfl⟩
  go_wp2_with fail
  go_returns
  exact ⟨rfl, rfl⟩
theorem noTurned_any {v : Value} {w : World} (h : NoEd w v) : Calls Tryz.prog 13 #[v] w fun e w' => e = .returned (.bool false) ∧ w' = w := by
  have HN := Lib.hid (edNone_any h)
  clear h
  go_enter Tryz.func13, Tryz.ntmps13
  go_wp2_with fail
  refine HN.out.mono ?_
  rintro e w1 ⟨rfl, rfl⟩
  go_wp2_with fail
  go_returns
  exact ⟨rfl, rfl⟩
theorem noStep_any {v : Value} {w : World} (h : NoEd w v) (s : ByteArray) : Calls Tryz.prog 8 #[v, .string s] w fun e w' => e = .returned (.tuple #[.string ⟨#[]⟩, .slice none 0 0, .int .i64 1]) ∧ w' = w := by
  have HN := Lib.hid (edNone_any h)
  clear h
  go_enter Tryz.func8, Tryz.ntmps8
  go_wp2_with fail
  refine HN.out.mono ?_
  rintro e w1 ⟨rfl, rfl⟩
  go_wp2_with fail
  go_returns
  exact ⟨rfl, rfl⟩
end Go.Proofs.YthabjdjbcfkjhaaGreatDoor
