/- lives of chapter 24: the chapter's files, run by the kernel. -/
import Derived.Test.YtlcjjcmfpmflcaaGreatDoorHk1
import Derived.Test.YtlcjjcmfpmflcaaGreatDoorSplt
import Derived.Test.YtlcjjcmfpmflcaaGreatDoorVsR
set_option linter.unusedVariables false
set_option linter.unusedSimpArgs false
namespace Go.Proofs.YtlcjjcmfpmflcaaGreatDoor
open Go Go.Proofs Go.Ev Go.Ink

theorem ext_index : Ext Tryz.prog 147 Extern.BytealgIndexByte.indexByte := ⟨Tryz.f147, by kernel_rfl, by kernel_rfl, by kernel_rfl, by kernel_rfl, by kernel_rfl⟩
theorem ext_cmp : Ext Tryz.prog 162 Extern.BytealgCompare.compare := ⟨Tryz.f162, by kernel_rfl, by kernel_rfl, by kernel_rfl, by kernel_rfl, by kernel_rfl⟩
theorem ext_same : Ext Tryz.prog 133 Extern.AbiNoEscape.same := ⟨Tryz.f133, by kernel_rfl, by kernel_rfl, by kernel_rfl, by kernel_rfl, by kernel_rfl⟩
theorem ext_clone : Ext Tryz.prog 120 Extern.MapsClone.clone := ⟨Tryz.f120, by kernel_rfl, by kernel_rfl, by kernel_rfl, by kernel_rfl, by kernel_rfl⟩
theorem split_hook : CallOk1 Tryz.prog 148 (hSplt 9) :=
  split_ok no_count (c := (Tryz.f148.body).getD .skip) Tryz.func148 (by kernel_rfl) (by kernel_rfl) fun t w ht => split_any t w ht
noncomputable def hooks24 : List (Nat × Hook) := [(147, hIdx), (133, hSame), (162, hCmpS), (148, hSplt 9), (120, hMapCl)]
theorem hooks24_ok : ∀ p ∈ hooks24, CallOk1 Tryz.prog p.1 p.2 := by
  intro p hp
  simp only [hooks24, List.mem_cons, List.not_mem_nil, or_false] at hp
  rcases hp with rfl | rfl | rfl | rfl | rfl
  · exact idx_ok ext_index
  · exact same_ok ext_same
  · exact cmpS_ok ext_cmp
  · exact split_hook
  · exact mapCl_ok ext_clone
set_option maxRecDepth 100000 in
theorem lives_run : isTrue (runTop Tryz.prog hooks24 [] 3000 60 7 [] (h0 6)) = true := by decide +kernel
theorem lives_any {w : World} (hw : 6 ≤ w.heap.size) : Calls Tryz.prog 7 #[] w fun e w' => e = .returned (.bool true) ∧ RowKit.Below w.heap.size w w' :=
  true_calls no_count mixed hooks24_ok (by intro p hp; cases hp) lives_run (vars_ro _) (vars_rep hw) (vars_glob (by kernel_rfl))
end Go.Proofs.YtlcjjcmfpmflcaaGreatDoor
