/- lives of chapter 24: the chapter's files, run by the kernel. -/
import Derived.Test.YthcdhfgoaaiciaaGreatDoorHk1
import Derived.Test.YthcdhfgoaaiciaaGreatDoorSplt
import Derived.Test.YthcdhfgoaaiciaaGreatDoorProg
set_option linter.unusedVariables false
set_option linter.unusedSimpArgs false
namespace Go.Proofs.YthcdhfgoaaiciaaGreatDoor
open Go Go.Proofs Go.Ev Go.Ink

theorem no_count : NoCount Tryz.prog := noCount_ok (by decide +kernel)
theorem mixed : Tryz.prog.follows .mixedOrders = true := by decide +kernel
theorem ext_index : Ext Tryz.prog 37 Extern.BytealgIndexByte.indexByte := ⟨Tryz.f37, by kernel_rfl, by kernel_rfl, by kernel_rfl, by kernel_rfl, by kernel_rfl⟩
theorem ext_cmp : Ext Tryz.prog 168 Extern.BytealgCompare.compare := ⟨Tryz.f168, by kernel_rfl, by kernel_rfl, by kernel_rfl, by kernel_rfl, by kernel_rfl⟩
theorem ext_same : Ext Tryz.prog 122 Extern.AbiNoEscape.same := ⟨Tryz.f122, by kernel_rfl, by kernel_rfl, by kernel_rfl, by kernel_rfl, by kernel_rfl⟩
theorem ext_clone : Ext Tryz.prog 120 Extern.MapsClone.clone := ⟨Tryz.f120, by kernel_rfl, by kernel_rfl, by kernel_rfl, by kernel_rfl, by kernel_rfl⟩
theorem split_hook : CallOk1 Tryz.prog 61 (hSplt 9) :=
  split_ok no_count (c := (Tryz.f61.body).getD .skip) Tryz.func61 (by kernel_rfl) (by kernel_rfl) fun t w ht => split_any t w ht
noncomputable def hooks24 : List (Nat × Hook) := [(37, hIdx), (122, hSame), (168, hCmpS), (61, hSplt 9), (120, hMapCl)]
theorem hooks24_ok : ∀ p ∈ hooks24, CallOk1 Tryz.prog p.1 p.2 := by
  intro p hp
  simp only [hooks24, List.mem_cons, List.not_mem_nil, or_false] at hp
  rcases hp with rfl | rfl | rfl | rfl | rfl
  · exact idx_ok ext_index
  · exact same_ok ext_same
  · exact cmpS_ok ext_cmp
  · exact split_hook
  · exact mapCl_ok ext_clone
set_option maxRecDepth 100000 in
theorem lives_run : isTrue (runTop Tryz.prog hooks24 [] 3000 60 4 [] (h0 6)) = true := by decide +kernel
theorem lives_any {w : World} (hw : 6 ≤ w.heap.size) : Calls Tryz.prog 4 #[] w fun e w' => e = .returned (.bool true) ∧ RowKit.Below w.heap.size w w' :=
  true_calls no_count mixed hooks24_ok (by intro p hp; cases hp) lives_run (vars_ro _) (vars_rep hw) (vars_glob (by kernel_rfl))
end Go.Proofs.YthcdhfgoaaiciaaGreatDoor
