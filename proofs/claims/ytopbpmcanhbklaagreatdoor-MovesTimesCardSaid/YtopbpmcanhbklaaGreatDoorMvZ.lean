/- lives of chapter 27: the chapter's motions, run by the kernel. -/
import Derived.Test.YtopbpmcanhbklaaGreatDoorEvZ
import Derived.Test.YtopbpmcanhbklaaGreatDoorBase
import Derived.Test.YtopbpmcanhbklaaGreatDoorProg
set_option linter.unusedVariables false
set_option linter.unusedSimpArgs false
namespace Go.Proofs.YtopbpmcanhbklaaGreatDoor
open Go Go.Proofs Go.Ev

theorem no_count : NoCount Tryz.prog := noCount_ok (by decide +kernel)
theorem mixed : Tryz.prog.follows .mixedOrders = true := by decide +kernel
theorem ext_index : Ext Tryz.prog 55 Extern.BytealgIndexByte.indexByte := ⟨Tryz.f55, by kernel_rfl, by kernel_rfl, by kernel_rfl, by kernel_rfl, by kernel_rfl⟩
noncomputable def hooks27 : List (Nat × Hook) := [(55, hIdx)]
theorem hooks27_ok : ∀ p ∈ hooks27, CallOk1 Tryz.prog p.1 p.2 := by
  intro p hp
  simp only [hooks27, List.mem_cons, List.not_mem_nil, or_false] at hp
  subst hp
  exact idx_ok ext_index
set_option maxRecDepth 100000 in
theorem lives_run : isTrue (runTop Tryz.prog hooks27 [] 3000 60 5 [] (h0 4)) = true := by decide +kernel
theorem lives_any {w : World} (hw : 4 ≤ w.heap.size) : Calls Tryz.prog 5 #[] w fun e w' => e = .returned (.bool true) ∧ RowKit.Below w.heap.size w w' :=
  true_calls no_count mixed hooks27_ok (by intro p hp; cases hp) lives_run (vars_ro _) (vars_rep hw) (vars_glob (by kernel_rfl))
end Go.Proofs.YtopbpmcanhbklaaGreatDoor
