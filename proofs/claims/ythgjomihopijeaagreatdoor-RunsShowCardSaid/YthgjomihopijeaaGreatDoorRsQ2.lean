/- lives of chapter 23: the piece with a substitute command. Printed by rsq2.py. -/
import Derived.Test.YthgjomihopijeaaGreatDoorRsP0
import Derived.Test.YthgjomihopijeaaGreatDoorRsP1
import Derived.Test.YthgjomihopijeaaGreatDoorRsP2
namespace Go.Proofs.YthgjomihopijeaaGreatDoor
open Go Go.Proofs Go.Ev Go.RowKit Go.Ink

noncomputable def pcs : List Piece := [pc0, pc1, pc2]
theorem pcs_hook : CallOk1 Tryz.prog 85 (hPiece pcs) :=
  piece_ok no_count mixed hooks23_ok dhooks23_ok (cf := 3000) (fuel := 60) (c := (Tryz.f85.body).getD .skip) Tryz.func85 (by kernel_rfl) (by
    intro p hp
    simp only [pcs, List.mem_cons, List.not_mem_nil, or_false] at hp
    rcases hp with rfl | rfl | rfl
    · exact ⟨pc0_run, rfl⟩
    · exact ⟨pc1_run, rfl⟩
    · exact ⟨pc2_run, rfl⟩)
noncomputable def hooksP : List (Nat × Hook) := [(127, hIdx), (128, hMapCl), (26, hSame), (214, hCnt), (192, hNoZ 5), (85, hPiece pcs)]
theorem hooksP_ok : ∀ p ∈ hooksP, CallOk1 Tryz.prog p.1 p.2 := by
  intro p hp
  simp only [hooksP, List.mem_cons, List.not_mem_nil, or_false] at hp
  rcases hp with rfl | rfl | rfl | rfl | rfl | rfl
  · exact idx_ok ext_index
  · exact mapCl_ok ext_clone
  · exact same_ok ext_same
  · exact cnt_ok ext_count
  · exact noz_ok ext_noz (t := 29) (by kernel_rfl) Tryz.underlying29 (by kernel_rfl)
  · exact pcs_hook
def is8A : List V × List V := ([.str 0 0, .str 8 8674263157456790316, .int .i64 3], [.str 13 3895841368906325006613453743663])
set_option maxRecDepth 100000 in
theorem is8_run : isTrue (runTop Tryz.prog hooksP dhooks23 3000 60 9 (is8A.1 ++ [.slice 6 0 is8A.2.length is8A.2.length]) (slHeap 6 lr23 9 is8A.2)) = true := by decide +kernel
end Go.Proofs.YthgjomihopijeaaGreatDoor
