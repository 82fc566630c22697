/- lives of chapter 23: the piece with a substitute command. Printed by rsq2.py. -/
import Derived.Test.YtjibimocplkfiaaGreatDoorRsP0
import Derived.Test.YtjibimocplkfiaaGreatDoorRsP1
import Derived.Test.YtjibimocplkfiaaGreatDoorRsP2
namespace Go.Proofs.YtjibimocplkfiaaGreatDoor
open Go Go.Proofs Go.Ev Go.RowKit Go.Ink

noncomputable def pcs : List Piece := [pc0, pc1, pc2]
theorem pcs_hook : CallOk1 Tryz.prog 120 (hPieceG pcs) :=
  pieceG_ok no_count mixed (c := (Tryz.f120.body).getD .skip) Tryz.func120 (by kernel_rfl) (by
    intro p hp
    simp only [pcs, List.mem_cons, List.not_mem_nil, or_false] at hp
    rcases hp with rfl | rfl | rfl
    · exact ⟨hooks23, dhooks23, 3000, 60, hooks23_ok, dhooks23_ok, pc0_run⟩
    · exact ⟨hooks23, dhooks23, 3000, 60, hooks23_ok, dhooks23_ok, pc1_run⟩
    · exact ⟨hooks23, dhooks23, 3000, 60, hooks23_ok, dhooks23_ok, pc2_run⟩)
noncomputable def hooksP : List (Nat × Hook) := [(79, hIdx), (82, hMapCl), (114, hSame), (203, hCnt), (175, hNoZ 5), (120, hPieceG pcs)]
theorem hooksP_ok : ∀ p ∈ hooksP, CallOk1 Tryz.prog p.1 p.2 := by
  intro p hp
  simp only [hooksP, List.mem_cons, List.not_mem_nil, or_false] at hp
  rcases hp with rfl | rfl | rfl | rfl | rfl | rfl
  · exact idx_ok ext_index
  · exact mapCl_ok ext_clone
  · exact same_ok ext_same
  · exact cnt_ok ext_count
  · exact noz_ok ext_noz (t := 62) (by kernel_rfl) Tryz.underlying62 (by kernel_rfl)
  · exact pcs_hook
def is8A : List V × List V := ([.str 0 0, .str 8 8674263157456790316, .int .i64 3], [.str 13 3895841368906325006613453743663])
set_option maxRecDepth 100000 in
theorem is8_run : isTrue (runTop Tryz.prog hooksP dhooks23 3000 60 11 (is8A.1 ++ [.slice 6 0 is8A.2.length is8A.2.length]) (slHeap 6 lr23 9 is8A.2)) = true := by decide +kernel
end Go.Proofs.YtjibimocplkfiaaGreatDoor
