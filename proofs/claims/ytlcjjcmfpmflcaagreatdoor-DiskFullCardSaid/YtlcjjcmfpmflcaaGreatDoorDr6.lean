/- addr.Eval of no addresses; core: changed, clean (chapter 24). -/
import Derived.Test.YtlcjjcmfpmflcaaGreatDoorCoB
import Derived.Test.YtlcjjcmfpmflcaaGreatDoorAd1
set_option linter.unusedVariables false
set_option linter.unusedSimpArgs false
namespace Go.Proofs.YtlcjjcmfpmflcaaGreatDoor
open Go Go.Proofs Go.RowKit Go.Ink Go.Sort

set_option maxRecDepth 100000 in
set_option maxHeartbeats 1000000 in
theorem addrEval_none (w : World) (vc : List Value) (last : List UInt8) (h28 : vc[28]? = some (.string ⟨last.toArray⟩)) :
    Calls Tryz.prog 127 #[.agg vc.toArray, .agg #[.slice none 0 0, .slice none 0 0]] w fun e w' => e = .returned (.tuple #[.int .i64 0, .int .i64 0, .int .i64 0, .string ⟨last.toArray⟩, .int .i64 0]) ∧ Below w.heap.size w w' := by
  go_enter Tryz.func127, Tryz.ntmps127
  go_wp2_with fail
  generalize hwB : (w.alloc _).alloc _ = wB
  have HB := Lib.hid (show Below w.heap.size w wB from hwB ▸ ((below_alloc w _).alloc (by simp) _))
  have HV0 := Lib.hid (show wB.heap[w.heap.size]? = some (.cells vc.toArray 184 (0, 0)) from hwB ▸ ((Below.heap_alloc _ _ _ (by simp)).trans (heap_alloc_at w _)))
  have HR0 := Lib.hid (show wB.heap[w.heap.size + 1]? = some (.cells #[.slice none 0 0, .slice none 0 0] 47 (0, 0)) from hwB ▸ (by
    have h := heap_alloc_at (w.alloc (.cells vc.toArray 184)) (.cells #[.slice none 0 0, .slice none 0 0] 47)
    rw [show (w.alloc (.cells vc.toArray 184)).heap.size = w.heap.size + 1 by simp] at h
    exact h))
  clear hwB
  have v28 : wB.cell? ⟨w.heap.size, 28, none⟩ = some (.string ⟨last.toArray⟩) := by rw [Lib.cell_of_heap HV0.out]; simpa using h28
  have r0 : wB.cell? ⟨w.heap.size + 1, 0, none⟩ = some (.slice none 0 0) := by rw [Lib.cell_of_heap HR0.out]; rfl
  clear h28
  go_loopw [4, 5, 16] (fun av bv iv wr => iv = .int .i64 0 ∧ av = .int .i64 0 ∧ bv = .int .i64 0 ∧ wr = wB) (fun _ _ _ _ => 0)
  case atStart => exact ⟨rfl, rfl, rfl, rfl⟩
  case round =>
    obtain ⟨rfl, rfl, rfl, rfl⟩ := hrel
    go_wp2_with fail
    go_region_held3 (fun w' => w'.cell? ⟨w.heap.size + 1, 0, none⟩ = some (.slice none 0 0) ∧ w'.cell? ⟨w.heap.size, 28, none⟩ = some (.string ⟨last.toArray⟩))
      (first | exact ⟨r0, v28⟩ | go_keep)
      (fail "no arm")
    go_wp2_with fail
    go_returns
    exact ⟨rfl, HB.out.drew⟩
theorem coreAllD_of {S : Nat → Prop} {w : World} {c t : Nat} {cur : Int} {ps : List (List Line)} (h : CoreOf S w c t cur ps) (F : List Line) (hF : ps.flatten = F) :
    Calls Tryz.prog 19 #[.pointer (some ⟨c, 0, none⟩), .int .i64 1, .int .i64 (manyS ps : Int)] w fun e' w' => ∃ ao cap, e' = .returned (.slice ao F.length cap) ∧ SlOf IsStr w' ao cap F ∧ Below w.heap.size w w' := by
  refine (coreLinesAll_of h).mono ?_
  rintro e w' ⟨v, rfl, ho, hb⟩
  rw [manyS_flat, Nat.sub_self, List.drop_zero, Nat.sub_zero, List.take_length, hF] at ho
  obtain ⟨ao, cap, rfl, hs⟩ := ho.slOf
  exact ⟨ao, cap, rfl, hs, hb⟩
section
variable {w w' : World} {c t : Nat} {cur : Int} {last : List UInt8} {r : Nat} {dirty : Bool} {undo was held : Option Addr} {dn : Value}
theorem coreDirty_of (h : CoreB w c t cur last r dirty undo was held dn) :
    Calls Tryz.prog 17 #[.pointer (some ⟨c, 0, none⟩)] w fun e w' => e = .returned (.bool dirty) ∧ w' = w := by
  have HN := Lib.hid (coreNone_b h.c0)
  have e30 := h.c30
  clear h
  go_enter Tryz.func17, Tryz.ntmps17
  go_wp2_with fail
  refine HN.out.mono ?_
  rintro e w1 ⟨rfl, rfl⟩
  go_wp2_with fail
  go_returns
  exact ⟨rfl, rfl⟩
theorem coreClean_of (h : CoreB w c t cur last r dirty undo was held dn) :
    Calls Tryz.prog 132 #[.pointer (some ⟨c, 0, none⟩)] w fun e w' => e = .returned (.tuple #[]) ∧ CoreB w' c t cur last r false undo was held dn ∧ KeepT (Only c) w w' := by
  have HB := Lib.hid h
  have HN := Lib.hid (coreNone_b h.c0)
  have e30 := h.c30
  have f30 := h.fz 30
  clear h
  go_enter Tryz.func132, Tryz.ntmps132
  go_wp2_with fail
  refine HN.out.mono ?_
  rintro e w1 ⟨rfl, rfl⟩
  go_wp2_with fail
  go_returns
  exact ⟨rfl, HB.out.set30 false, keepIn (eqIn c) (KeepT.refl _ _) 30 _⟩
end
end Go.Proofs.YtlcjjcmfpmflcaaGreatDoor
