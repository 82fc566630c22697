/- lives of chapter 23: the hooks, the table. -/
import Derived.Test.YtdljidgmdjndgaaGreatDoorVsR
import Derived.Test.YtdljidgmdjndgaaGreatDoorHk5
import Derived.Test.YtdljidgmdjndgaaGreatDoorHk3
import Derived.Lib.TrailingZeros
namespace Go.Proofs.YtdljidgmdjndgaaGreatDoor
open Go Go.Proofs Go.Ev Go.RowKit Go.Ink

theorem ext_index : Ext Tryz.prog 96 Extern.BytealgIndexByte.indexByte := ⟨Tryz.f96, by kernel_rfl, by kernel_rfl, by kernel_rfl, by kernel_rfl, by kernel_rfl⟩
theorem ext_count : Ext Tryz.prog 292 Extern.BytealgCount.count := ⟨Tryz.f292, by kernel_rfl, by kernel_rfl, by kernel_rfl, by kernel_rfl, by kernel_rfl⟩
theorem ext_same : Ext Tryz.prog 194 Extern.AbiNoEscape.same := ⟨Tryz.f194, by kernel_rfl, by kernel_rfl, by kernel_rfl, by kernel_rfl, by kernel_rfl⟩
theorem ext_clone : Ext Tryz.prog 150 Extern.MapsClone.clone := ⟨Tryz.f150, by kernel_rfl, by kernel_rfl, by kernel_rfl, by kernel_rfl, by kernel_rfl⟩
theorem ext_noz : Ext Tryz.prog 267 (Extern.BytealgMakeNoZero.makeNoZero Tryz.f267.params Tryz.f267.resultTypes) := ⟨Tryz.f267, by kernel_rfl, by kernel_rfl, by kernel_rfl, by kernel_rfl, by kernel_rfl⟩
noncomputable def hooks23 : List (Nat × Hook) := [(96, hIdx), (150, hMapCl), (194, hSame), (292, hCnt), (267, hNoZ 5)]
noncomputable def dhooks23 : List (Nat × Hook) := [(137, hRec)]
theorem hooks23_ok : ∀ p ∈ hooks23, CallOk1 Tryz.prog p.1 p.2 := by
  intro p hp
  simp only [hooks23, List.mem_cons, List.not_mem_nil, or_false] at hp
  rcases hp with rfl | rfl | rfl | rfl | rfl
  · exact idx_ok ext_index
  · exact mapCl_ok ext_clone
  · exact same_ok ext_same
  · exact cnt_ok ext_count
  · exact noz_ok ext_noz (t := 31) (by kernel_rfl) Tryz.underlying31 (by kernel_rfl)
theorem dhooks23_ok : ∀ p ∈ dhooks23, DefOk1 Tryz.prog p.1 p.2 := by
  intro p hp
  simp only [dhooks23, List.mem_cons, List.not_mem_nil, or_false] at hp
  subst hp
  exact rec_ok
def deB : List V := [.int .u8 0, .int .u8 1, .int .u8 56, .int .u8 2, .int .u8 57, .int .u8 49, .int .u8 28, .int .u8 3, .int .u8 61, .int .u8 58, .int .u8 42, .int .u8 50, .int .u8 38, .int .u8 29, .int .u8 17, .int .u8 4, .int .u8 62, .int .u8 47, .int .u8 59, .int .u8 36, .int .u8 45, .int .u8 43, .int .u8 51, .int .u8 22, .int .u8 53, .int .u8 39, .int .u8 33, .int .u8 30, .int .u8 24, .int .u8 18, .int .u8 12, .int .u8 5, .int .u8 63, .int .u8 55, .int .u8 48, .int .u8 27, .int .u8 60, .int .u8 41, .int .u8 37, .int .u8 16, .int .u8 46, .int .u8 35, .int .u8 44, .int .u8 21, .int .u8 52, .int .u8 32, .int .u8 23, .int .u8 11, .int .u8 54, .int .u8 26, .int .u8 40, .int .u8 15, .int .u8 34, .int .u8 20, .int .u8 31, .int .u8 10, .int .u8 25, .int .u8 14, .int .u8 19, .int .u8 9, .int .u8 13, .int .u8 8, .int .u8 7, .int .u8 6]
def lr23 : List (Option Blk) := [none, none, none, none, none, some (tabBlk 385 deB)]
noncomputable def heap23 : H := ⟨6, [[lr23]], []⟩
theorem one23 : OneTab lr23 5 385 deB := by
  refine ⟨by decide, fun b x h => ?_⟩
  match b, h with
  | 0, h => cases h
  | 1, h => cases h
  | 2, h => cases h
  | 3, h => cases h
  | 4, h => cases h
  | 5, h =>
    simp [lr23] at h
    exact ⟨rfl, h.symm⟩
  | b + 6, h => simp [lr23] at h
end Go.Proofs.YtdljidgmdjndgaaGreatDoor
