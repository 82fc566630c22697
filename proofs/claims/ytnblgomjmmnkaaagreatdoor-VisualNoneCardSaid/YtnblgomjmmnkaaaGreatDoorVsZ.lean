/- VisualNone (chapter 28): an editor that is none takes no byte; lives' pieces run by the kernel, one by one. -/
import Derived.Test.YtnblgomjmmnkaaaGreatDoorVsR
import Derived.Lib.TrailingZeros
set_option linter.unusedVariables false
set_option linter.unusedSimpArgs false
namespace Go.Proofs.YtnblgomjmmnkaaaGreatDoor
open Go Go.Proofs Go.Ev Go.RowKit

theorem ext_index : Ext Tryz.prog 115 Extern.BytealgIndexByte.indexByte := ⟨Tryz.f115, by kernel_rfl, by kernel_rfl, by kernel_rfl, by kernel_rfl, by kernel_rfl⟩
theorem ext_clone : Ext Tryz.prog 137 Extern.MapsClone.clone := ⟨Tryz.f137, by kernel_rfl, by kernel_rfl, by kernel_rfl, by kernel_rfl, by kernel_rfl⟩
noncomputable def hooks28 : List (Nat × Hook) := [(115, hIdx), (137, hMapCl)]
noncomputable def dhooks28 : List (Nat × Hook) := [(109, hRec)]
theorem hooks28_ok : ∀ p ∈ hooks28, CallOk1 Tryz.prog p.1 p.2 := by
  intro p hp
  simp only [hooks28, List.mem_cons, List.not_mem_nil, or_false] at hp
  rcases hp with rfl | rfl
  · exact idx_ok ext_index
  · exact mapCl_ok ext_clone
theorem dhooks28_ok : ∀ p ∈ dhooks28, DefOk1 Tryz.prog p.1 p.2 := by
  intro p hp
  simp only [dhooks28, List.mem_cons, List.not_mem_nil, or_false] at hp
  subst hp
  exact rec_ok
def deB : List V := [.int .u8 0, .int .u8 1, .int .u8 56, .int .u8 2, .int .u8 57, .int .u8 49, .int .u8 28, .int .u8 3, .int .u8 61, .int .u8 58, .int .u8 42, .int .u8 50, .int .u8 38, .int .u8 29, .int .u8 17, .int .u8 4, .int .u8 62, .int .u8 47, .int .u8 59, .int .u8 36, .int .u8 45, .int .u8 43, .int .u8 51, .int .u8 22, .int .u8 53, .int .u8 39, .int .u8 33, .int .u8 30, .int .u8 24, .int .u8 18, .int .u8 12, .int .u8 5, .int .u8 63, .int .u8 55, .int .u8 48, .int .u8 27, .int .u8 60, .int .u8 41, .int .u8 37, .int .u8 16, .int .u8 46, .int .u8 35, .int .u8 44, .int .u8 21, .int .u8 52, .int .u8 32, .int .u8 23, .int .u8 11, .int .u8 54, .int .u8 26, .int .u8 40, .int .u8 15, .int .u8 34, .int .u8 20, .int .u8 31, .int .u8 10, .int .u8 25, .int .u8 14, .int .u8 19, .int .u8 9, .int .u8 13, .int .u8 8, .int .u8 7, .int .u8 6]
def lr28 : List (Option Blk) := [none, none, none, some (tabBlk 311 deB)]
noncomputable def heap28 : H := ⟨4, [[lr28]], []⟩
theorem one28 : OneTab lr28 3 311 deB := by
  refine ⟨by decide, fun b x h => ?_⟩
  match b, h with
  | 0, h => cases h
  | 1, h => cases h
  | 2, h => cases h
  | 3, h =>
    simp [lr28] at h
    exact ⟨rfl, h.symm⟩
  | b + 4, h => simp [lr28] at h
def is0A : List V := [.str 2 25719, .str 6 109281892722220, .int .i64 1, .int .i64 0]
set_option maxRecDepth 100000 in
theorem is0_run : isTrue (runTop Tryz.prog hooks28 dhooks28 3000 60 22 is0A heap28) = true := by decide +kernel
def is1A : List V := [.str 3 6584181, .str 9 1796404935846690907692, .int .i64 1, .int .i64 0]
set_option maxRecDepth 100000 in
theorem is1_run : isTrue (runTop Tryz.prog hooks28 dhooks28 3000 60 22 is1A heap28) = true := by decide +kernel
def is2A : List V := [.str 2 30766, .str 7 9116481147463212, .int .i64 1, .int .i64 0]
set_option maxRecDepth 100000 in
theorem is2_run : isTrue (runTop Tryz.prog hooks28 dhooks28 3000 60 22 is2A heap28) = true := by decide +kernel
def is3A : List V := [.str 4 1768450331, .str 11 126225930125558593607788076, .int .i64 1, .int .i64 1]
set_option maxRecDepth 100000 in
theorem is3_run : isTrue (runTop Tryz.prog hooks28 dhooks28 3000 60 22 is3A heap28) = true := by decide +kernel
def is4A : List V := [.str 3 6579312, .str 9 1870483518009586705452, .int .i64 2, .int .i64 0]
set_option maxRecDepth 100000 in
theorem is4_run : isTrue (runTop Tryz.prog hooks28 dhooks28 3000 60 22 is4A heap28) = true := by decide +kernel
def is5A : List V := [.str 3 7960912, .str 15 505643037480354734932614800271042092, .int .i64 1, .int .i64 0]
set_option maxRecDepth 100000 in
theorem is5_run : isTrue (runTop Tryz.prog hooks28 dhooks28 3000 60 22 is5A heap28) = true := by decide +kernel
def is6A : List V := [.str 1 74, .str 9 1796404935846489581100, .int .i64 1, .int .i64 5]
set_option maxRecDepth 100000 in
theorem is6_run : isTrue (runTop Tryz.prog hooks28 dhooks28 3000 60 22 is6A heap28) = true := by decide +kernel
def is7A : List V := [.str 2 13182, .str 9 1203803282478771562028, .int .i64 1, .int .i64 3]
set_option maxRecDepth 100000 in
theorem is7_run : isTrue (runTop Tryz.prog hooks28 dhooks28 3000 60 22 is7A heap28) = true := by decide +kernel
def is8A : List V := [.str 2 29272, .str 9 1630384239183304943148, .int .i64 1, .int .i64 0]
set_option maxRecDepth 100000 in
theorem is8_run : isTrue (runTop Tryz.prog hooks28 dhooks28 3000 60 22 is8A heap28) = true := by decide +kernel
def is9A : List V := [.str 5 478593513243, .str 13 7715500449834518050855840998956, .int .i64 2, .int .i64 2]
set_option maxRecDepth 100000 in
theorem is9_run : isTrue (runTop Tryz.prog hooks28 dhooks28 3000 60 22 is9A heap28) = true := by decide +kernel
def is10A : List V := [.str 3 3302500, .str 0 0, .int .i64 0, .int .i64 0]
set_option maxRecDepth 100000 in
theorem is10_run : isTrue (runTop Tryz.prog hooks28 dhooks28 3000 60 22 is10A heap28) = true := by decide +kernel
def is11A : List V := [.str 4 795174413, .str 9 1796404935846690907692, .int .i64 2, .int .i64 0]
set_option maxRecDepth 100000 in
theorem is11_run : isTrue (runTop Tryz.prog hooks28 dhooks28 3000 60 22 is11A heap28) = true := by decide +kernel
def isT : List (List V) := [is0A, is1A, is2A, is3A, is4A, is5A, is6A, is7A, is8A, is9A, is10A, is11A]
theorem isT_ok : ∀ l ∈ isT, isTrue (runTop Tryz.prog hooks28 dhooks28 3000 60 22 l heap28) = true := by
  intro l hl
  simp only [isT, List.mem_cons, List.not_mem_nil, or_false] at hl
  rcases hl with rfl | rfl | rfl | rfl | rfl | rfl | rfl | rfl | rfl | rfl | rfl | rfl
  · exact is0_run
  · exact is1_run
  · exact is2_run
  · exact is3_run
  · exact is4_run
  · exact is5_run
  · exact is6_run
  · exact is7_run
  · exact is8_run
  · exact is9_run
  · exact is10_run
  · exact is11_run
theorem isT_flat : ∀ l ∈ isT, l.all flat = true := by
  intro l hl
  simp only [isT, List.mem_cons, List.not_mem_nil, or_false] at hl
  rcases hl with rfl | rfl | rfl | rfl | rfl | rfl | rfl | rfl | rfl | rfl | rfl | rfl <;> rfl

noncomputable def hooksV : List (Nat × Hook) := [(115, hIdx), (137, hMapCl), (22, hMemoT 3 311 deB isT)]
theorem hooksV_ok : ∀ p ∈ hooksV, CallOk1 Tryz.prog p.1 p.2 := by
  intro p hp
  simp only [hooksV, List.mem_cons, List.not_mem_nil, or_false] at hp
  rcases hp with rfl | rfl | rfl
  · exact idx_ok ext_index
  · exact mapCl_ok ext_clone
  · exact memoT_ok no_count mixed hooks28_ok dhooks28_ok (c := (Tryz.f22.body).getD .skip) Tryz.func22 (by kernel_rfl) (by kernel_rfl) (by decide) one28 (by decide) isT_ok isT_flat
set_option maxRecDepth 100000 in
theorem vis_run : isTrue (runTop Tryz.prog hooksV dhooks28 3000 60 3 [.opq 0] heap28) = true := by decide +kernel
/-- The table stands. -/
def TabW (w : World) : Prop := ∃ o, w.heap[3]? = some o ∧ BRep Tryz.prog (fun _ => undef) (vars 4) ⟨3, 0, 0⟩ (tabBlk 311 deB) o
theorem visualNone_any (b : UInt8) (w : World) (hw : 4 ≤ w.heap.size ∧ TabW w) : Calls Tryz.prog 3 #[.int .u8 (b.toNat : Int)] w fun e w' => e = .returned (.bool true) ∧ Below w.heap.size w w' := by
  obtain ⟨o, h1, arr, lo, hi, r1, r2, r3, _⟩ := hw.2
  refine true_args no_count mixed hooksV_ok dhooks28_ok vis_run (tab_ro one28) (ξ := fun _ => .int .u8 (b.toNat : Int)) (tab_rep hw.1 (by decide) one28 ⟨o, h1, arr, lo, hi, r1, fun i u hu => ?_, r3, rfl⟩) (vars_glob (by kernel_rfl)) (DenL.one ?_)
  · obtain ⟨y, hy, hden⟩ := r2 i u hu
    exact ⟨y, hy, flat_den (List.all_eq_true.1 (by decide : deB.all flat = true) u (List.mem_of_getElem? hu)) hden⟩
  · simp only [Den]
    exact ⟨trivial, fun cs h => by cases h⟩
end Go.Proofs.YtnblgomjmmnkaaaGreatDoor
