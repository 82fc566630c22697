/- EdWords (chapter 25): any error in words; lives by the kernel. -/
import Derived.Test.YthabjdjbcfkjhaaGreatDoorEw2
import Derived.Test.YthabjdjbcfkjhaaGreatDoorVsR
import Derived.Test.YthabjdjbcfkjhaaGreatDoorSplt
import Derived.Lib.TrailingZeros
set_option linter.unusedVariables false
set_option linter.unusedSimpArgs false
namespace Go.Proofs.YthabjdjbcfkjhaaGreatDoor
open Go Go.Proofs Go.Ev Go.RowKit Go.Ink

theorem ext_index : Ext Tryz.prog 91 Extern.BytealgIndexByte.indexByte := ⟨Tryz.f91, by kernel_rfl, by kernel_rfl, by kernel_rfl, by kernel_rfl, by kernel_rfl⟩
theorem ext_count : Ext Tryz.prog 294 Extern.BytealgCount.count := ⟨Tryz.f294, by kernel_rfl, by kernel_rfl, by kernel_rfl, by kernel_rfl, by kernel_rfl⟩
theorem ext_cmp : Ext Tryz.prog 312 Extern.BytealgCompare.compare := ⟨Tryz.f312, by kernel_rfl, by kernel_rfl, by kernel_rfl, by kernel_rfl, by kernel_rfl⟩
theorem ext_same : Ext Tryz.prog 194 Extern.AbiNoEscape.same := ⟨Tryz.f194, by kernel_rfl, by kernel_rfl, by kernel_rfl, by kernel_rfl, by kernel_rfl⟩
theorem ext_clone : Ext Tryz.prog 147 Extern.MapsClone.clone := ⟨Tryz.f147, by kernel_rfl, by kernel_rfl, by kernel_rfl, by kernel_rfl, by kernel_rfl⟩
theorem split_hook : CallOk1 Tryz.prog 172 (hSplt 9) :=
  split_ok no_count (c := (Tryz.f172.body).getD .skip) Tryz.func172 (by kernel_rfl) (by kernel_rfl) fun t w ht => split_any t w ht
noncomputable def hooks25 : List (Nat × Hook) := [(91, hIdx), (147, hMapCl), (172, hSplt 9), (194, hSame), (312, hCmpS), (294, hCnt)]
noncomputable def dhooks25 : List (Nat × Hook) := [(133, hRec)]
theorem hooks25_ok : ∀ p ∈ hooks25, CallOk1 Tryz.prog p.1 p.2 := by
  intro p hp
  simp only [hooks25, List.mem_cons, List.not_mem_nil, or_false] at hp
  rcases hp with rfl | rfl | rfl | rfl | rfl | rfl
  · exact idx_ok ext_index
  · exact mapCl_ok ext_clone
  · exact split_hook
  · exact same_ok ext_same
  · exact cmpS_ok ext_cmp
  · exact cnt_ok ext_count
theorem dhooks25_ok : ∀ p ∈ dhooks25, DefOk1 Tryz.prog p.1 p.2 := by
  intro p hp
  simp only [dhooks25, List.mem_cons, List.not_mem_nil, or_false] at hp
  subst hp
  exact rec_ok
def deB : List V := [.int .u8 0, .int .u8 1, .int .u8 56, .int .u8 2, .int .u8 57, .int .u8 49, .int .u8 28, .int .u8 3, .int .u8 61, .int .u8 58, .int .u8 42, .int .u8 50, .int .u8 38, .int .u8 29, .int .u8 17, .int .u8 4, .int .u8 62, .int .u8 47, .int .u8 59, .int .u8 36, .int .u8 45, .int .u8 43, .int .u8 51, .int .u8 22, .int .u8 53, .int .u8 39, .int .u8 33, .int .u8 30, .int .u8 24, .int .u8 18, .int .u8 12, .int .u8 5, .int .u8 63, .int .u8 55, .int .u8 48, .int .u8 27, .int .u8 60, .int .u8 41, .int .u8 37, .int .u8 16, .int .u8 46, .int .u8 35, .int .u8 44, .int .u8 21, .int .u8 52, .int .u8 32, .int .u8 23, .int .u8 11, .int .u8 54, .int .u8 26, .int .u8 40, .int .u8 15, .int .u8 34, .int .u8 20, .int .u8 31, .int .u8 10, .int .u8 25, .int .u8 14, .int .u8 19, .int .u8 9, .int .u8 13, .int .u8 8, .int .u8 7, .int .u8 6]
def lr25 : List (Option Blk) := [none, none, none, none, none, some (tabBlk 386 deB)]
noncomputable def heap25 : H := ⟨6, [[lr25]], []⟩
theorem one25 : OneTab lr25 5 386 deB := by
  refine ⟨by decide, fun b x h => ?_⟩
  match b, h with
  | 0, h => cases h
  | 1, h => cases h
  | 2, h => cases h
  | 3, h => cases h
  | 4, h => cases h
  | 5, h =>
    simp [lr25] at h
    exact ⟨rfl, h.symm⟩
  | b + 6, h => simp [lr25] at h
/-- The table stands. -/
def TabW (w : World) : Prop := ∃ o, w.heap[5]? = some o ∧ BRep Tryz.prog (fun _ => undef) (vars 6) ⟨5, 0, 0⟩ (tabBlk 386 deB) o
theorem TabW.later {w w' : World} (h : TabW w) (hb : Below w.heap.size w w') : TabW w' := by
  obtain ⟨o, h1, h2⟩ := h
  exact ⟨o, (hb.block _ (Array.getElem?_eq_some_iff.1 h1).1).trans h1, h2⟩
set_option maxRecDepth 100000 in
theorem lives_run : isTrue (runTop Tryz.prog hooks25 dhooks25 3000 60 7 [] heap25) = true := by decide +kernel
theorem lives_any {w : World} (hw : 6 ≤ w.heap.size ∧ TabW w) : Calls Tryz.prog 7 #[] w fun e w' => e = .returned (.bool true) ∧ Below w.heap.size w w' :=
  true_args no_count mixed hooks25_ok dhooks25_ok lives_run (tab_ro one25) (tab_rep hw.1 (by decide) one25 hw.2) (vars_glob (by kernel_rfl)) DenL.nil
/-! words -/
noncomputable def strR (r : R (V × H)) : Option (Nat × Nat) := match r with
  | .ok (.str n c, _) => some (n, c)
  | _ => none
theorem strR_ok {r : R (V × H)} {n c : Nat} (h : strR r = some (n, c)) : ∃ h', r = .ok (.str n c, h') := by
  unfold strR at h
  split at h
  · cases h; exact ⟨_, rfl⟩
  · cases h
set_option maxRecDepth 100000 in
theorem words_run : (errsL.all fun e => match strR (runTop Tryz.prog hooks25 dhooks25 3000 60 5 [.int .i64 e] (h0 6)), strR (runTop Tryz.prog hooks25 dhooks25 3000 60 6 [.int .i64 e] (h0 6)) with
    | some x, some y => cond (Nat.beq x.1 y.1) (Nat.beq x.2 y.2) false
    | _, _ => false) = true := by decide +kernel
theorem str_calls {f n c : Nat} {e : Int} (h : strR (runTop Tryz.prog hooks25 dhooks25 3000 60 f [.int .i64 e] (h0 6)) = some (n, c)) {w : World} (hw : 6 ≤ w.heap.size) : Calls Tryz.prog f #[.int .i64 e] w fun r w' => r = .returned (.string ⟨(digs n c).toArray⟩) ∧ Below w.heap.size w w' := by
  obtain ⟨h', h2⟩ := strR_ok h
  refine (runTop_calls no_count mixed hooks25_ok dhooks25_ok h2 (fun _ => undef) (vars 6) _ w (vars_rep hw) (vars_glob (by kernel_rfl)) (DenL.one (by simp [Den]))).mono fun e' w' ⟨x, he, G', q1, q2, q3⟩ => ?_
  simp only [Den] at q1
  obtain ⟨_, rfl⟩ := q1
  exact ⟨he, q3.below (vars_ro _)⟩
theorem words_any (e : Int) : ∃ s : Array UInt8, ∀ w : World, 6 ≤ w.heap.size → (Calls Tryz.prog 5 #[.int .i64 e] w fun r w' => r = .returned (.string ⟨s⟩) ∧ Below w.heap.size w w') ∧ (Calls Tryz.prog 6 #[.int .i64 e] w fun r w' => r = .returned (.string ⟨s⟩) ∧ Below w.heap.size w w') := by
  by_cases he : e ∈ errsL
  · have h1 := List.all_eq_true.1 words_run e he
    split at h1
    case h_2 => cases h1
    rename_i x y hx hy
    cases hb : Nat.beq x.1 y.1 with
    | false => rw [hb] at h1; cases h1
    | true =>
      rw [hb] at h1
      have e1 := Nat.eq_of_beq_eq_true hb
      have e2 := Nat.eq_of_beq_eq_true h1
      obtain ⟨n, c⟩ := x
      obtain ⟨m, d⟩ := y
      simp only at e1 e2
      subst e1 e2
      exact ⟨(digs n c).toArray, fun w hw => ⟨str_calls hx hw, str_calls hy hw⟩⟩
  · exact ⟨errorB, fun w _ => ⟨(msg_else e he w).mono fun r w' ⟨h1, h2⟩ => ⟨h1, h2 ▸ Below.refl _ _⟩, refMsg_else e he w⟩⟩
theorem edWords_any (e : Int) (w : World) (hw : 6 ≤ w.heap.size ∧ TabW w) : Calls Tryz.prog 3 #[.int .i64 e] w fun r w' => r = .returned (.bool true) ∧ Below w.heap.size w w' := by
  obtain ⟨⟨s⟩, hs⟩ := words_any e
  have HS := Lib.hid hs
  have HW := Lib.hid hw
  have hss : (s == s) = true := beq_self_eq_true s
  clear hs hw
  go_enter Tryz.func3, Tryz.ntmps3
  go_wp2_with fail
  refine ((HS.out w HW.out.1).1).mono ?_
  rintro r w1 ⟨rfl, hb1⟩
  have HB1 := Lib.hid hb1
  clear hb1
  go_wp2_with fail
  refine ((HS.out w1 (Nat.le_trans HW.out.1 HB1.out.size)).2).mono ?_
  rintro r w2 ⟨rfl, hb2⟩
  have HB2 := Lib.hid (HB1.out.trans (hb2.mono HB1.out.size))
  clear hb2
  go_wp2_with fail
  refine (lives_any (w := w2) ⟨Nat.le_trans HW.out.1 HB2.out.size, HW.out.2.later HB2.out⟩).mono ?_
  rintro r w3 ⟨rfl, hb3⟩
  have HB3 := Lib.hid (HB2.out.trans (hb3.mono HB2.out.size))
  clear hb3
  go_wp2_with fail
  go_returns
  exact ⟨rfl, HB3.out⟩
end Go.Proofs.YthabjdjbcfkjhaaGreatDoor
