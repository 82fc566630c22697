/- lives of chapter 23: its pieces joined. -/
import Derived.Test.YtjibimocplkfiaaGreatDoorRsQ0
import Derived.Test.YtjibimocplkfiaaGreatDoorRsQ1
import Derived.Test.YtjibimocplkfiaaGreatDoorRsQ2
import Derived.Test.YtjibimocplkfiaaGreatDoorRsQ3
namespace Go.Proofs.YtjibimocplkfiaaGreatDoor
open Go Go.Proofs Go.Ev Go.RowKit Go.Ink

def isT : List (List V × List V) := [is0A, is1A, is2A, is3A, is4A, is5A, is6A, is7A, is8A, is9A, is10A, is11A, is12A, is13A, is14A]
theorem isT_ok : ∀ p ∈ isT, ∃ hooks dhooks : List (Nat × Hook), (∀ p ∈ hooks, CallOk1 Tryz.prog p.1 p.2) ∧ (∀ p ∈ dhooks, DefOk1 Tryz.prog p.1 p.2) ∧ isTrue (runTop Tryz.prog hooks dhooks 3000 60 11 (p.1 ++ [.slice 6 0 p.2.length p.2.length]) (slHeap 6 lr23 9 p.2)) = true := by
  intro l hl
  simp only [isT, List.mem_cons, List.not_mem_nil, or_false] at hl
  rcases hl with rfl | rfl | rfl | rfl | rfl | rfl | rfl | rfl | rfl | rfl | rfl | rfl | rfl | rfl | rfl
  · exact ⟨hooks23, dhooks23, hooks23_ok, dhooks23_ok, is0_run⟩
  · exact ⟨hooks23, dhooks23, hooks23_ok, dhooks23_ok, is1_run⟩
  · exact ⟨hooks23, dhooks23, hooks23_ok, dhooks23_ok, is2_run⟩
  · exact ⟨hooks23, dhooks23, hooks23_ok, dhooks23_ok, is3_run⟩
  · exact ⟨hooks23, dhooks23, hooks23_ok, dhooks23_ok, is4_run⟩
  · exact ⟨hooks23, dhooks23, hooks23_ok, dhooks23_ok, is5_run⟩
  · exact ⟨hooks23, dhooks23, hooks23_ok, dhooks23_ok, is6_run⟩
  · exact ⟨hooks23, dhooks23, hooks23_ok, dhooks23_ok, is7_run⟩
  · exact ⟨hooksP, dhooks23, hooksP_ok, dhooks23_ok, is8_run⟩
  · exact ⟨hooks23, dhooks23, hooks23_ok, dhooks23_ok, is9_run⟩
  · exact ⟨hooks23, dhooks23, hooks23_ok, dhooks23_ok, is10_run⟩
  · exact ⟨hooks23, dhooks23, hooks23_ok, dhooks23_ok, is11_run⟩
  · exact ⟨hooks23, dhooks23, hooks23_ok, dhooks23_ok, is12_run⟩
  · exact ⟨hooks23, dhooks23, hooks23_ok, dhooks23_ok, is13_run⟩
  · exact ⟨hooks23, dhooks23, hooks23_ok, dhooks23_ok, is14_run⟩
theorem isT_flat : ∀ p ∈ isT, p.1.all flat = true ∧ p.2.all flat = true := by
  intro l hl
  simp only [isT, List.mem_cons, List.not_mem_nil, or_false] at hl
  rcases hl with rfl | rfl | rfl | rfl | rfl | rfl | rfl | rfl | rfl | rfl | rfl | rfl | rfl | rfl | rfl <;> exact ⟨rfl, rfl⟩
theorem isT_hook : CallOk1 Tryz.prog 11 (hMemoS 5 310 9 deB isT) :=
  memoS_ok no_count mixed (cf := 3000) (fuel := 60) (c := (Tryz.f11.body).getD .skip) Tryz.func11 (by kernel_rfl) (by kernel_rfl) rfl (by decide) (by decide) one23 (by decide +kernel) isT_ok isT_flat
noncomputable def hooksL : List (Nat × Hook) := [(11, hMemoS 5 310 9 deB isT)]
theorem hooksL_ok : ∀ p ∈ hooksL, CallOk1 Tryz.prog p.1 p.2 := by
  intro p hp
  simp only [hooksL, List.mem_cons, List.not_mem_nil, or_false] at hp
  subst hp
  exact isT_hook
/-- The table stands. -/
def TabW (w : World) : Prop := ∃ o, w.heap[5]? = some o ∧ BRep Tryz.prog (fun _ => undef) (vars 6) ⟨5, 0, 0⟩ (tabBlk 310 deB) o
theorem TabW.later {w w' : World} (h : TabW w) (hb : Below w.heap.size w w') : TabW w' := by
  obtain ⟨o, h1, h2⟩ := h
  exact ⟨o, (hb.block _ (Array.getElem?_eq_some_iff.1 h1).1).trans h1, h2⟩
set_option maxRecDepth 100000 in
theorem lives_run : isTrue (runTop Tryz.prog hooksL [] 3000 60 5 [] heap23) = true := by decide +kernel
theorem lives_any {w : World} (hw : 6 ≤ w.heap.size ∧ TabW w) : Calls Tryz.prog 5 #[] w fun e w' => e = .returned (.bool true) ∧ Below w.heap.size w w' :=
  true_args no_count mixed hooksL_ok (fun p hp => by cases hp) lives_run (tab_ro one23) (tab_rep hw.1 (by decide) one23 hw.2) (vars_glob (by kernel_rfl)) DenL.nil
end Go.Proofs.YtjibimocplkfiaaGreatDoor
