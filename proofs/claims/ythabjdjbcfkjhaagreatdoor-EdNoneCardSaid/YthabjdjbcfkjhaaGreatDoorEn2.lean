/- core.New of nothing, files.New, ed.New (chapter 25). -/
import Derived.Test.YthabjdjbcfkjhaaGreatDoorEw3
import Derived.Test.YthabjdjbcfkjhaaGreatDoorEn1
import Derived.Test.YthabjdjbcfkjhaaGreatDoorDk1
set_option linter.unusedVariables false
set_option linter.unusedSimpArgs false
namespace Go.Proofs.YthabjdjbcfkjhaaGreatDoor
open Go Go.Proofs Go.Ev Go.RowKit Go.Ink

theorem filesNew_any (w : World) : Calls Tryz.prog 14 #[.int .i64 1000] w fun e w' => e = .returned (.tuple #[.pointer (some ⟨w.heap.size, 0, none⟩), .int .i64 0]) ∧ Below w.heap.size w w' := by
  go_enter Tryz.func14, Tryz.ntmps14
  go_wp2_with fail
  go_returns
  exact ⟨rfl, (Below.refl _ _).alloc (Nat.le_refl _) _⟩
/-- A buffer that is one: its table and its registers are there. -/
def CoreAt (w : World) (a q : Nat) : Prop := ∃ x y, w.cell? ⟨a, q, none⟩ = some (.pointer (some x)) ∧ w.cell? ⟨a, q + 29, none⟩ = some (.pointer (some y))
noncomputable def coreB (r : R (V × H)) : Bool := match r with
  | .ok (.tup [.ptr b o, .int .i64 0], h) => match h.get b with
    | some (.cells cs _ _ _) => match cs[o]?, cs[o + 29]? with
      | some (.ptr _ _), some (.ptr _ _) => true
      | _, _ => false
    | _ => false
  | _ => false
theorem coreB_ok {r : R (V × H)} (h : coreB r = true) : ∃ b o H' cs el k fz b1 o1 b2 o2, r = .ok (.tup [.ptr b o, .int .i64 0], H') ∧ H'.get b = some (.cells cs el k fz) ∧ cs[o]? = some (.ptr b1 o1) ∧ cs[o + 29]? = some (.ptr b2 o2) := by
  unfold coreB at h
  split at h
  · split at h
    · split at h
      · rename_i h1 _ _ _ _ _ _ h2 h3
        exact ⟨_, _, _, _, _, _, _, _, _, _, _, rfl, by assumption, by assumption, by assumption⟩
      · cases h
    · cases h
  · cases h
set_option maxRecDepth 100000 in
theorem core_run : coreB (runTop Tryz.prog hooks25 dhooks25 3000 60 15 [.snil] (h0 6)) = true := by decide +kernel
theorem coreNew_any {w : World} (hw : 6 ≤ w.heap.size) : Calls Tryz.prog 15 #[.slice none 0 0] w fun e w' => ∃ a q, e = .returned (.tuple #[.pointer (some ⟨a, q, none⟩), .int .i64 0]) ∧ CoreAt w' a q ∧ Below w.heap.size w w' := by
  obtain ⟨b, o, H', cs, el, k, fz, b1, o1, b2, o2, h1, h2, h3, h4⟩ := coreB_ok core_run
  refine (runTop_calls no_count mixed hooks25_ok dhooks25_ok h1 (fun _ => undef) (vars 6) _ w (vars_rep hw) (vars_glob (by kernel_rfl)) (DenL.one (by simp [Den]))).mono fun e' w' ⟨x, he, G', q1, q2, q3⟩ => ?_
  simp only [Den, DenL] at q1
  obtain ⟨arr, rfl, x0, l0, e0, ⟨g, hg, rfl⟩, x1, l1, rfl, rfl, rfl⟩ := q1
  have ea : arr = #[.pointer (some ⟨g.addr, g.off + o, none⟩), .int .i64 0] := by
    obtain ⟨l⟩ := arr
    simp at e0
    rw [e0]
  subst ea
  obtain ⟨g', ob, hg', hob, hbr⟩ := q2.blk b _ h2
  rw [hg] at hg'
  cases hg'
  obtain ⟨ar, lo, hi, rfl, hc, _, _⟩ := hbr
  obtain ⟨x, hx, hdx⟩ := hc o _ h3
  obtain ⟨y, hy, hdy⟩ := hc (o + 29) _ h4
  simp only [Den] at hdx hdy
  obtain ⟨gx, _, rfl⟩ := hdx
  obtain ⟨gy, _, rfl⟩ := hdy
  refine ⟨g.addr, g.off + o, he, ⟨⟨gx.addr, gx.off + o1, none⟩, ⟨gy.addr, gy.off + o2, none⟩, ?_, ?_⟩, q3.below (vars_ro _)⟩
  · rw [Lib.cell_of_heap hob]; exact hx
  · rw [Lib.cell_of_heap hob, Nat.add_assoc]; exact hy
end Go.Proofs.YthabjdjbcfkjhaaGreatDoor
