/- The deferred call of bre.Parse, where nothing has panicked. -/
import Derived.Test.YtnblgomjmmnkaaaGreatDoorHk2
import Derived.Test.YtnblgomjmmnkaaaGreatDoorBase
import Derived.Test.YtnblgomjmmnkaaaGreatDoorProg
import Derived.Recover
import Derived.Defers
set_option linter.unusedVariables false
set_option linter.unusedSimpArgs false
namespace Go.Proofs.YtnblgomjmmnkaaaGreatDoor
open Go Go.Proofs Go.Ev Go.RowKit

theorem no_count : NoCount Tryz.prog := noCount_ok (by decide +kernel)
theorem mixed : Tryz.prog.follows .mixedOrders = true := by decide +kernel
noncomputable def hRec : Hook := fun l h => match l with
  | [_, _] => .ok (.tup [], h)
  | _ => .no 340
theorem rec_ok : DefOk1 Tryz.prog 109 hRec := by
  intro l h v h' h0
  unfold hRec at h0
  split at h0
  case h_2 => cases h0
  cases h0
  refine ⟨rfl, fun ξ G args w rp hG hd => ?_⟩
  simp only [DenL] at hd
  obtain ⟨x, xs, e1, _, y, ys, e2, _, e3⟩ := hd
  have ea : args = #[x, y] := by
    apply Array.toList_inj.1
    rw [e1, e2, e3]
  subst ea
  have hb : Tryz.f109.body = some ((Tryz.f109.body).getD .skip) := by kernel_rfl
  refine ⟨callFunc_run no_count Tryz.func109 hb _ w, ?_⟩
  refine callsD_of_wpS Tryz.func109 rfl fun c₀ cs hu => ?_
  simp only [Tryz.ntmps109, List.size_toArray, List.length_cons, List.length_nil, Nat.reduceAdd, Nat.reduceSub, Array.replicate_succ, Array.replicate_zero, List.push_toArray, List.append_toArray, List.nil_append, List.cons_append]
  refine wpS_seq (wpS_region ?_)
  have hr : recoverD (c₀ :: cs) = none := by simp [recoverD, hu]
  simp [wpOpsS, List.range_succ, Region.wanted, execOp, resolve, invoke, builtin, go_sem, hr, Exit.thenS, Act.put]
  refine wpS_of_wp ?_
  go_wp2_with fail
  refine ⟨rfl, .returning, ?_, .tuple #[], results_none rfl _ _ _, rfl, .tuple #[], rfl, G, ?_, rp, Step.refl _ _ _⟩
  · rw [← hu]
  · simp only [Den]
    exact ⟨_, rfl, DenL.nil⟩
end Go.Proofs.YtnblgomjmmnkaaaGreatDoor
