/- marks.Shift where no marks are set: run by the kernel, the splice unknown. -/
import Derived.Test.YtdljidgmdjndgaaGreatDoorRsY
import Derived.Test.YtdljidgmdjndgaaGreatDoorHk6
import Derived.Test.YtdljidgmdjndgaaGreatDoorCo5
import Derived.Test.YtdljidgmdjndgaaGreatDoorPcs1
import Derived.Deep.AppendLies
namespace Go.Proofs.YtdljidgmdjndgaaGreatDoor
open Go Go.Proofs Go.Ev Go.RowKit Go.Ink Go.Sort

def zerosV : List V := List.replicate 26 (.int .i64 0)
noncomputable def shiftB (r : R (V × H)) : Bool := match r with
  | .ok (.agg l, _) => vEqs l zerosV
  | _ => false
theorem shiftB_ok {r : R (V × H)} (h : shiftB r = true) : ∃ H', r = .ok (.agg zerosV, H') := by
  unfold shiftB at h
  split at h
  · rename_i l H'
    rw [vEqs_eq h]
    exact ⟨H', rfl⟩
  · cases h
set_option maxRecDepth 100000 in
theorem shift_run : shiftB (runTop Tryz.prog [] [] 3000 60 175 [.agg zerosV, .agg [.opq 0, .opq 1, .opq 2]] (h0 6)) = true := by decide +kernel
def spX (p d s : Value) : Nat → Value
  | 0 => p
  | 1 => d
  | _ => s
theorem den_zeros {ξ : Nat → Value} {G : Gh} : ∀ n : Nat, DenL ξ G (List.replicate n (.int .i64 0)) (List.replicate n (Value.int .i64 0))
  | 0 => by simp [DenL]
  | n + 1 => by rw [List.replicate_succ, List.replicate_succ]; exact DenL.cons (by simp [Den]) (den_zeros n)
theorem zeros_den {ξ : Nat → Value} {G : Gh} : ∀ (n : Nat) (l : List Value), DenL ξ G (List.replicate n (.int .i64 0)) l → l = List.replicate n (Value.int .i64 0)
  | 0, l, h => by simpa [DenL] using h
  | n + 1, l, h => by
    rw [List.replicate_succ] at h
    simp only [DenL] at h
    obtain ⟨x, xs, rfl, hx, hxs⟩ := h
    simp only [Den] at hx
    rw [hx, zeros_den n xs hxs, List.replicate_succ]
theorem noMarks_map : (noMarks.map fun m => (Value.int .i64 m)) = List.replicate 26 (Value.int .i64 0) := by unfold noMarks; rw [List.map_replicate]
theorem marksShift_none {w : World} (hw : 6 ≤ w.heap.size) (p d : Int) (a : Option Addr) (n c : Nat) :
    Calls Tryz.prog 175 #[.agg (noMarks.map fun m => (Value.int .i64 m)).toArray, .agg #[.int .i64 p, .int .i64 d, .slice a n c]] w fun e w' => e = .returned (.agg (noMarks.map fun m => (Value.int .i64 m)).toArray) ∧ Below w.heap.size w w' := by
  obtain ⟨H', h1⟩ := shiftB_ok shift_run
  refine (runTop_calls no_count mixed (by intro p hp; cases hp) (by intro p hp; cases hp) h1 (spX (.int .i64 p) (.int .i64 d) (.slice a n c)) (vars 6) _ w (vars_rep hw) (vars_glob (by kernel_rfl)) ?_).mono fun e' w' ⟨x, he, G', q1, q2, q3⟩ => ?_
  · refine DenL.cons ?_ (DenL.one ?_)
    · simp only [Den]
      exact ⟨_, rfl, by rw [noMarks_map]; exact den_zeros 26⟩
    · simp only [Den]
      refine ⟨_, rfl, DenL.cons ?_ (DenL.cons ?_ (DenL.one ?_))⟩
      all_goals (simp only [Den]; exact ⟨rfl, fun cs h => by cases h⟩)
  · simp only [Den] at q1
    obtain ⟨a', rfl, hd⟩ := q1
    have e := zeros_den 26 _ hd
    refine ⟨?_, q3.below (vars_ro _)⟩
    rw [he, noMarks_map, ← e]
end Go.Proofs.YtdljidgmdjndgaaGreatDoor
/- core.Splice. -/
namespace Go.Proofs.YtdljidgmdjndgaaGreatDoor
open Go Go.Proofs Go.RowKit Go.Ink Go.Sort

/-- The splices done so far: a row of the buffer's own. -/
def DoneOf (w : World) (v : Value) (n : Nat) : Prop := ∃ xs, w.ownsRow 0 158 3 v n xs
theorem DoneOf.nil (w : World) : DoneOf w (.slice none 0 0) 0 := ⟨[], World.ownsRow_nil _ _ _ _⟩
theorem DoneOf.later {w w' : World} {v : Value} {n : Nat} (h : DoneOf w v n) (hb : Below w.heap.size w w') : DoneOf w' v n := by
  obtain ⟨xs, h⟩ := h
  exact ⟨xs, ownsRow_below h hb⟩
theorem DoneOf.shape {w : World} {v : Value} {n : Nat} (h : DoneOf w v n) : ∃ ao cap, v = .slice ao n cap := by
  obtain ⟨xs, h⟩ := h
  rcases h.2 with ⟨rfl, rfl⟩ | ⟨g, cap, cur, rfl, _⟩
  · exact ⟨_, _, rfl⟩
  · exact ⟨_, _, rfl⟩
theorem DoneOf.kind {w : World} {v : Value} {n g : Nat} (h : DoneOf w v n) (hg : v.ownBlock = some g) : ∃ cs fr, w.heap[g]? = some (.cells cs 158 fr) := by
  obtain ⟨xs, h⟩ := h
  rcases h.2 with ⟨rfl, rfl⟩ | ⟨g', cap, cur, rfl, _, hh, _⟩
  · cases hg
  · simp only [Value.ownBlock, Option.some.injEq] at hg
    subst hg
    exact ⟨_, _, hh⟩
theorem DoneOf.kept {S : Nat → Prop} {w w' : World} {v : Value} {n : Nat} (h : DoneOf w v n) (hk : KeepT S w w') (hn : ∀ g, v.ownBlock = some g → ¬ S g) : DoneOf w' v n := by
  obtain ⟨xs, h⟩ := h
  exact ⟨xs, ownsRow_kept hk h hn⟩
/-- A splice laid behind those that were done. -/
theorem step_append_done {ops : Array Oper} {o : Oper} {a : Act} {w : World} {K : Act → World → Prop} {Q : Exit → Act → World → Prop} {E : Prop} (hgd : o.guard = none) (s x : Operand)
    (ho : o.op = .call { callee := .builtin .append, args := #[s, x], argTypes := #[32, 32] })
    (v : Value) (n : Nat) (hs : a.eval s = v) (hown : DoneOf w v n) (b : Nat) (hx : a.eval x = .slice (some ⟨b, 0, none⟩) 1 1) (c0 c1 c2 : Value) (T : TypeId) (hb : w.heap[b]? = some (.cells #[c0, c1, c2] T (0, 0)))
    (h0 : c0.oneCell' = true) (h1 : c1.oneCell' = true) (h2 : c2.oneCell' = true) (hn : n + 1 ≤ 1000000)
    (h : ∀ g cap w', DoneOf w' (.slice (some ⟨g, 0, none⟩) (n + 1) cap) (n + 1) → w.grownBy w' v.ownBlock → (v.ownBlock = some g ∨ g = w.heap.size) → g < w'.heap.size → K (a.put o.dst (.slice (some ⟨g, 0, none⟩) (n + 1) cap)) w') :
    if Region.wanted o (yielded ops a.tmps) = true then Oper.wp Tryz.prog o a w K Q else E := by
  obtain ⟨i0, hi, hz0, hz1, hz2⟩ := info_parts spl_info
  obtain ⟨xs, hown⟩ := hown
  refine step_append_lies w hgd s x 32 ho 0 158 i0 _ 3 40 Tryz.underlying32 hi hz0 hz1 hz2 rfl (by decide) v n xs hs hown ⟨b, 0, none⟩ 1 1 [c0, c1, c2] hx rfl ?_ ?_ (by omega) (by unfold maxLen; omega) (by omega) (Nat.zero_le _) _ rfl ?_
  · intro j u hj
    rw [add_none, Lib.cell_of_heap hb]
    simpa using hj
  · intro u hu
    simp only [List.mem_cons, List.not_mem_nil, or_false] at hu
    rcases hu with rfl | rfl | rfl <;> assumption
  · intro g cap w' k1 k2 k3 k4
    exact h g cap w' ⟨_, k1⟩ k2 k3 k4
end Go.Proofs.YtdljidgmdjndgaaGreatDoor
