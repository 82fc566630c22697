/- A range over a function whose iterator writes a variable of its own (a box laid ahead of the loop); no round jumps. No program in sight. -/
import Derived.Deep.Draws
import Derived.RangeFuncNested
import Derived.RangeFuncFrom
import Derived.RangeFuncBox
import Derived.RangeFuncBound
import Derived.RangeFuncCalls
import Derived.RangeFuncLeaves
import Derived.RangeFuncWrites
set_option linter.unusedVariables false
set_option linter.unusedSimpArgs false
namespace Go.Ink
open Go Go.RowKit

/-- What the law lays: the loop's record and the block of deferred calls. -/
def LoopAt (L : Nat) (r : Loop) (W : World) : Prop := W.heap[L + 1]? = some (.loop r) ∧ W.heap[L]? = some (.deferred (some []))
theorem LoopAt.step {L : Nat} {r : Loop} {W W' : World} (h : LoopAt L r W) (h1 : W'.heap[L + 1]? = W.heap[L + 1]?) (h2 : W'.heap[L]? = W.heap[L]?) : LoopAt L r W' := ⟨h1.trans h.1, h2.trans h.2⟩
theorem wpIn_range_box {F : Fence} {n : Nat} {P : Program} {g : Operand} {ps : Array Tmp} {assign body : Code} {Q : Exit → Act → World → Prop} {a : Act} {w : World} (hro : F.round = none) (h1 : 1 ≤ n) {gf : Nat} {lb : Array Value} (hg : a.eval g = .func (.func gf) #[] lb) (hFg : F.fn gf)
    (eg : ∀ args w, (callFunc gf args).run P w = .ok (.enter gf args) w) (N : Nat) (encs : Nat → Array Value) (hps : ∀ k, (encs k).size = ps.size) (I : Nat → World → Prop) (Kp : World → World → Prop) (Bt : Nat) (hBt : Bt < w.heap.size)
    (hI : OwnFrom w.heap.size I) (hIB : ∀ k W v, I k W → I k (W.setCell ⟨Bt, 0, none⟩ v)) (h0 : I 0 w) (hKt : ∀ {A B C : World}, Kp A B → Kp B C → Kp A C) (hKb : ∀ (W : World) (l : Nat) (o' : Obj), w.heap.size ≤ l → l < W.heap.size → Kp W (W.putObj l o'))
    (a₁ : Nat → Act)
    (hassign : ∀ (l k : Nat) (W : World) (K : Act → World → Prop), K (a₁ k) W → assign.wpIn (F.inRound l) (n - 1 - 1) P (Exit.then K (fun _ _ _ => False)) { tmps := (ps.zip (encs k)).foldl (fun t (p, v) => t.setIfInBounds p v) a.tmps, defers := [] } W)
    (hbody : ∀ (l k : Nat) (W : World), I k W → k < N → body.wpIn (F.inRound l) (n - 1 - 1) P (fun e _ W' => e = .normal ∧ KeepsFrom w.heap.size W W' ∧ Kp W W' ∧ I (k + 1) W') (a₁ k) W)
    (hiter : ∀ (y : Nat) (J : Nat → World → Prop) (W : World), J 0 W → W.heap[Bt]? = w.heap[Bt]? → (∀ k A m, J k A → J k (A.drewN m)) → (∀ k A v, J k A → J k (A.setCell ⟨Bt, 0, none⟩ v)) →
      (∀ k A, J k A → k < N → YieldAt F (n - 1 - 1) P y (encs k) A fun e B => e = .returned (.bool true) ∧ J (k + 1) B ∧ Kp A B) →
      CallsIn F (n - 1) P gf (#[.func (.yield y) #[] #[]] ++ lb) W fun e B => (∃ v, e = .returned v) ∧ J N B)
    (hdone : ∀ (D : Nat) (W : World), w.heap.size ≤ D → I N W → W.heap[D]? = some (.deferred (some [])) → Q .normal { a with defers := { target := .collected D, args := #[] } :: a.defers } W) :
    (Code.rangeFunc g ps assign body).wpIn F n P Q a w := by
  refine wpIn_rangeFunc fun fn hfn => ?_
  rw [hro]
  obtain ⟨L, hL⟩ : ∃ L, w.heap.size = L := ⟨_, rfl⟩
  rw [hL] at hI hKb hbody hdone hBt
  obtain ⟨rec, hrec⟩ : ∃ rec : LoopState → Loop, rec = fun st => { state := st, pending := none, fn, tmps := a.tmps, params := ps, assign, body, defers := L } := ⟨_, rfl⟩
  obtain ⟨W1, hW1⟩ : ∃ W1, (w.alloc (.deferred (some []))).alloc (.loop (rec .ready)) = W1 := ⟨_, rfl⟩
  have hat : LoopAt L (rec .ready) W1 := by
    rw [← hW1, ← hL]
    refine ⟨?_, (Below.heap_alloc _ _ _ (by simp)).trans (World.alloc_heap_new w _)⟩
    have := World.alloc_heap_new (w.alloc (.deferred (some []))) (.loop (rec .ready))
    rwa [World.size_alloc] at this
  have hI1 : I 0 W1 := by rw [← hW1]; exact hI.alloc _ (hI.alloc _ h0)
  have hbx : W1.heap[Bt]? = w.heap[Bt]? := by
    rw [← hW1, Below.heap_alloc _ _ _ (by simp; omega), Below.heap_alloc _ _ _ (by omega)]
  refine ⟨L + 1, [{ target := .collected L, args := #[] }], W1, { target := .fn (.func gf) lb, args := #[.func (.yield (L + 1)) #[] #[]] }, W1, gf, #[.func (.yield (L + 1)) #[] #[]] ++ lb, W1, ?_, ?_, ?_, ?_, fun _ => h1, ?_⟩
  · rw [← hW1, hrec, ← hL]; exact run_enterLoop_outer _ _ _ _ _
  · simp only [resolve, hg]
    simp [go_sem]
  · intro f' hf'
    simp [Target.leads] at hf'
    subst hf'; exact hFg
  · simp [invoke, go_sem, eg]
  refine (hiter (L + 1) (fun k W => I k W ∧ LoopAt L (rec .ready) W) W1 ⟨hI1, hat⟩ hbx (fun k A m ⟨q1, q2⟩ => ⟨hI k A _ none q1 ⟨rfl, rfl, rfl, Nat.le_refl _, fun _ _ _ => rfl⟩ (fun r e => by cases e), q2⟩)
    (fun k A v ⟨q1, q2⟩ => ⟨hIB k A v q1, q2.step (Below.heap_setCell _ _ _ _ (by show L + 1 ≠ Bt; omega)) (Below.heap_setCell _ _ _ _ (by show L ≠ Bt; omega))⟩) ?round).mono ?after
  case after =>
    rintro e B ⟨⟨v, rfl⟩, hi, hl⟩
    have hend := run_endLoop (P := P) hl.1 (by rw [hrec]; simp)
    rw [hrec] at hend
    refine ⟨none, _, hend, hdone L _ (Nat.le_refl _) (hI.putObj _ hi (by omega) hl.1 rfl) ((World.putObj_heap_other (by omega)).trans hl.2)⟩
  case round =>
    rintro k A ⟨hi, hl⟩ hk
    have hlt : L + 1 < A.heap.size := (Array.getElem?_eq_some_iff.1 hl.1).1
    have hy := run_yield (P := P) (args := encs k) hl.1 (by rw [hrec]; exact hps k)
    rw [hrec] at hy
    refine ⟨fn, _, assign, body, hy, roundIn_of_wpIn hfn (hassign _ k A _ ⟨_, run_beginRound hl.1 (by rw [hrec]), ?_⟩)⟩
    have hbusy : LoopAt L (rec .busy) (A.putObj (L + 1) (.loop { rec .ready with state := .busy })) := by
      refine ⟨?_, (World.putObj_heap_other (by omega)).trans hl.2⟩
      rw [hrec]; exact World.putObj_heap_same hlt
    refine wpIn_mono (hbody _ k _ (hI.putObj _ hi (by omega) hl.1 rfl) hk) ?_
    rintro e a3 W3 ⟨rfl, hk3, hkp, hi3⟩
    have hl3 : LoopAt L (rec .busy) W3 := ⟨hk3.same _ _ (by omega) hbusy.1 rfl, hk3.same _ _ (Nat.le_refl _) hbusy.2 rfl⟩
    have hr := run_endRound (P := P) none hl3.1
    rw [hrec] at hr
    have hlt3 : L + 1 < W3.heap.size := (Array.getElem?_eq_some_iff.1 hl3.1).1
    refine ⟨_, _, hr, rfl, ⟨hI.putObj _ hi3 (by omega) hl3.1 rfl, ?_, (World.putObj_heap_other (by omega)).trans hl3.2⟩, hKt (hKt (hKb _ _ _ (by omega) hlt) hkp) (hKb _ _ _ (by omega) hlt3)⟩
    rw [hrec]; exact World.putObj_heap_same hlt3
end Go.Ink
