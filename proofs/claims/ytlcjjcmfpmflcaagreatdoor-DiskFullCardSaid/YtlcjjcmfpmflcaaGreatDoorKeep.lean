/- Worlds that differ in some old blocks alone. -/
import Derived.Test.YtlcjjcmfpmflcaaGreatDoorBase
import Derived.Laws.CopyOwn
set_option linter.unusedVariables false
set_option linter.unusedSimpArgs false
namespace Go.Ink
open Go Go.RowKit

/-- The streams are as they were, no block has gone, and all old blocks but those of S stand. -/
structure KeepT (S : Nat → Prop) (w w' : World) : Prop where
  os : w'.os = w.os
  tape : w'.tape = w.tape
  output : w'.output = w.output
  size : w.heap.size ≤ w'.heap.size
  block : ∀ k, k < w.heap.size → ¬ S k → w'.heap[k]? = w.heap[k]?
theorem KeepT.refl (S : Nat → Prop) (w : World) : KeepT S w w := ⟨rfl, rfl, rfl, Nat.le_refl _, fun _ _ _ => rfl⟩
theorem KeepT.trans {S S' : Nat → Prop} {a b c : World} (h : KeepT S a b) (k : KeepT S' b c) (hs : ∀ i, i < a.heap.size → S' i → S i) : KeepT S a c :=
  ⟨k.os.trans h.os, k.tape.trans h.tape, k.output.trans h.output, Nat.le_trans h.size k.size, fun i hi hn => (k.block i (Nat.lt_of_lt_of_le hi h.size) (fun e => hn (hs i hi e))).trans (h.block i hi hn)⟩
theorem KeepT.drew {S : Nat → Prop} {a w : World} (h : KeepT S a w) : KeepT S a w.drew := ⟨h.os, h.tape, h.output, h.size, h.block⟩
theorem KeepT.drewN {S : Nat → Prop} {a w : World} (h : KeepT S a w) (n : Nat) : KeepT S a (w.drewN n) := ⟨h.os, h.tape, h.output, h.size, h.block⟩
theorem KeepT.mono {S S' : Nat → Prop} {a w : World} (h : KeepT S a w) (hs : ∀ i, i < a.heap.size → S i → S' i) : KeepT S' a w := ⟨h.os, h.tape, h.output, h.size, fun k hk hn => h.block k hk (fun e => hn (hs k hk e))⟩
theorem KeepT.alloc {S : Nat → Prop} {a w : World} (h : KeepT S a w) (o : Obj) : KeepT S a (w.alloc o) :=
  ⟨h.os, h.tape, h.output, by have := h.size; simp; omega, fun k hk hn => (Below.heap_alloc w o k (Nat.lt_of_lt_of_le hk h.size)).trans (h.block k hk hn)⟩
theorem KeepT.setCell {S : Nat → Prop} {a w : World} (h : KeepT S a w) {p : Addr} (hp : S p.block ∨ a.heap.size ≤ p.block) (u : Value) : KeepT S a (w.setCell p u) :=
  ⟨h.os, h.tape, h.output, by have := h.size; simpa [World.setCell] using this, fun k hk hn => (Below.heap_setCell w p u k (fun e => by subst e; rcases hp with hp | hp; exact hn hp; omega)).trans (h.block k hk hn)⟩
theorem KeepT.grown {S : Nat → Prop} {a w w' : World} {row : Option Nat} (h : KeepT S a w) (hg : w.grownBy w' row) (hr : ∀ k, row = some k → S k ∨ a.heap.size ≤ k) : KeepT S a w' :=
  ⟨hg.os.trans h.os, hg.tape.trans h.tape, hg.output.trans h.output, Nat.le_trans h.size hg.size, fun k hk hn => (hg.block k (Nat.lt_of_lt_of_le hk h.size) (fun e => by rcases hr k e.symm with h' | h'; exact hn h'; omega)).trans (h.block k hk hn)⟩
theorem KeepT.of_below {S : Nat → Prop} {a w : World} (h : Below a.heap.size a w) : KeepT S a w := ⟨h.os, h.tape, h.output, h.size, fun k hk _ => h.block k hk⟩
theorem KeepT.then_below {S : Nat → Prop} {a b c : World} (h : KeepT S a b) (k : Below b.heap.size b c) : KeepT S a c := h.trans (KeepT.of_below (S := fun _ => False) k) (fun _ _ e => e.elim)
theorem KeepT.below {S : Nat → Prop} {B : Nat} {a w : World} (h : KeepT S a w) (hB : B ≤ a.heap.size) (hs : ∀ i, S i → B ≤ i) : Below B a w :=
  ⟨h.os, h.tape, h.output, h.size, fun k hk => h.block k (by omega) (fun e => by have := hs k e; omega)⟩
theorem KeepT.cell {S : Nat → Prop} {w w' : World} (h : KeepT S w w') {p : Addr} (hp : p.block < w.heap.size) (hn : ¬ S p.block) : w'.cell? p = w.cell? p := World.cell?_of_block (w := w) (h.block p.block hp hn)
/-- A slice that holds none of the blocks that are turned. -/
theorem SlOf.kept {α : Type} {R : World → Value → α → Prop} {S : Nat → Prop} {w w' : World} {ao : Option Addr} {cap : Nat} {xs : List α} (hk : KeepT S w w') (h : SlOf R w ao cap xs) (hn : ∀ b off, ao = some ⟨b, off, none⟩ → ¬ S b) (hR : ∀ u x, R w u x → R w' u x) : SlOf R w' ao cap xs := by
  obtain ⟨h1, h2, h3, h4⟩ := h
  refine ⟨h1, h2, h3, fun k x hx => ?_⟩
  obtain ⟨b, off, u, ha, hc, hr⟩ := h4 k x hx
  exact ⟨b, off, u, ha, (hk.cell (p := ⟨b, off + k, none⟩) (lt_of_cell hc) (hn b off ha)).trans hc, hR _ _ hr⟩
theorem ownsRow_kept {S : Nat → Prop} {w w' : World} {base : Nat} {e : TypeId} {size : Nat} {v : Value} {n : Nat} {xs : List Value} (hk : KeepT S w w') (h : w.ownsRow base e size v n xs) (hn : ∀ b, v.ownBlock = some b → ¬ S b) : w'.ownsRow base e size v n xs := by
  obtain ⟨h1, h2⟩ := h
  refine ⟨h1, ?_⟩
  rcases h2 with h2 | ⟨g, cap, cur, hv, hg, hh, r⟩
  · exact .inl h2
  · exact .inr ⟨g, cap, cur, hv, hg, (hk.block g (Array.getElem?_eq_some_iff.1 hh).1 (hn g (by rw [hv]; rfl))).trans hh, r⟩
/-- copy into a row that is known whole; no other block is turned. -/
theorem wpList_copy_keep {P : Program} {w : World} {ops : Array Oper} {rest : List Oper} {o : Oper} {a : Act} {Q : Exit → Act → World → Prop} (hgd : o.guard = none) (d s : Operand) (dT sT : TypeId)
    (ho : o.op = .call { callee := .builtin .copy, args := #[d, s], argTypes := #[dT, sT] }) (elem : TypeId) (hu : P.underlying dT = some (.slice elem)) (hsz : (P.info? elem).map (·.size) = some 1)
    (dp sp : Option Addr) (dLen dCap sLen sCap : Nat) (hd : a.eval d = .slice dp dLen dCap) (hs : a.eval s = .slice sp sLen sCap)
    (g off : Nat) (cur : List Value) (t : TypeId) (hg : w.heap[g]? = some (.cells cur.toArray t (0, 0))) (cs : List Value) (hn : cs.length = Nat.min sLen dLen)
    (hpos : 0 < cs.length → dp = some ⟨g, off, none⟩ ∧ ∃ ad, sp = some ad ∧ ∀ j v, cs[j]? = some v → w.cell? (ad.add j) = some v)
    (hfit : off + cs.length ≤ cur.length) (h1 : ∀ v ∈ cs, v.oneCell' = true)
    (h : ∀ w', Hid (w'.heap[g]? = some (.cells (splice cur off cs).toArray t (0, 0))) → Hid (KeepT (fun k => k = g) w w') → wpList P ops Q rest (a.put o.dst (goInt cs.length)) w') :
    wpList P ops Q (o :: rest) a w := by
  by_cases h0 : cs.length = 0
  · obtain rfl : cs = [] := List.eq_nil_of_length_eq_zero h0
    refine wpList_copy_nothing hgd d s dT sT ho elem hu hsz dp sp dLen dCap sLen sCap hd hs (by simpa using hn.symm) ?_
    exact h w (show _ = _ by simpa [splice] using hg) (KeepT.refl _ _)
  · obtain ⟨rfl, ad, rfl, hsrc⟩ := hpos (by omega)
    refine wpList_copy_own hgd d s dT sT ho elem hu hsz g off dLen dCap ad sLen sCap hd hs cur.toArray t hg cs hn hsrc (by simpa using hfit) h1 ?_
    exact h _ (show _ = _ by simpa [splice] using setRow_heap w g _ _ t _ hg) ⟨rfl, rfl, rfl, by simp [World.setRow], fun k hk hn => setRow_other w g k _ hn⟩
/-- One cell that was laid just now. -/
theorem news_one (w : World) (u : Value) (e : TypeId) : ∀ j x, [u][j]? = some x → (w.alloc (.cells #[u] e (0, 0))).cell? ((⟨w.heap.size, 0, none⟩ : Addr).add j) = some x := by
  intro j x hj
  match j, hj with
  | 0, hj =>
    simp at hj; subst hj
    show (w.alloc _).cell? ⟨w.heap.size, 0, none⟩ = _
    rw [Lib.cell_of_heap (cs := #[u]) (T := e) (fr := (0, 0)) (by show (w.heap.push _)[w.heap.size]? = _; rw [Array.getElem?_push, if_pos rfl])]
    rfl
theorem news_ok {u : Value} (h : u.oneCell' = true) : ∀ x ∈ [u], x.oneCell' = true := by
  intro x hx; simp at hx; subst hx; exact h
end Go.Ink
