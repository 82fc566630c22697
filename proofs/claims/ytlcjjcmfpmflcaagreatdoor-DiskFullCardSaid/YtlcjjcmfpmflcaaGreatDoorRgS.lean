/- A region that draws its order, parted: operations in whatever order, then those that come in one order alone. No program in sight. -/
import Derived.StillTail
import Derived.OrdersHeld
import Derived.Deep.RegionHeld
set_option linter.unusedVariables false
set_option linter.unusedSimpArgs false
namespace Go

section
variable {P : Program} {Q : Exit → Act → World → Prop} {R : Act → World → Prop}
/-- Another post where nothing panicked. -/
def headPost (Q : Exit → Act → World → Prop) (R : Act → World → Prop) : Exit → Act → World → Prop
  | .normal, a, w => R a w
  | e, a, w => Q e a w
theorem headPost_lets (h : LetsOut (headPost Q R)) : LetsOut Q := h
theorem Oper.wp_head {o : Oper} {a : Act} {w : World} {K : Act → World → Prop} (hh : o.wp P a w K (headPost Q R)) : o.wp P a w K Q := by
  unfold Oper.wp at *
  generalize (execOp a.eval o).run P w = r at *
  cases r with
  | ok n w' =>
    cases n <;> simp only [Oper.upon] at hh ⊢ <;> first
      | exact hh
      | (refine Calls.mono hh fun e w'' he => ?_
         cases e <;> exact he)
  | halt x w' =>
    cases x <;> simp only [Oper.upon] at hh ⊢
    exact hh
variable {ops : Array Oper}
/-- Which operations of the head may come up is the same with the tail behind it. -/
structure Same (ops hd : Array Oper) (n : Nat) : Prop where
  size : hd.size = n
  lt : n < ops.size
  at' : ∀ i, i < n → ops[i]? = hd[i]?
  guard : ∀ (i : Nat) o, ops[i]? = some o → o.guard = none
  topo : ∀ (i : Nat) o, i < n → ops[i]? = some o → ∀ e ∈ o.after, Region.binds .any e = true → e.on < i
structure Lists (ops : Array Oper) (n : Nat) (LH L : Array Bool) : Prop where
  hsize : LH.size = n
  size : L.size = ops.size
  head : ∀ j, j < n → L[j]? = LH[j]?
  tail : ∀ j, n ≤ j → j < ops.size → L[j]? = some false
theorem Lists.set {n : Nat} {LH L : Array Bool} (h : Lists ops n LH L) {i : Nat} (hi : i < n) : Lists ops n (LH.setIfInBounds i true) (L.setIfInBounds i true) := by
  refine ⟨by simp [h.hsize], by simp [h.size], fun j hj => ?_, fun j hj hj2 => ?_⟩
  · have h1 := h.head j hj
    by_cases hij : i = j
    · subst hij
      rw [Array.getElem?_setIfInBounds, Array.getElem?_setIfInBounds, if_pos rfl, if_pos rfl]
      have hl : i < LH.size := by rw [h.hsize]; exact hi
      have hl2 : i < L.size := by
        rw [Array.getElem?_eq_getElem hl] at h1
        exact (Array.getElem?_eq_some_iff.1 h1).1
      rw [if_pos hl, if_pos hl2]
    · rw [Array.getElem?_setIfInBounds_ne hij, Array.getElem?_setIfInBounds_ne hij, h1]
  · rw [Array.getElem?_setIfInBounds_ne (by omega)]
    exact h.tail j hj hj2
theorem Lists.getD {n : Nat} {LH L : Array Bool} (h : Lists ops n LH L) {j : Nat} (hj : j < n) (d : Bool) : L.getD j d = LH.getD j d := by
  rw [Array.getD_eq_getD_getElem?, Array.getD_eq_getD_getElem?, h.head j hj]
theorem ready_head {hd : Array Oper} {n : Nat} {LH L : Array Bool} (s : Same ops hd n) (h : Lists ops n LH L) {i : Nat} (hi : i < n) : i ∈ Region.ready .any ops L ↔ i ∈ Region.ready .any hd LH := by
  rw [mem_ready, mem_ready, h.getD hi, s.at' i hi]
  refine and_congr_right fun _ => exists_congr fun o => and_congr_right fun ho => forall_congr' fun e => forall_congr' fun he => forall_congr' fun hb => ?_
  have := s.topo i o hi (by rw [s.at' i hi]; exact ho) e he hb
  rw [h.getD (by omega)]
theorem ready_lt {hd : Array Oper} {n : Nat} {LH : Array Bool} (hs : hd.size = n) {i : Nat} (hi : i ∈ Region.ready .any hd LH) : i < n := by
  obtain ⟨_, o, ho, _⟩ := mem_ready.1 hi
  have := (Array.getElem?_eq_some_iff.1 ho).1
  omega
/-- Where none of the head may come up all of it has. -/
theorem all_listed {hd : Array Oper} {n : Nat} {LH L : Array Bool} (s : Same ops hd n) (h : Lists ops n LH L) (hr : Region.ready .any hd LH = []) : ∀ i, i < n → LH.getD i false = true := by
  intro i
  induction i using Nat.strongRecOn with
  | _ i ih =>
    intro hi
    by_cases hl : LH.getD i false = true
    · exact hl
    · exfalso
      have hl' : LH.getD i true = false := by
        rw [Array.getD_eq_getD_getElem?] at hl ⊢
        have : i < LH.size := by rw [h.hsize]; exact hi
        rw [Array.getElem?_eq_getElem this] at hl ⊢
        simpa using hl
      obtain ⟨o, ho⟩ : ∃ o, hd[i]? = some o := ⟨_, Array.getElem?_eq_getElem (by rw [s.size]; exact hi)⟩
      have hm : i ∈ Region.ready .any hd LH := mem_ready.2 ⟨hl', o, ho, fun e he hb => by
        have hlt := s.topo i o hi (by rw [s.at' i hi]; exact ho) e he hb
        exact ih e.on hlt (by omega)⟩
      rw [hr] at hm
      cases hm
theorem wpAny_of_seqX {md : Region.Mode} {Q' : Exit → Act → World → Prop} : ∀ (l : List Oper) (x k : Nat) (listed : Array Bool) (a : Act) (w : World), (∀ j, l[j]? = ops[k + j]?) →
    Region.seqB md ops l.length k listed = true → wpList P ops Q' l a w → wpAny P md ops Q' (l.length + x) listed a w
  | [], 0, _, _, _, _, _, hB, h => ⟨by simpa [Region.seqB] using hB, h⟩
  | [], x + 1, k, listed, _, _, _, hB, h => by
    have h0 : Region.ready md ops listed = [] := by simpa [Region.seqB] using hB
    rw [List.length_nil, Nat.zero_add]
    exact ⟨fun _ => h, fun i hi => by rw [h0] at hi; cases hi⟩
  | o :: l, x, k, listed, a, w, hl, hB, h => by
    have h0 : ops[k]? = some o := by simpa using (hl 0).symm
    simp only [List.length_cons, Region.seqB, Bool.and_eq_true, decide_eq_true_eq] at hB
    rw [List.length_cons, show l.length + 1 + x = (l.length + x) + 1 by omega]
    refine ⟨fun h1 => (by rw [hB.1] at h1; cases h1), fun i hi => ?_⟩
    rw [hB.1] at hi
    have hik : i = k := by simpa using hi
    subst hik
    have hw : wpOp P ops Q' i (wpList P ops Q' l) a w := by unfold wpOp; simp only [h0]; exact h
    exact wpOp_mono (fun a' w' h' => wpAny_of_seqX l x (i + 1) _ a' w' (fun j => by have := hl (j + 1); simpa [Nat.add_assoc, Nat.add_comm 1 j] using this) hB.2 h') hw
/-- Nothing of the tail may come up while one of the head has not: where all of the head but some that have come up are waited for. -/
theorem tail_waits_but {n : Nat} {L0 listed : Array Bool} (hs : ∀ i, i < n → L0.getD i false = false → ∃ j, i < j ∧ j ≤ n ∧ Region.waitsFor .any ops j i = true) (hc : Region.chainB .any ops n = true) (hn : n < ops.size) (inv : HeadInv .any ops n listed)
    (h0 : ∀ i, L0.getD i false = true → listed.getD i false = true) :
    ∀ (d i : Nat), n - i = d → i < n → listed.getD i true = false → ∀ t, n ≤ t → t ∉ Region.ready .any ops listed := by
  intro d
  induction d using Nat.strongRecOn with
  | _ d ih =>
    intro i hd hi hun t ht hr
    obtain ⟨_, ot, hot, hall⟩ := mem_ready.1 hr
    have htlt : t < ops.size := (Array.getElem?_eq_some_iff.1 hot).1
    by_cases htn : t = n
    · subst htn
      have hl0 : L0.getD i false = false := by
        cases h : L0.getD i false with
        | false => rfl
        | true =>
          have := h0 i h
          rw [getD_both hun] at this
          cases this
      obtain ⟨j, hj1, hjle, hj2⟩ := hs i hi hl0
      obtain ⟨oj, hoj, e, he, hb, hon⟩ := Region.waitsFor_spec hj2
      by_cases hjt : j = t
      · subst hjt
        have : oj = ot := Option.some.inj (hoj.symm.trans hot)
        subst this
        have h2 := hall e he hb
        rw [hon, getD_both hun] at h2
        cases h2
      · cases hl : listed.getD j false with
        | true =>
          have h2 := inv.closed j oj hoj hl e he hb
          rw [hon, getD_both hun] at h2
          cases h2
        | false =>
          have hjs : j < listed.size := by rw [inv.size]; omega
          exact ih (t - j) (by omega) j rfl (by omega) (getD_in hjs hl) t (Nat.le_refl _) hr
    · have h1 := List.all_eq_true.1 hc t (List.mem_range.2 htlt)
      simp only [Bool.or_eq_true, decide_eq_true_eq] at h1
      rcases h1 with h1 | h1
      · omega
      · obtain ⟨o', ho', e, he, hb, hon⟩ := Region.waitsFor_spec h1
        have : o' = ot := Option.some.inj (ho'.symm.trans hot)
        subst this
        have h2 := hall e he hb
        rw [hon, getD_both (inv.tail (t - 1) (by omega) (by omega))] at h2
        cases h2
/-- The head in whatever order, the tail behind it. -/
theorem wpAny_parted {hd : Array Oper} {n : Nat} (s : Same ops hd n) {L0 : Array Bool} (hs : ∀ i, i < n → L0.getD i false = false → ∃ j, i < j ∧ j ≤ n ∧ Region.waitsFor .any ops j i = true) (hc : Region.chainB .any ops n = true) (tl : List Oper) (ht : ∀ j, tl[j]? = ops[n + j]?)
    (hq : ∀ L : Array Bool, L.size = ops.size → (∀ j, j < n → L[j]? = some true) → (∀ j, n ≤ j → j < ops.size → L[j]? = some false) → Region.seqB .any ops tl.length n L = true) :
    ∀ (f : Nat) (LH L : Array Bool) (a : Act) (w : World), Lists ops n LH L → HeadInv .any ops n L → (∀ i, L0.getD i false = true → L.getD i false = true) → wpAny P .any hd (headPost Q (wpList P ops Q tl)) f LH a w → wpAny P .any ops Q (tl.length + f) L a w := by
  have done : ∀ (x : Nat) (LH L : Array Bool) (a : Act) (w : World), Lists ops n LH L → Region.ready .any hd LH = [] → wpList P ops Q tl a w → wpAny P .any ops Q (tl.length + x) L a w := by
    intro x LH L a w hL hr h
    have hall := all_listed s hL hr
    refine wpAny_of_seqX tl x n L a w ht (hq L hL.size (fun j hj => ?_) hL.tail) h
    rw [hL.head j hj]
    have h1 := hall j hj
    rw [Array.getD_eq_getD_getElem?] at h1
    have : j < LH.size := by rw [hL.hsize]; exact hj
    rw [Array.getElem?_eq_getElem this] at h1 ⊢
    simpa using h1
  intro f
  induction f with
  | zero => exact fun LH L a w hL _ _ h => done 0 LH L a w hL h.1 h.2
  | succ f ih =>
    intro LH L a w hL inv hl0 h
    by_cases hr : Region.ready .any hd LH = []
    · exact done (f + 1) LH L a w hL hr (h.1 hr)
    · obtain ⟨i0, hi0⟩ := List.exists_mem_of_ne_nil _ hr
      have hlt0 := ready_lt s.size hi0
      have hun : L.getD i0 true = false := by rw [hL.getD hlt0]; exact (mem_ready.1 hi0).1
      rw [← Nat.add_assoc]
      refine ⟨fun h0 => ?_, fun i hi => ?_⟩
      · have := (ready_head s hL hlt0).2 hi0
        rw [h0] at this
        cases this
      · have hin : i < n := by
          rcases Nat.lt_or_ge i n with h' | h'
          · exact h'
          · exact absurd hi (tail_waits_but hs hc s.lt inv hl0 _ i0 rfl hlt0 hun i h')
        have hi' := (ready_head s hL hin).1 hi
        have h1 := h.2 i hi'
        obtain ⟨_, o, ho, _⟩ := mem_ready.1 hi
        have hg := s.guard i o ho
        have ho' : hd[i]? = some o := by rw [← s.at' i hin]; exact ho
        unfold wpOp at h1 ⊢
        simp only [ho, ho'] at h1 ⊢
        have hw : ∀ ops' t, Region.wanted o (yielded ops' t) = true := fun _ _ => by simp [Region.wanted, hg]
        rw [if_pos (hw _ _)] at h1 ⊢
        rcases h1 with h1 | ⟨h1, h2⟩
        · exact .inl (Oper.wp_head (Oper.wp_mono (fun a' w' h' => ih _ _ a' w' (hL.set hin) (inv.set hi hin) (fun j hj => getD_set_true (hl0 j hj)) h') h1))
        · exact .inr ⟨h1, h2⟩
def Region.partB (ops : Array Oper) (n : Nat) (L0 : Array Bool) : Bool :=
  decide (n < ops.size) && ops.all (fun o => o.guard.isNone) && (List.range n).all (fun i => match ops[i]? with | some o => o.after.all (fun e => !Region.binds .any e || decide (e.on < i)) | none => false) &&
    (List.range n).all (fun i => L0.getD i false || (List.range (n + 1)).any fun j => decide (i < j) && Region.waitsFor .any ops j i) && Region.chainB .any ops n &&
    Region.seqB .any ops (ops.size - n) n (List.replicate n true ++ List.replicate (ops.size - n) false).toArray &&
    decide (L0.size = ops.size) && (List.range ops.size).all (fun j => !L0.getD j false || (decide (j < n) && match ops[j]? with | some o => o.after.all (fun e => !Region.binds .any e || L0.getD e.on false) | none => false))
theorem wpAny_parted_at {a : Act} {w : World} {l : List Oper} (n f : Nat) (L0 : Array Bool) (hB : Region.partB l.toArray n L0 = true)
    (h : wpAny P .any (l.take n).toArray (headPost Q (wpList P l.toArray Q (l.drop n))) f (L0.toList.take n).toArray a w) : wpAny P .any l.toArray Q ((l.drop n).length + f) L0 a w := by
  simp only [Region.partB, Bool.and_eq_true, decide_eq_true_eq] at hB
  obtain ⟨⟨⟨⟨⟨⟨⟨hn, hg⟩, ht⟩, hs⟩, hc⟩, hq⟩, hL0⟩, hI⟩ := hB
  have hn' : n < l.length := by simpa using hn
  have hz : l.toArray.size = l.length := by simp
  have same : Same l.toArray (l.take n).toArray n := by
    refine ⟨by simp; omega, hn, fun i hi => by simp [List.getElem?_take, hi], fun i o ho => ?_, fun i o hi ho e he hb => ?_⟩
    · have := Array.all_eq_true_iff_forall_mem.1 hg o (Array.mem_of_getElem? ho)
      simpa using this
    · have h1 := List.all_eq_true.1 ht i (List.mem_range.2 hi)
      simp only [ho] at h1
      have h2 := Array.all_eq_true_iff_forall_mem.1 h1 e he
      simpa [hb] using h2
  have hs' : ∀ i, i < n → L0.getD i false = false → ∃ j, i < j ∧ j ≤ n ∧ Region.waitsFor .any l.toArray j i = true := by
    intro i hi h0
    have h1 := List.all_eq_true.1 hs i (List.mem_range.2 hi)
    rw [h0, Bool.false_or] at h1
    obtain ⟨j, hj, hj2⟩ := List.any_eq_true.1 h1
    simp only [Bool.and_eq_true, decide_eq_true_eq] at hj2
    exact ⟨j, hj2.1, by have := List.mem_range.1 hj; omega, hj2.2⟩
  have hI' : ∀ j, j < l.toArray.size → L0.getD j false = true → j < n ∧ ∀ oj, l.toArray[j]? = some oj → ∀ e ∈ oj.after, Region.binds .any e = true → L0.getD e.on false = true := by
    intro j hj hl
    have h1 := List.all_eq_true.1 hI j (List.mem_range.2 hj)
    rw [hl] at h1
    simp only [Bool.not_true, Bool.false_or, Bool.and_eq_true, decide_eq_true_eq] at h1
    refine ⟨h1.1, fun oj hoj e he hb => ?_⟩
    have h2 := h1.2
    simp only [hoj] at h2
    have h3 := Array.all_eq_true_iff_forall_mem.1 h2 e he
    simpa [hb] using h3
  have hlt : ∀ j, n ≤ j → j < l.toArray.size → L0[j]? = some false := by
    intro j hj hj2
    have : j < L0.size := by rw [hL0]; exact hj2
    rw [Array.getElem?_eq_getElem this]
    cases h0 : L0[j] with
    | false => rfl
    | true =>
      have := (hI' j hj2 (by rw [Array.getD_eq_getD_getElem?, Array.getElem?_eq_getElem this, h0]; rfl)).1
      omega
  refine wpAny_parted (P := P) (Q := Q) same (L0 := L0) hs' hc (l.drop n) (fun j => by simp [List.getElem?_drop]) (fun L hL h1 h2 => by
    have e : L = (List.replicate n true ++ List.replicate (l.toArray.size - n) false).toArray := by
      apply Array.ext_getElem?
      intro j
      rw [show (List.replicate n true ++ List.replicate (l.toArray.size - n) false).toArray[j]? = (List.replicate n true ++ List.replicate (l.toArray.size - n) false)[j]? by simp only [List.getElem?_toArray], List.getElem?_append]
      by_cases hj : j < n
      · rw [if_pos (by simpa using hj), h1 j hj, List.getElem?_replicate, if_pos hj]
      · rw [if_neg (by simpa using hj), List.length_replicate, List.getElem?_replicate]
        by_cases hj2 : j < l.toArray.size
        · rw [h2 j (by omega) hj2, if_pos (by omega)]
        · rw [if_neg (by omega), Array.getElem?_eq_none (by omega)]
    rw [e, List.length_drop, ← hz]
    exact hq) f _ L0 a w ⟨by simp [hL0]; omega, hL0, fun j hj => by simp [List.getElem?_take, hj], hlt⟩
    ⟨hL0, fun j oj hoj hl => (hI' j (Array.getElem?_eq_some_iff.1 hoj).1 hl).2 oj hoj, fun t ht ht2 => by rw [Array.getD_eq_getD_getElem?, hlt t ht ht2]; rfl⟩ (fun _ h => h) h
theorem wpAny_parted_held {a : Act} {w : World} {l : List Oper} (n f : Nat) (L0 : Array Bool) (S : World → Prop) (hB : Region.partB l.toArray n L0 = true) (hS : S w)
    (h : S w → wpAnyH P .any (l.take n).toArray (headPost Q (wpList P l.toArray Q (l.drop n))) S f (L0.toList.take n).toArray a w) : wpAny P .any l.toArray Q ((l.drop n).length + f) L0 a w :=
  wpAny_parted_at n f L0 hB (wpAny_of_held _ _ _ _ (h hS))
/-! The moves, where the operations are a list: an operation comes up written out. -/
theorem wpAnyH_takeL {S : World → Prop} {md : Region.Mode} {l : List Oper} {i : Nat} {oi : Oper} {v : Value} {fuel : Nat} {listed : Array Bool} {a : Act} {w : World} (hi : l[i]? = some oi)
    (hs : Region.noSelect l.toArray = true) (hf : Region.free md l.toArray listed i = true) (hr : (Region.ready md l.toArray listed).contains i = true)
    (hQ : ∀ c a w, Q (.panic c) (a.put oi.dst v) w → Q (.panic c) a w) (hy : YieldsIf P l.toArray S oi v a) (hS : S w)
    (h : wpAnyH P md l.toArray Q S fuel (listed.setIfInBounds i true) (a.put oi.dst v) w) : wpAnyH P md l.toArray Q S (fuel + 1) listed a w :=
  wpAnyH_take (by simpa using hi) hs hf hr hQ hy hS h
theorem wpAny_takeL {md : Region.Mode} {l : List Oper} {i : Nat} {oi : Oper} {v : Value} {fuel : Nat} {listed : Array Bool} {a : Act} {w : World} (hi : l[i]? = some oi)
    (hs : Region.noSelect l.toArray = true) (hf : Region.free md l.toArray listed i = true) (hr : (Region.ready md l.toArray listed).contains i = true)
    (hQ : ∀ c a w, Q (.panic c) (a.put oi.dst v) w → Q (.panic c) a w) (hy : Yields P l.toArray oi v a)
    (h : wpAny P md l.toArray Q fuel (listed.setIfInBounds i true) (a.put oi.dst v) w) : wpAny P md l.toArray Q (fuel + 1) listed a w :=
  wpAny_take (by simpa using hi) hs hf hr hQ hy h
theorem AllReadyH.consL {S : World → Prop} {md : Region.Mode} {l : List Oper} {fuel : Nat} {listed : Array Bool} {a : Act} {w : World} {i : Nat} {o : Oper} {rs : List Nat} (ho : l[i]? = some o)
    (h : ∀ K' : Act → World → Prop, Shut (∀ a w, S w → (S w → wpAnyH P md l.toArray Q S fuel (listed.setIfInBounds i true) a w) → K' a w) → if Region.wanted o (yielded l.toArray a.tmps) = true then Oper.wp P o a w K' Q else K' (a.put o.dst undef) w)
    (hs : AllReadyH P md l.toArray Q S fuel listed a w rs) : AllReadyH P md l.toArray Q S fuel listed a w (i :: rs) :=
  AllReadyH.cons (by simpa using ho) h hs
end
end Go
