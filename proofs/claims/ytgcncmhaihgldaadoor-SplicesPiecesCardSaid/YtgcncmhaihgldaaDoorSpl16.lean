/- Splices put ahead of others (append), and the walk of the law SplicesBack. -/
import Derived.Test.YtgcncmhaihgldaaDoorSpl15
namespace Go.Proofs.YtgcncmhaihgldaaDoor
open Go Go.Proofs Go.RowKit Go.Ink

theorem spl_info : (Tryd.prog.info? 24).map (fun i => (i.zero, i.size, i.bytes)) = some (some (.agg #[.int .i64 0, .int .i64 0, .slice none 0 0]), 3, 40) := by kernel_rfl

/-- The cells of splices that lie somewhere, as one list. -/
theorem news_spl {w : World} : ∀ (l : List Spl) (ad : Addr) (c : Nat), SplOf w (some ad) c l →
    ∃ news : List Value, news.length = l.length * 3 ∧ (∀ j u, news[j]? = some u → w.cell? (ad.add j) = some u) ∧ (∀ u ∈ news, u.oneCell' = true) ∧
      ∀ k x, l[k]? = some x → ∃ ai ci, news[k * 3]? = some (.int .i64 x.pos) ∧ news[k * 3 + 1]? = some (.int .i64 x.del) ∧ news[k * 3 + 2]? = some (.slice ai x.ins.length ci) ∧ SlOf IsStr w ai ci x.ins
  | [], ad, c, _ => ⟨[], rfl, by simp, by simp, by simp⟩
  | s :: r, ad, c, h => by
    obtain ⟨b, off, ai, ci, ha, c0, c1, c2, hs⟩ := h.2.2.2 0 s rfl
    injection ha with ha
    subst ha
    have hd := h.drop 1
    rw [add_none] at hd
    obtain ⟨n, n1, n2, n3, n4⟩ := news_spl r _ _ hd
    refine ⟨[.int .i64 s.pos, .int .i64 s.del, .slice ai s.ins.length ci] ++ n, by simp [n1]; omega, ?_, ?_, ?_⟩
    · intro j u hj
      match j, hj with
      | 0, hj => simp at hj; subst hj; rw [add_none]; simpa using c0
      | 1, hj => simp at hj; subst hj; rw [add_none]; simpa using c1
      | 2, hj => simp at hj; subst hj; rw [add_none]; simpa using c2
      | j + 3, hj =>
        simp at hj
        have := n2 j u hj
        rw [add_none] at this ⊢
        rw [show off + (j + 3) = off + 1 * 3 + j by omega]
        exact this
    · intro u hu
      simp only [List.cons_append, List.nil_append, List.mem_cons] at hu
      rcases hu with rfl | rfl | rfl | hu
      · rfl
      · rfl
      · rfl
      · exact n3 u hu
    · intro k x hk
      match k, hk with
      | 0, hk =>
        simp at hk
        subst hk
        exact ⟨ai, ci, rfl, rfl, rfl, hs⟩
      | k + 1, hk =>
        simp at hk
        obtain ⟨a', c', e0, e1, e2, e3⟩ := n4 k x hk
        refine ⟨a', c', ?_, ?_, ?_, e3⟩
        · rw [show (k + 1) * 3 = k * 3 + 3 by omega]; simpa using e0
        · rw [show (k + 1) * 3 + 1 = (k * 3 + 1) + 3 by omega]; simpa using e1
        · rw [show (k + 1) * 3 + 2 = (k * 3 + 2) + 3 by omega]; simpa using e2

/-- One splice in a block of its own, as an owned row. -/
theorem own_one (w : World) (s : Spl) (ai : Option Addr) (ci : Nat) :
    (w.alloc (.cells #[.int .i64 s.pos, .int .i64 s.del, .slice ai s.ins.length ci] 24 (0, 0))).ownsRow w.heap.size 24 3 (.slice (some ⟨w.heap.size, 0, none⟩) 1 1) 1 [.int .i64 s.pos, .int .i64 s.del, .slice ai s.ins.length ci] :=
  ⟨by simp, .inr ⟨w.heap.size, 1, _, rfl, Nat.le_refl _, heap_alloc_at w _, Nat.le_refl _, by unfold maxLen; omega, by simp, by simp⟩⟩

theorem own_splOf {w : World} {B : Nat} {v : Value} {s : Spl} {ai : Option Addr} {ci : Nat} {l : List Spl} {news : List Value} (h : w.ownsRow B 24 3 v (1 + l.length) ([.int .i64 s.pos, .int .i64 s.del, .slice ai s.ins.length ci] ++ news))
    (hi : SlOf IsStr w ai ci s.ins) (hn : ∀ k x, l[k]? = some x → ∃ ai ci, news[k * 3]? = some (.int .i64 x.pos) ∧ news[k * 3 + 1]? = some (.int .i64 x.del) ∧ news[k * 3 + 2]? = some (.slice ai x.ins.length ci) ∧ SlOf IsStr w ai ci x.ins) :
    ∃ a' c', v = .slice a' (s :: l).length c' ∧ SplOf w a' c' (s :: l) := by
  rcases h.2 with ⟨rfl, h0⟩ | ⟨g, cap, cur, rfl, hg, hh, hle, hm, _, _⟩
  · omega
  · refine ⟨_, cap, by rw [List.length_cons, Nat.add_comm], by simp; omega, hm, by simp, fun k x hk => ?_⟩
    have hc := fun j hj => World.ownsRow.cellAt h j hj
    match k, hk with
    | 0, hk =>
      simp at hk
      subst hk
      refine ⟨g, 0, ai, ci, rfl, ?_, ?_, ?_, hi⟩
      · rw [show 0 + 0 * 3 = 0 by omega, hc 0 (by omega)]; rfl
      · rw [show 0 + 0 * 3 + 1 = 1 by omega, hc 1 (by omega)]; rfl
      · rw [show 0 + 0 * 3 + 2 = 2 by omega, hc 2 (by omega)]; rfl
    | k + 1, hk =>
      simp at hk
      have hkl := (List.getElem?_eq_some_iff.1 hk).1
      obtain ⟨a', c', e0, e1, e2, e3⟩ := hn k x hk
      refine ⟨g, 0, a', c', rfl, ?_, ?_, ?_, e3⟩
      · rw [show 0 + (k + 1) * 3 = k * 3 + 3 by omega, hc _ (by omega)]; simpa using e0
      · rw [show 0 + (k + 1) * 3 + 1 = (k * 3 + 1) + 3 by omega, hc _ (by omega)]; simpa using e1
      · rw [show 0 + (k + 1) * 3 + 2 = (k * 3 + 2) + 3 by omega, hc _ (by omega)]; simpa using e2

/-- One splice put ahead of others. -/
theorem wpList_append_spl {w0 : World} {ops : Array Oper} {rest : List Oper} {o : Oper} {a : Act} {Q : Exit → Act → World → Prop} (hgd : o.guard = none) (s x : Operand)
    (ho : o.op = .call { callee := .builtin .append, args := #[s, x], argTypes := #[27, 27] })
    (t : Spl) (ai : Option Addr) (ci : Nat) (B : Nat) (hB : w0.heap.size = B) (hs : a.eval s = .slice (some ⟨B, 0, none⟩) 1 1) (hi : SlOf IsStr w0 ai ci t.ins)
    (ao : Option Addr) (n c : Nat) (l : List Spl) (hn : l.length = n) (hx : a.eval x = .slice ao n c) (hl : SplOf w0 ao c l) (hsz : l.length ≤ 1000)
    (h : ∀ a' c' w', SplOf w' a' c' (t :: l) → Below w0.heap.size w0 w' → wpList Tryd.prog ops Q rest (a.put o.dst (.slice a' (n + 1) c')) w') :
    wpList Tryd.prog ops Q (o :: rest) a (w0.alloc (.cells #[.int .i64 t.pos, .int .i64 t.del, .slice ai t.ins.length ci] 24 (0, 0))) := by
  subst hn hB
  obtain ⟨i0, hi0, hz0, hz1, hz2⟩ := info_parts spl_info
  have hA := below_alloc w0 (.cells #[.int .i64 t.pos, .int .i64 t.del, .slice ai t.ins.length ci] 24 (0, 0))
  have hown := own_one w0 t ai ci
  cases ao with
  | none =>
    have hc : c = 0 := hl.2.2.1 rfl
    have h0 : l = [] := List.eq_nil_of_length_eq_zero (by have := hl.1; omega)
    subst hc h0
    obtain ⟨a', c', hv, hsp⟩ := own_splOf (l := []) (news := []) (by simpa using hown) (hi.later lasts_str hA) (by simp)
    have hh := h a' c' _ hsp hA
    simp only [List.length_cons, List.length_nil, Nat.zero_add] at hv hh
    rw [← hv] at hh
    exact wpList_append_own_none hgd s x 27 ho w0.heap.size 24 i0 3 Tryd.underlying27 hi0 _ _ _ hs hown hx hh
  | some ad =>
    obtain ⟨news, n1, n2, n3, n4⟩ := news_spl l ad c hl
    refine wpList_append_own _ hgd s x 27 ho w0.heap.size 24 i0 _ 3 40 Tryd.underlying27 hi0 hz0 hz1 hz2 rfl (by decide) _ _ _ hs hown ad l.length c news hx n1 (fun j u hj => (hA.cell (block_lt_of_cell (n2 j u hj))).trans (n2 j u hj)) n3 (by unfold maxLen; omega) (by omega) hA.size ?_
    intro v' w' h2 h3 _
    have hbw : Below w0.heap.size w0 w' := hA.trans ((Below.refl _ _).grown h3 hA.size (fun k hk => (hown.lt k hk).1))
    obtain ⟨a', c', hv, hsp⟩ := own_splOf h2 (hi.later lasts_str hbw) (fun k x hk => by
      obtain ⟨a1, c1, e0, e1, e2, e3⟩ := n4 k x hk
      exact ⟨a1, c1, e0, e1, e2, e3.later lasts_str hbw⟩)
    subst hv
    exact h a' c' w' hsp hbw

/-! ### The laws of the loops, in plain words -/

structure Undone (l m : List Line) (bk : List Spl) : Prop where
  may : checkL m = 0
  all : mayAll m bk
  back : (foldS m bk).1 = l
theorem Undone.step {l m : List Line} {bk : List Spl} {s : Spl} (h : Undone l m bk) (hd : (doneS m s).2 = 0) : Undone l (doneS m s).1 ((invS m s).1 :: bk) := by
  have hb := inv_back h.may hd
  rw [invS_of h.may hd]
  exact ⟨doneS_may h.may hd, ⟨by simp only [hb], by simp only [hb]; exact h.all⟩, by simp only [foldS, hb]; exact h.back⟩
theorem Undone.len {l m : List Line} {bk : List Spl} (h : Undone l m bk) : m.length ≤ 2000 := (checkL_ok.1 h.may).2.1
/-- The second loop: what is still to be undone leads to the lines, what was undone leads to the end. -/
structure Again (l e m : List Line) (rest ag : List Spl) : Prop where
  u : Undone l m rest
  v : Undone e m ag
theorem Again.step {l e m : List Line} {s : Spl} {rest ag : List Spl} (h : Again l e m (s :: rest) ag) : (doneS m s).2 = 0 ∧ Again l e (doneS m s).1 rest ((invS m s).1 :: ag) := by
  have hd := h.u.all.1
  refine ⟨hd, ⟨doneS_may h.u.may hd, h.u.all.2, ?_⟩, h.v.step hd⟩
  have := h.u.back
  unfold foldS at this
  rwa [if_neg (by rw [hd]; simp)] at this
theorem Again.fin {l e m : List Line} {ag : List Spl} (h : Again l e m [] ag) : m = l ∧ allS m ag = (e, 0) := by
  refine ⟨h.u.back, ?_⟩
  unfold allS
  rw [if_neg (by rw [h.v.may]; simp)]
  exact Prod.ext h.v.back (mayAll_fold h.v.all)
theorem invS_err (l : List Line) (s : Spl) : (invS l s).2 = (applyS l s).2 := by
  unfold invS
  split
  · rfl
  · rename_i h; rw [Decidable.not_not] at h; rw [h]
theorem allS_nil (l : List Line) : allS l [] = if checkL l ≠ 0 then ([], checkL l) else (l, 0) := rfl
end Go.Proofs.YtgcncmhaihgldaaDoor
