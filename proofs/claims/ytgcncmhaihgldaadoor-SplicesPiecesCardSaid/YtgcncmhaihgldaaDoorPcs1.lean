/- Rows of pieces in memory; the walks of piece.cut, Table.Len, pieces.of and pieces.New. -/
import Derived.Test.YtgcncmhaihgldaaDoorSpl16
import Derived.Test.YtgcncmhaihgldaaDoorSpl2
namespace Go.Proofs.YtgcncmhaihgldaaDoor
open Go Go.Proofs Go.RowKit Go.Ink

theorem pc_info : (Tryd.prog.info? 60).map (fun i => (i.zero, i.size, i.bytes)) = some (some (.slice none 0 0), 1, 24) := by kernel_rfl

/-- A row of the call's own whose cells stand for pieces that lay in the world w0. -/
def OwnPcs (w0 : World) (B : Nat) (w : World) (v : Value) (ps : List (List Line)) : Prop :=
  ∃ vs : List Value, w.ownsRow B 60 1 v ps.length vs ∧ ∀ (k : Nat) x, ps[k]? = some x → ∃ u, vs[k]? = some u ∧ IsStrs w0 u x
theorem OwnPcs.slOf {w0 w : World} {B : Nat} {v : Value} {ps : List (List Line)} (h : OwnPcs w0 B w v ps) (hb : Below w0.heap.size w0 w) : ∃ ao cap, v = .slice ao ps.length cap ∧ SlOf IsStrs w ao cap ps := by
  obtain ⟨vs, hr, he⟩ := h
  rcases hr.2 with ⟨rfl, h0⟩ | ⟨g, cap, cur, rfl, hg, hh, hle, hm, _, _⟩
  · have : ps = [] := List.eq_nil_of_length_eq_zero h0
    subst this
    exact ⟨none, 0, rfl, by simp, by unfold maxLen; omega, fun _ => rfl, by simp⟩
  · refine ⟨_, cap, rfl, hle, hm, by simp, fun k x hk => ?_⟩
    obtain ⟨u, hu, hx⟩ := he k x hk
    refine ⟨g, 0, u, rfl, ?_, lasts_strs _ _ _ _ hb hx⟩
    rw [Nat.zero_add, World.ownsRow.cellAt hr k (by have := (List.getElem?_eq_some_iff.1 hk).1; omega)]
    exact hu
theorem OwnPcs.shape {w0 w : World} {B : Nat} {v : Value} {ps : List (List Line)} (h : OwnPcs w0 B w v ps) : ∃ ao cap, v = .slice ao ps.length cap := by
  obtain ⟨vs, hr, _⟩ := h
  exact ownsRow_shape hr
theorem OwnPcs.slOfV {w0 w : World} {B n c : Nat} {a : Option Addr} {ps : List (List Line)} (hn : ps.length = n) (h : OwnPcs w0 B w (.slice a n c) ps) (hb : Below w0.heap.size w0 w) : SlOf IsStrs w a c ps := by
  subst hn
  obtain ⟨ao, cap, e, h⟩ := h.slOf hb
  simp only [Value.slice.injEq] at e
  obtain ⟨rfl, _, rfl⟩ := e
  exact h
theorem OwnPcs.nil (w0 : World) (B : Nat) (w : World) : OwnPcs w0 B w (.slice none 0 0) [] := ⟨[], World.ownsRow_nil _ _ _ _, by simp⟩
theorem OwnPcs.later {w0 w w' : World} {B : Nat} {v : Value} {ps : List (List Line)} (h : OwnPcs w0 B w v ps) (hb : Below w.heap.size w w') : OwnPcs w0 B w' v ps := by
  obtain ⟨vs, hr, he⟩ := h
  exact ⟨vs, ownsRow_below hr hb, he⟩
theorem OwnPcs.set {w0 w : World} {B : Nat} {v : Value} {ps : List (List Line)} (h : OwnPcs w0 B w v ps) {a : Addr} (ha : a.block < B) (u : Value) : OwnPcs w0 B (w.setCell a u) v ps := by
  obtain ⟨vs, hr, he⟩ := h
  exact ⟨vs, ownsRow_setCell_below hr ha u, he⟩
/-- The cells of a slice of pieces, the pieces as they lay in w0. -/
def SrcPcs (w0 w : World) (ao : Option Addr) (c : Nat) (qs : List (List Line)) : Prop :=
  qs.length ≤ c ∧ (ao = none → c = 0) ∧ ∀ k x, qs[k]? = some x → ∃ b off u, ao = some ⟨b, off, none⟩ ∧ w.cell? ⟨b, off + k, none⟩ = some u ∧ IsStrs w0 u x
theorem SrcPcs.of {w0 w : World} {ao : Option Addr} {c : Nat} {qs : List (List Line)} (h : SlOf IsStrs w0 ao c qs) (hb : Below w0.heap.size w0 w) : SrcPcs w0 w ao c qs := by
  obtain ⟨h1, h2, h3, h4⟩ := h
  refine ⟨h1, h3, fun k x hk => ?_⟩
  obtain ⟨b, off, u, ha, hc, hr⟩ := h4 k x hk
  exact ⟨b, off, u, ha, (hb.cell (p := ⟨b, off + k, none⟩) (lt_of_cell hc)).trans hc, hr⟩
theorem SrcPcs.one {w0 w : World} {b : Nat} {p : List Line} {a : Option Addr} {c : Nat} {T : TypeId} {fr : Nat × Nat} (h : w.heap[b]? = some (.cells #[.slice a p.length c] T fr)) (hp : SlOf IsStr w0 a c p) : SrcPcs w0 w (some ⟨b, 0, none⟩) 1 [p] := by
  refine ⟨by simp, by simp, fun k x hk => ?_⟩
  have hk0 : k = 0 := by have := (List.getElem?_eq_some_iff.1 hk).1; simp at this; exact this
  subst hk0
  simp only [List.getElem?_cons_zero, Option.some.injEq] at hk
  subst hk
  exact ⟨b, 0, _, rfl, by rw [Lib.cell_of_heap h]; rfl, _, _, rfl, hp⟩
theorem SrcPcs.news {w0 w : World} {ad : Addr} {c : Nat} {qs : List (List Line)} (h : SrcPcs w0 w (some ad) c qs) : ∃ news : List Value, news.length = qs.length ∧ (∀ j u, news[j]? = some u → w.cell? (ad.add j) = some u) ∧ (∀ u ∈ news, u.oneCell' = true) ∧ ∀ (k : Nat) x, qs[k]? = some x → ∃ u, news[k]? = some u ∧ IsStrs w0 u x := by
  have key : ∀ k, k < qs.length → ∃ u x, qs[k]? = some x ∧ w.cell? (ad.add k) = some u ∧ IsStrs w0 u x := fun k hk => by
    obtain ⟨b, off, u, ha, hc, hr⟩ := h.2.2 k _ (List.getElem?_eq_getElem hk)
    injection ha with ha
    subst ha
    exact ⟨u, _, List.getElem?_eq_getElem hk, by rw [add_none]; exact hc, hr⟩
  refine ⟨(List.range qs.length).map fun k => (w.cell? (ad.add k)).getD undef, by simp, ?_, ?_, ?_⟩
  · intro j u hj
    have hk : j < qs.length := by have := (List.getElem?_eq_some_iff.1 hj).1; simpa using this
    obtain ⟨u', x, _, hc, _⟩ := key j hk
    simp [List.getElem?_map, List.getElem?_range hk, hc] at hj
    rw [hc, hj]
  · intro u hu
    simp only [List.mem_map, List.mem_range] at hu
    obtain ⟨k, hk, rfl⟩ := hu
    obtain ⟨u', x, _, hc, a, c, rfl, _⟩ := key k hk
    rw [hc]; rfl
  · intro k x hk
    have hkl := (List.getElem?_eq_some_iff.1 hk).1
    obtain ⟨u', x', hx, hc, hr⟩ := key k hkl
    rw [hk] at hx
    injection hx with hx
    subst hx
    exact ⟨u', by simp [List.getElem?_map, List.getElem?_range hkl, hc], hr⟩

/-- append of pieces to a row of the call's own. -/
theorem wpList_append_pcs {w0 w : World} {ops : Array Oper} {rest : List Oper} {o : Oper} {a : Act} {Q : Exit → Act → World → Prop} (hgd : o.guard = none) (s x : Operand)
    (ho : o.op = .call { callee := .builtin .append, args := #[s, x], argTypes := #[56, 56] })
    (B : Nat) (v : Value) (ps : List (List Line)) (hs : a.eval s = v) (hown : OwnPcs w0 B w v ps) (ao : Option Addr) (n c : Nat) (qs : List (List Line)) (hn : qs.length = n) (hx : a.eval x = .slice ao n c) (hq : SrcPcs w0 w ao c qs)
    (hb : B ≤ w.heap.size) (hsz : ps.length + qs.length ≤ 1000000)
    (h : ∀ v' w', OwnPcs w0 B w' v' (ps ++ qs) → Below B w w' → (∀ k, k < w.heap.size → v.ownBlock ≠ some k → w'.heap[k]? = w.heap[k]?) → w.heap.size ≤ w'.heap.size → wpList Tryd.prog ops Q rest (a.put o.dst v') w') : wpList Tryd.prog ops Q (o :: rest) a w := by
  subst hn
  obtain ⟨i0, hi, hz0, hz1, hz2⟩ := info_parts pc_info
  have hown0 := hown
  obtain ⟨vs, hr, he⟩ := hown
  cases ao with
  | none =>
    have hc : c = 0 := hq.2.1 rfl
    have h0 : qs = [] := List.eq_nil_of_length_eq_zero (by have := hq.1; omega)
    subst hc h0
    exact wpList_append_own_none hgd s x 56 ho B 60 i0 1 Tryd.underlying56 hi v _ _ hs hr hx (h v w (by rw [List.append_nil]; exact hown0) (Below.refl _ _) (fun _ _ _ => rfl) (Nat.le_refl _))
  | some ad =>
    obtain ⟨news, n1, n2, n3, n4⟩ := hq.news
    refine wpList_append_own _ hgd s x 56 ho B 60 i0 _ 1 24 Tryd.underlying56 hi hz0 hz1 hz2 rfl (by decide) v _ _ hs hr ad qs.length c news hx (by omega) n2 n3 (by unfold maxLen; omega) (by omega) hb ?_
    intro v' w' h2 h3 _
    refine h v' w' ⟨vs ++ news, by rw [List.length_append]; exact h2, fun k y hk => ?_⟩ ((Below.refl _ _).grown h3 hb (fun k hk => (hr.lt k hk).1)) (fun k hk hne => h3.block k hk (fun e => hne e.symm)) h3.size
    have hvl : vs.length = ps.length := by have := hr.1; omega
    rcases Nat.lt_or_ge k ps.length with hk1 | hk1
    · rw [List.getElem?_append_left hk1] at hk
      obtain ⟨u, hu, hx⟩ := he k y hk
      exact ⟨u, by rw [List.getElem?_append_left (by omega)]; exact hu, hx⟩
    · rw [List.getElem?_append_right hk1] at hk
      obtain ⟨u, hu, hx⟩ := n4 _ y hk
      exact ⟨u, by rw [List.getElem?_append_right (by omega), hvl]; exact hu, hx⟩

/-- A table of pieces at a block. -/
def TabOf (w : World) (b : Nat) (ps : List (List Line)) : Prop :=
  ∃ ao cap fr, w.heap[b]? = some (.cells #[.slice ao ps.length cap, .int .i64 (manyS ps)] 58 fr) ∧ SlOf IsStrs w ao cap ps
theorem TabOf.later {w w' : World} {b : Nat} {ps : List (List Line)} (h : TabOf w b ps) (hb : Below w.heap.size w w') : TabOf w' b ps := by
  obtain ⟨ao, cap, fr, hh, hs⟩ := h
  exact ⟨ao, cap, fr, (hb.block b (lt_of_heap hh)).trans hh, hs.later lasts_strs hb⟩
theorem TabOf.lt {w : World} {b : Nat} {ps : List (List Line)} (h : TabOf w b ps) : b < w.heap.size := by
  obtain ⟨ao, cap, fr, hh, hs⟩ := h
  exact lt_of_heap hh

theorem ofS_snoc (l : List (List Line)) (p : List Line) : ofS (l ++ [p]) = ofS l ++ (if 0 < p.length then [p] else []) := by
  unfold ofS
  rw [List.filter_append, List.filter_cons, List.filter_nil]
  by_cases h : 0 < p.length <;> simp [h]
theorem ofS_take {l : List (List Line)} {k : Nat} {p : List Line} (h : l[k]? = some p) : ofS (l.take (k + 1)) = ofS (l.take k) ++ (if 0 < p.length then [p] else []) := by
  obtain ⟨hk, rfl⟩ := List.getElem?_eq_some_iff.1 h
  rw [List.take_succ_eq_append_getElem hk, ofS_snoc]
theorem manyS_append : ∀ (a b : List (List Line)), manyS (a ++ b) = manyS a + manyS b
  | [], b => by simp [manyS]
  | p :: a, b => by simp only [List.cons_append, manyS, manyS_append a b]; omega
theorem ofS_len (l : List (List Line)) : (ofS l).length ≤ l.length := List.length_filter_le _ _

theorem SlOf.capTo {α : Type} {R : World → Value → α → Prop} {w : World} {ad : Addr} {c c' : Nat} {xs : List α} (h : SlOf R w (some ad) c xs) (h1 : xs.length ≤ c') (h2 : c' ≤ c) : SlOf R w (some ad) c' xs :=
  ⟨h1, Nat.le_trans h2 h.2.1, by simp, h.2.2.2⟩
theorem cut_any (n b off cap fr to : Nat) (w : World) (h1 : fr < to) (h2 : to ≤ cap) (hm : cap ≤ maxLen) :
    Calls Tryd.prog 49 #[.slice (some ⟨b, off, none⟩) n cap, .int .i64 fr, .int .i64 to] w fun e w' => e = .returned (.slice (some ⟨b, off + fr, none⟩) (to - fr) (to - fr)) ∧ w = w' := by
  have hm : cap ≤ 9223372036854775807 := hm
  have e1 : ¬ to = fr := by omega
  go_enter Tryd.func49, Tryd.ntmps49
  go_wp2_with fail
  go_returns
  exact ⟨rfl, rfl⟩
/-- What cut hands back stands for the stretch. -/
theorem cut_row {w : World} {l : List Line} {b off cap fr to : Nat} (h1 : fr < to) (h2 : to ≤ l.length) (hs : SlOf IsStr w (some ⟨b, off, none⟩) cap l) : SlOf IsStr w (some ⟨b, off + fr, none⟩) (to - fr) ((l.drop fr).take (to - fr)) :=
  SlOf.capTo (slOf_cut hs rfl fr to (by omega) h2) (c' := to - fr) (by rw [List.length_take, List.length_drop]; omega) (by have := hs.1; omega)
end Go.Proofs.YtgcncmhaihgldaaDoor
