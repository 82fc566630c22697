/- Slices of lines and of splices: stretches, owned rows (moved together out of the texts of chapter 15). -/
import Derived.Test.YtlcjjcmfpmflcaaGreatDoorSplM0
import Derived.StillTailTactics
import Derived.Lib.QuietBelow
set_option linter.unusedVariables false
set_option linter.unusedSimpArgs false
namespace Go.Proofs.YtlcjjcmfpmflcaaGreatDoor
open Go Go.Proofs Go.RowKit Go.Ink Go.Sort

/-- Lines and an error, as they are handed back. -/
def LinesPost (w : World) (r : List Line × Int) (e : Ending) (w' : World) : Prop :=
  ∃ v, e = .returned (.tuple #[v, .int .i64 r.2]) ∧ OwnStrs w' w.heap.size v r.1 ∧ Below w.heap.size w w'
theorem LinesPost.mk {w w' : World} {v : Value} {l : List Line} {e : Int} (ho : OwnStrs w' w.heap.size v l) (h : Below w.heap.size w w') : LinesPost w (l, e) (.returned (.tuple #[v, .int .i64 e])) w' := ⟨_, rfl, ho, h⟩
theorem three_strs {w : World} {a b c : List Line} {a1 a2 a3 : Option Addr} {c1 c2 c3 : Nat} (h1 : SlOf IsStr w a1 c1 a) (h2 : SlOf IsStr w a2 c2 b) (h3 : SlOf IsStr w a3 c3 c) (T : TypeId) :
    SlOf IsStrs (w.alloc (.cells #[.slice a1 a.length c1, .slice a2 b.length c2, .slice a3 c.length c3] T (0, 0))) (some ⟨w.heap.size, 0, none⟩) 3 [a, b, c] := by
  have hb := heap_alloc_at w (.cells #[.slice a1 a.length c1, .slice a2 b.length c2, .slice a3 c.length c3] T (0, 0))
  have hA := below_alloc w (.cells #[.slice a1 a.length c1, .slice a2 b.length c2, .slice a3 c.length c3] T (0, 0))
  refine ⟨by simp, by unfold maxLen; omega, by simp, fun k x hk => ?_⟩
  match k, hk with
  | 0, hk => simp at hk; subst hk; exact ⟨_, 0, _, rfl, by rw [Lib.cell_of_heap hb]; rfl, _, _, rfl, h1.later lasts_str hA⟩
  | 1, hk => simp at hk; subst hk; exact ⟨_, 0, _, rfl, by rw [Lib.cell_of_heap hb]; rfl, _, _, rfl, h2.later lasts_str hA⟩
  | 2, hk => simp at hk; subst hk; exact ⟨_, 0, _, rfl, by rw [Lib.cell_of_heap hb]; rfl, _, _, rfl, h3.later lasts_str hA⟩

theorem add_none (b off k : Nat) : (⟨b, off, none⟩ : Addr).add k = ⟨b, off + k, none⟩ := by unfold Addr.add; split <;> simp_all
theorem slOf_take {w : World} {ao : Option Addr} {cap : Nat} {l : List Line} (h : SlOf IsStr w ao cap l) (k : Nat) : SlOf IsStr w ao cap (l.take k) := by
  obtain ⟨h1, h2, h3, h4⟩ := h
  refine ⟨by rw [List.length_take]; omega, h2, h3, fun j x hj => h4 j x ?_⟩
  rw [List.getElem?_take] at hj
  split at hj
  · exact hj
  · cases hj
theorem slOf_drop {w : World} {ad : Addr} {cap : Nat} {l : List Line} (h : SlOf IsStr w (some ad) cap l) (k : Nat) : SlOf IsStr w (some (ad.add k)) (cap - k) (l.drop k) := by
  obtain ⟨h1, h2, h3, h4⟩ := h
  refine ⟨by rw [List.length_drop]; omega, by omega, by simp, fun j x hj => ?_⟩
  rw [List.getElem?_drop] at hj
  obtain ⟨b, off, u, ha, hc, hr⟩ := h4 (k + j) x hj
  injection ha with ha
  subst ha
  exact ⟨b, off + k, u, by rw [add_none], by rw [Nat.add_assoc]; exact hc, hr⟩
theorem slOf_nil {w : World} (ad : Addr) (cap : Nat) (h : cap ≤ maxLen) : SlOf IsStr w (some ad) cap [] := ⟨by simp, h, by simp, fun k x hk => by simp at hk⟩
theorem slOf_none (w : World) : SlOf IsStr w none 0 [] := ⟨by simp, by unfold maxLen; omega, fun _ => rfl, fun k x hk => by simp at hk⟩

/-- A block of three cells, laid and filled. -/
theorem put3 (w : World) (c0 c1 c2 v0 v1 v2 : Value) (T : TypeId) :
    ((((w.alloc (.cells #[c0, c1, c2] T (0, 0))).setCell ⟨w.heap.size, 0, none⟩ v0).setCell ⟨w.heap.size, 1, none⟩ v1).setCell ⟨w.heap.size, 2, none⟩ v2).heap[w.heap.size]? = some (.cells #[v0, v1, v2] T (0, 0)) ∧
    Below w.heap.size w ((((w.alloc (.cells #[c0, c1, c2] T (0, 0))).setCell ⟨w.heap.size, 0, none⟩ v0).setCell ⟨w.heap.size, 1, none⟩ v1).setCell ⟨w.heap.size, 2, none⟩ v2) := by
  have h := heap_alloc_at w (.cells #[c0, c1, c2] T (0, 0))
  exact ⟨heap_set (heap_set (heap_set h v0) v1) v2, (((below_alloc w _).setCell (by simp) _).setCell (by simp) _).setCell (by simp) _⟩
theorem own_headS {w : World} {B : Nat} {v : Value} {l : List Line} (h : OwnStrs w B v l) : ∃ ao cap, v = .slice ao l.length cap ∧ (0 < l.length → ∃ g, ao = some ⟨g, 0, none⟩ ∧ B ≤ g ∧ g < w.heap.size) := by
  rcases h.2 with ⟨rfl, h0⟩ | ⟨g, cap, cur, rfl, hg, hh, _⟩
  · exact ⟨_, _, by rw [h0], fun h => by omega⟩
  · exact ⟨_, _, rfl, fun _ => ⟨g, rfl, hg, (Array.getElem?_eq_some_iff.1 hh).1⟩⟩
theorem own_headV {w : World} {B n c : Nat} {a : Option Addr} {l : List Line} (hn : l.length = n) (h : OwnStrs w B (.slice a n c) l) : 0 < n → ∃ g, a = some ⟨g, 0, none⟩ ∧ B ≤ g ∧ g < w.heap.size := by
  subst hn
  obtain ⟨ao, cap, e, h⟩ := own_headS h
  simp only [Value.slice.injEq] at e
  obtain ⟨rfl, _, rfl⟩ := e
  exact h
theorem own_slOfV {w : World} {B n c : Nat} {a : Option Addr} {l : List Line} (hn : l.length = n) (h : OwnStrs w B (.slice a n c) l) : SlOf IsStr w a c l := by
  subst hn
  obtain ⟨ao, cap, e, h⟩ := OwnStrs.slOf h
  simp only [Value.slice.injEq] at e
  obtain ⟨rfl, _, rfl⟩ := e
  exact h
theorem SplOf.take {w : World} {ao : Option Addr} {cap : Nat} {l : List Spl} (h : SplOf w ao cap l) (k : Nat) : SplOf w ao cap (l.take k) := by
  obtain ⟨h1, h2, h3, h4⟩ := h
  refine ⟨by rw [List.length_take]; omega, h2, h3, fun j x hj => h4 j x ?_⟩
  rw [List.getElem?_take] at hj
  split at hj
  · exact hj
  · cases hj
theorem SplOf.drop {w : World} {ad : Addr} {cap : Nat} {l : List Spl} (h : SplOf w (some ad) cap l) (k : Nat) : SplOf w (some (ad.add (k * 3))) (cap - k) (l.drop k) := by
  obtain ⟨h1, h2, h3, h4⟩ := h
  refine ⟨by rw [List.length_drop]; omega, by omega, by simp, fun j x hj => ?_⟩
  rw [List.getElem?_drop] at hj
  obtain ⟨b, off, ai, ci, ha, c0, c1, c2, hs⟩ := h4 _ _ hj
  injection ha with ha
  subst ha
  refine ⟨b, off + k * 3, ai, ci, by rw [add_none], ?_, ?_, ?_, hs⟩
  · rw [show off + k * 3 + j * 3 = off + (k + j) * 3 by omega]; exact c0
  · rw [show off + k * 3 + j * 3 + 1 = off + (k + j) * 3 + 1 by omega]; exact c1
  · rw [show off + k * 3 + j * 3 + 2 = off + (k + j) * 3 + 2 by omega]; exact c2
theorem SplOf.none (w : World) : SplOf w none 0 [] := ⟨by simp, by unfold maxLen; omega, fun _ => rfl, fun k x hk => by simp at hk⟩
theorem SplOf.nil {w : World} (ad : Addr) (cap : Nat) (h : cap ≤ maxLen) : SplOf w (some ad) cap [] := ⟨by simp, h, by simp, fun k x hk => by simp at hk⟩

theorem spl_info : (Tryz.prog.info? 37).map (fun i => (i.zero, i.size, i.bytes)) = some (some (.agg #[.int .i64 0, .int .i64 0, .slice none 0 0]), 3, 40) := by kernel_rfl

/-- The cells of splices that lie somewhere, as one list. -/
theorem news_spl {w : World} : ∀ (l : List Spl) (ad : Addr) (c : Nat), SplOf w (some ad) c l →
    ∃ news : List Value, news.length = l.length * 3 ∧ (∀ j u, news[j]? = some u → w.cell? (ad.add j) = some u) ∧ (∀ u ∈ news, u.oneCell' = true) ∧
      ∀ k x, l[k]? = some x → ∃ ai ci, news[k * 3]? = some (.int .i64 x.pos) ∧ news[k * 3 + 1]? = some (.int .i64 x.del) ∧ news[k * 3 + 2]? = some (.slice ai x.ins.length ci) ∧ SlOf IsStr w ai ci x.ins
  | [], ad, c, _ => ⟨[], rfl, by simp, by simp, by simp⟩
  | s :: r, ad, c, h => by
    obtain ⟨b, off, ai, ci, ha, c0, c1, c2, hs⟩ := h.2.2.2 0 s rfl
    injection ha with ha
    subst ha
    have hd := h.drop 1
    rw [add_none] at hd
    obtain ⟨n, n1, n2, n3, n4⟩ := news_spl r _ _ hd
    refine ⟨[.int .i64 s.pos, .int .i64 s.del, .slice ai s.ins.length ci] ++ n, by simp [n1]; omega, ?_, ?_, ?_⟩
    · intro j u hj
      match j, hj with
      | 0, hj => simp at hj; subst hj; rw [add_none]; simpa using c0
      | 1, hj => simp at hj; subst hj; rw [add_none]; simpa using c1
      | 2, hj => simp at hj; subst hj; rw [add_none]; simpa using c2
      | j + 3, hj =>
        simp at hj
        have := n2 j u hj
        rw [add_none] at this ⊢
        rw [show off + (j + 3) = off + 1 * 3 + j by omega]
        exact this
    · intro u hu
      simp only [List.cons_append, List.nil_append, List.mem_cons] at hu
      rcases hu with rfl | rfl | rfl | hu
      · rfl
      · rfl
      · rfl
      · exact n3 u hu
    · intro k x hk
      match k, hk with
      | 0, hk =>
        simp at hk
        subst hk
        exact ⟨ai, ci, rfl, rfl, rfl, hs⟩
      | k + 1, hk =>
        simp at hk
        obtain ⟨a', c', e0, e1, e2, e3⟩ := n4 k x hk
        refine ⟨a', c', ?_, ?_, ?_, e3⟩
        · rw [show (k + 1) * 3 = k * 3 + 3 by omega]; simpa using e0
        · rw [show (k + 1) * 3 + 1 = (k * 3 + 1) + 3 by omega]; simpa using e1
        · rw [show (k + 1) * 3 + 2 = (k * 3 + 2) + 3 by omega]; simpa using e2

/-- One splice in a block of its own, as an owned row. -/
theorem own_one (w : World) (s : Spl) (ai : Option Addr) (ci : Nat) :
    (w.alloc (.cells #[.int .i64 s.pos, .int .i64 s.del, .slice ai s.ins.length ci] 37 (0, 0))).ownsRow w.heap.size 37 3 (.slice (some ⟨w.heap.size, 0, none⟩) 1 1) 1 [.int .i64 s.pos, .int .i64 s.del, .slice ai s.ins.length ci] :=
  ⟨by simp, .inr ⟨w.heap.size, 1, _, rfl, Nat.le_refl _, heap_alloc_at w _, Nat.le_refl _, by unfold maxLen; omega, by simp, by simp⟩⟩

theorem own_splOf {w : World} {B : Nat} {v : Value} {s : Spl} {ai : Option Addr} {ci : Nat} {l : List Spl} {news : List Value} (h : w.ownsRow B 37 3 v (1 + l.length) ([.int .i64 s.pos, .int .i64 s.del, .slice ai s.ins.length ci] ++ news))
    (hi : SlOf IsStr w ai ci s.ins) (hn : ∀ k x, l[k]? = some x → ∃ ai ci, news[k * 3]? = some (.int .i64 x.pos) ∧ news[k * 3 + 1]? = some (.int .i64 x.del) ∧ news[k * 3 + 2]? = some (.slice ai x.ins.length ci) ∧ SlOf IsStr w ai ci x.ins) :
    ∃ a' c', v = .slice a' (s :: l).length c' ∧ SplOf w a' c' (s :: l) := by
  rcases h.2 with ⟨rfl, h0⟩ | ⟨g, cap, cur, rfl, hg, hh, hle, hm, _, _⟩
  · omega
  · refine ⟨_, cap, by rw [List.length_cons, Nat.add_comm], by simp; omega, hm, by simp, fun k x hk => ?_⟩
    have hc := fun j hj => World.ownsRow.cellAt h j hj
    match k, hk with
    | 0, hk =>
      simp at hk
      subst hk
      refine ⟨g, 0, ai, ci, rfl, ?_, ?_, ?_, hi⟩
      · rw [show 0 + 0 * 3 = 0 by omega, hc 0 (by omega)]; rfl
      · rw [show 0 + 0 * 3 + 1 = 1 by omega, hc 1 (by omega)]; rfl
      · rw [show 0 + 0 * 3 + 2 = 2 by omega, hc 2 (by omega)]; rfl
    | k + 1, hk =>
      simp at hk
      have hkl := (List.getElem?_eq_some_iff.1 hk).1
      obtain ⟨a', c', e0, e1, e2, e3⟩ := hn k x hk
      refine ⟨g, 0, a', c', rfl, ?_, ?_, ?_, e3⟩
      · rw [show 0 + (k + 1) * 3 = k * 3 + 3 by omega, hc _ (by omega)]; simpa using e0
      · rw [show 0 + (k + 1) * 3 + 1 = (k * 3 + 1) + 3 by omega, hc _ (by omega)]; simpa using e1
      · rw [show 0 + (k + 1) * 3 + 2 = (k * 3 + 2) + 3 by omega, hc _ (by omega)]; simpa using e2

/-- One splice put ahead of others. -/
theorem wpList_append_spl {w0 : World} {ops : Array Oper} {rest : List Oper} {o : Oper} {a : Act} {Q : Exit → Act → World → Prop} (hgd : o.guard = none) (s x : Operand)
    (ho : o.op = .call { callee := .builtin .append, args := #[s, x], argTypes := #[38, 38] })
    (t : Spl) (ai : Option Addr) (ci : Nat) (B : Nat) (hB : w0.heap.size = B) (hs : a.eval s = .slice (some ⟨B, 0, none⟩) 1 1) (hi : SlOf IsStr w0 ai ci t.ins)
    (ao : Option Addr) (n c : Nat) (l : List Spl) (hn : l.length = n) (hx : a.eval x = .slice ao n c) (hl : SplOf w0 ao c l) (hsz : l.length ≤ 1000)
    (h : ∀ a' c' w', SplOf w' a' c' (t :: l) → Below w0.heap.size w0 w' → wpList Tryz.prog ops Q rest (a.put o.dst (.slice a' (n + 1) c')) w') :
    wpList Tryz.prog ops Q (o :: rest) a (w0.alloc (.cells #[.int .i64 t.pos, .int .i64 t.del, .slice ai t.ins.length ci] 37 (0, 0))) := by
  subst hn hB
  obtain ⟨i0, hi0, hz0, hz1, hz2⟩ := info_parts spl_info
  have hA := below_alloc w0 (.cells #[.int .i64 t.pos, .int .i64 t.del, .slice ai t.ins.length ci] 37 (0, 0))
  have hown := own_one w0 t ai ci
  cases ao with
  | none =>
    have hc : c = 0 := hl.2.2.1 rfl
    have h0 : l = [] := List.eq_nil_of_length_eq_zero (by have := hl.1; omega)
    subst hc h0
    obtain ⟨a', c', hv, hsp⟩ := own_splOf (l := []) (news := []) (by simpa using hown) (hi.later lasts_str hA) (by simp)
    have hh := h a' c' _ hsp hA
    simp only [List.length_cons, List.length_nil, Nat.zero_add] at hv hh
    rw [← hv] at hh
    exact wpList_append_own_none hgd s x 38 ho w0.heap.size 37 i0 3 Tryz.underlying38 hi0 _ _ _ hs hown hx hh
  | some ad =>
    obtain ⟨news, n1, n2, n3, n4⟩ := news_spl l ad c hl
    refine wpList_append_own _ hgd s x 38 ho w0.heap.size 37 i0 _ 3 40 Tryz.underlying38 hi0 hz0 hz1 hz2 rfl (by decide) _ _ _ hs hown ad l.length c news hx n1 (fun j u hj => (hA.cell (block_lt_of_cell (n2 j u hj))).trans (n2 j u hj)) n3 (by unfold maxLen; omega) (by omega) hA.size ?_
    intro v' w' h2 h3 _
    have hbw : Below w0.heap.size w0 w' := hA.trans ((Below.refl _ _).grown h3 hA.size (fun k hk => (hown.lt k hk).1))
    obtain ⟨a', c', hv, hsp⟩ := own_splOf h2 (hi.later lasts_str hbw) (fun k x hk => by
      obtain ⟨a1, c1, e0, e1, e2, e3⟩ := n4 k x hk
      exact ⟨a1, c1, e0, e1, e2, e3.later lasts_str hbw⟩)
    subst hv
    exact h a' c' w' hsp hbw
end Go.Proofs.YtlcjjcmfpmflcaaGreatDoor
