/- Rows of pieces in memory; the walks of piece.cut, Table.Len, pieces.of and pieces.New. -/
import Derived.Test.YtlcjjcmfpmflcaaGreatDoorKeep
import Derived.Test.YtlcjjcmfpmflcaaGreatDoorPc0
import Derived.Test.YtlcjjcmfpmflcaaGreatDoorSpl2
import Derived.Test.YtlcjjcmfpmflcaaGreatDoorLin0
import Derived.Deep.RegionHeld3
set_option linter.unusedVariables false
set_option linter.unusedSimpArgs false
namespace Go.Proofs.YtlcjjcmfpmflcaaGreatDoor
open Go Go.Proofs Go.RowKit Go.Ink

theorem pc_info : (Tryz.prog.info? 153).map (fun i => (i.zero, i.size, i.bytes)) = some (some (.slice none 0 0), 1, 24) := by kernel_rfl

/-- A slice of texts that lies in none of the blocks S. -/
def SlA (S : Nat → Prop) (w : World) (ao : Option Addr) (cap : Nat) (l : List Line) : Prop := SlOf IsStr w ao cap l ∧ (l ≠ [] → ∀ ad, ao = some ad → ¬ S ad.block)
theorem SlA.later {S : Nat → Prop} {w w' : World} {ao : Option Addr} {cap : Nat} {l : List Line} (h : SlA S w ao cap l) (hb : Below w.heap.size w w') : SlA S w' ao cap l := ⟨h.1.later lasts_str hb, h.2⟩
/-- A piece as a value: its lines lie in none of the blocks S. -/
def IsPc (S : Nat → Prop) (w : World) (u : Value) (l : List Line) : Prop := ∃ ao cap, u = .slice ao l.length cap ∧ SlA S w ao cap l
theorem lasts_pc {S : Nat → Prop} : Lasts (IsPc S) := fun _ _ _ _ hb ⟨ao, cap, hu, h⟩ => ⟨ao, cap, hu, h.later hb⟩
theorem own_slA {S : Nat → Prop} {w : World} {B n c : Nat} {a : Option Addr} {l : List Line} (hn : l.length = n) (h : OwnStrs w B (.slice a n c) l) (hS : ∀ k, S k → k < B) : SlA S w a c l := by
  refine ⟨own_slOfV hn h, fun _ ad ha hs => ?_⟩
  subst ha
  rcases h.2 with ⟨h1, _⟩ | ⟨g, cap, cur, h1, hg, _⟩
  · cases h1
  · simp only [Value.slice.injEq, Option.some.injEq] at h1
    obtain ⟨rfl, _⟩ := h1
    have := hS _ hs
    simp only at this
    omega

/-- A row of the call's own whose cells stand for pieces that lay in the world w0. -/
def OwnPcs (S : Nat → Prop) (w0 : World) (B : Nat) (w : World) (v : Value) (ps : List (List Line)) : Prop :=
  ∃ vs : List Value, w.ownsRow B 153 1 v ps.length vs ∧ ∀ (k : Nat) x, ps[k]? = some x → ∃ u, vs[k]? = some u ∧ (IsPc S) w0 u x
theorem OwnPcs.slOf {S : Nat → Prop} {w0 w : World} {B : Nat} {v : Value} {ps : List (List Line)} (h : OwnPcs S w0 B w v ps) (hb : Below w0.heap.size w0 w) : ∃ ao cap, v = .slice ao ps.length cap ∧ SlOf (IsPc S) w ao cap ps := by
  obtain ⟨vs, hr, he⟩ := h
  rcases hr.2 with ⟨rfl, h0⟩ | ⟨g, cap, cur, rfl, hg, hh, hle, hm, _, _⟩
  · have : ps = [] := List.eq_nil_of_length_eq_zero h0
    subst this
    exact ⟨none, 0, rfl, by simp, by unfold maxLen; omega, fun _ => rfl, by simp⟩
  · refine ⟨_, cap, rfl, hle, hm, by simp, fun k x hk => ?_⟩
    obtain ⟨u, hu, hx⟩ := he k x hk
    refine ⟨g, 0, u, rfl, ?_, lasts_pc _ _ _ _ hb hx⟩
    rw [Nat.zero_add, World.ownsRow.cellAt hr k (by have := (List.getElem?_eq_some_iff.1 hk).1; omega)]
    exact hu
theorem OwnPcs.shape {S : Nat → Prop} {w0 w : World} {B : Nat} {v : Value} {ps : List (List Line)} (h : OwnPcs S w0 B w v ps) : ∃ ao cap, v = .slice ao ps.length cap := by
  obtain ⟨vs, hr, _⟩ := h
  exact ownsRow_shape hr
theorem OwnPcs.slOfV {S : Nat → Prop} {w0 w : World} {B n c : Nat} {a : Option Addr} {ps : List (List Line)} (hn : ps.length = n) (h : OwnPcs S w0 B w (.slice a n c) ps) (hb : Below w0.heap.size w0 w) : SlOf (IsPc S) w a c ps := by
  subst hn
  obtain ⟨ao, cap, e, h⟩ := h.slOf hb
  simp only [Value.slice.injEq] at e
  obtain ⟨rfl, _, rfl⟩ := e
  exact h
theorem OwnPcs.away {S : Nat → Prop} {w0 w : World} {B n c : Nat} {a : Option Addr} {ps : List (List Line)} (h : OwnPcs S w0 B w (.slice a n c) ps) (hS : ∀ k, S k → k < B) : ∀ ad, a = some ad → ¬ S ad.block := by
  intro ad ha hs
  subst ha
  obtain ⟨vs, hr, _⟩ := h
  rcases hr.2 with ⟨h1, _⟩ | ⟨g, cap, cur, h1, hg, _⟩
  · cases h1
  · simp only [Value.slice.injEq, Option.some.injEq] at h1
    obtain ⟨rfl, _⟩ := h1
    have := hS _ hs
    simp only at this
    omega
theorem OwnPcs.nil {S : Nat → Prop} (w0 : World) (B : Nat) (w : World) : OwnPcs S w0 B w (.slice none 0 0) [] := ⟨[], World.ownsRow_nil _ _ _ _, by simp⟩
theorem OwnPcs.later {S : Nat → Prop} {w0 w w' : World} {B : Nat} {v : Value} {ps : List (List Line)} (h : OwnPcs S w0 B w v ps) (hb : Below w.heap.size w w') : OwnPcs S w0 B w' v ps := by
  obtain ⟨vs, hr, he⟩ := h
  exact ⟨vs, ownsRow_below hr hb, he⟩
theorem OwnPcs.set {S : Nat → Prop} {w0 w : World} {B : Nat} {v : Value} {ps : List (List Line)} (h : OwnPcs S w0 B w v ps) {a : Addr} (ha : a.block < B) (u : Value) : OwnPcs S w0 B (w.setCell a u) v ps := by
  obtain ⟨vs, hr, he⟩ := h
  exact ⟨vs, ownsRow_setCell_below hr ha u, he⟩
/-- The cells of a slice of pieces, the pieces as they lay in w0. -/
def SrcPcs (S : Nat → Prop) (w0 w : World) (ao : Option Addr) (c : Nat) (qs : List (List Line)) : Prop :=
  qs.length ≤ c ∧ (ao = none → c = 0) ∧ ∀ k x, qs[k]? = some x → ∃ b off u, ao = some ⟨b, off, none⟩ ∧ w.cell? ⟨b, off + k, none⟩ = some u ∧ (IsPc S) w0 u x
theorem SrcPcs.of {S : Nat → Prop} {w0 w : World} {ao : Option Addr} {c : Nat} {qs : List (List Line)} (h : SlOf (IsPc S) w0 ao c qs) (hb : Below w0.heap.size w0 w) : SrcPcs S w0 w ao c qs := by
  obtain ⟨h1, h2, h3, h4⟩ := h
  refine ⟨h1, h3, fun k x hk => ?_⟩
  obtain ⟨b, off, u, ha, hc, hr⟩ := h4 k x hk
  exact ⟨b, off, u, ha, (hb.cell (p := ⟨b, off + k, none⟩) (lt_of_cell hc)).trans hc, hr⟩
theorem SrcPcs.one {S : Nat → Prop} {w0 w : World} {b : Nat} {p : List Line} {a : Option Addr} {c : Nat} {T : TypeId} {fr : Nat × Nat} (h : w.heap[b]? = some (.cells #[.slice a p.length c] T fr)) (hp : SlA S w0 a c p) : SrcPcs S w0 w (some ⟨b, 0, none⟩) 1 [p] := by
  refine ⟨by simp, by simp, fun k x hk => ?_⟩
  have hk0 : k = 0 := by have := (List.getElem?_eq_some_iff.1 hk).1; simp at this; exact this
  subst hk0
  simp only [List.getElem?_cons_zero, Option.some.injEq] at hk
  subst hk
  exact ⟨b, 0, _, rfl, by rw [Lib.cell_of_heap h]; rfl, _, _, rfl, hp⟩
theorem SrcPcs.news {S : Nat → Prop} {w0 w : World} {ad : Addr} {c : Nat} {qs : List (List Line)} (h : SrcPcs S w0 w (some ad) c qs) : ∃ news : List Value, news.length = qs.length ∧ (∀ j u, news[j]? = some u → w.cell? (ad.add j) = some u) ∧ (∀ u ∈ news, u.oneCell' = true) ∧ ∀ (k : Nat) x, qs[k]? = some x → ∃ u, news[k]? = some u ∧ (IsPc S) w0 u x := by
  have key : ∀ k, k < qs.length → ∃ u x, qs[k]? = some x ∧ w.cell? (ad.add k) = some u ∧ (IsPc S) w0 u x := fun k hk => by
    obtain ⟨b, off, u, ha, hc, hr⟩ := h.2.2 k _ (List.getElem?_eq_getElem hk)
    injection ha with ha
    subst ha
    exact ⟨u, _, List.getElem?_eq_getElem hk, by rw [add_none]; exact hc, hr⟩
  refine ⟨(List.range qs.length).map fun k => (w.cell? (ad.add k)).getD undef, by simp, ?_, ?_, ?_⟩
  · intro j u hj
    have hk : j < qs.length := by have := (List.getElem?_eq_some_iff.1 hj).1; simpa using this
    obtain ⟨u', x, _, hc, _⟩ := key j hk
    simp [List.getElem?_map, List.getElem?_range hk, hc] at hj
    rw [hc, hj]
  · intro u hu
    simp only [List.mem_map, List.mem_range] at hu
    obtain ⟨k, hk, rfl⟩ := hu
    obtain ⟨u', x, _, hc, a, c, rfl, _⟩ := key k hk
    rw [hc]; rfl
  · intro k x hk
    have hkl := (List.getElem?_eq_some_iff.1 hk).1
    obtain ⟨u', x', hx, hc, hr⟩ := key k hkl
    rw [hk] at hx
    injection hx with hx
    subst hx
    exact ⟨u', by simp [List.getElem?_map, List.getElem?_range hkl, hc], hr⟩

/-- append of pieces to a row of the call's own. -/
theorem wpList_append_pcs {S : Nat → Prop} {w0 w : World} {ops : Array Oper} {rest : List Oper} {o : Oper} {a : Act} {Q : Exit → Act → World → Prop} (hgd : o.guard = none) (s x : Operand)
    (ho : o.op = .call { callee := .builtin .append, args := #[s, x], argTypes := #[133, 133] })
    (B : Nat) (v : Value) (ps : List (List Line)) (hs : a.eval s = v) (hown : OwnPcs S w0 B w v ps) (ao : Option Addr) (n c : Nat) (qs : List (List Line)) (hn : qs.length = n) (hx : a.eval x = .slice ao n c) (hq : SrcPcs S w0 w ao c qs)
    (hb : B ≤ w.heap.size) (hsz : ps.length + qs.length ≤ 1000000)
    (h : ∀ v' w', OwnPcs S w0 B w' v' (ps ++ qs) → Below B w w' → (∀ k, k < w.heap.size → v.ownBlock ≠ some k → w'.heap[k]? = w.heap[k]?) → w.heap.size ≤ w'.heap.size → wpList Tryz.prog ops Q rest (a.put o.dst v') w') : wpList Tryz.prog ops Q (o :: rest) a w := by
  subst hn
  obtain ⟨i0, hi, hz0, hz1, hz2⟩ := info_parts pc_info
  have hown0 := hown
  obtain ⟨vs, hr, he⟩ := hown
  cases ao with
  | none =>
    have hc : c = 0 := hq.2.1 rfl
    have h0 : qs = [] := List.eq_nil_of_length_eq_zero (by have := hq.1; omega)
    subst hc h0
    exact wpList_append_own_none hgd s x 133 ho B 153 i0 1 Tryz.underlying133 hi v _ _ hs hr hx (h v w (by rw [List.append_nil]; exact hown0) (Below.refl _ _) (fun _ _ _ => rfl) (Nat.le_refl _))
  | some ad =>
    obtain ⟨news, n1, n2, n3, n4⟩ := hq.news
    refine wpList_append_own _ hgd s x 133 ho B 153 i0 _ 1 24 Tryz.underlying133 hi hz0 hz1 hz2 rfl (by decide) v _ _ hs hr ad qs.length c news hx (by omega) n2 n3 (by unfold maxLen; omega) (by omega) hb ?_
    intro v' w' h2 h3 _
    refine h v' w' ⟨vs ++ news, by rw [List.length_append]; exact h2, fun k y hk => ?_⟩ ((Below.refl _ _).grown h3 hb (fun k hk => (hr.lt k hk).1)) (fun k hk hne => h3.block k hk (fun e => hne e.symm)) h3.size
    have hvl : vs.length = ps.length := by have := hr.1; omega
    rcases Nat.lt_or_ge k ps.length with hk1 | hk1
    · rw [List.getElem?_append_left hk1] at hk
      obtain ⟨u, hu, hx⟩ := he k y hk
      exact ⟨u, by rw [List.getElem?_append_left (by omega)]; exact hu, hx⟩
    · rw [List.getElem?_append_right hk1] at hk
      obtain ⟨u, hu, hx⟩ := n4 _ y hk
      exact ⟨u, by rw [List.getElem?_append_right (by omega), hvl]; exact hu, hx⟩

/-- A table of pieces at a block. -/
def TabOf (S : Nat → Prop) (w : World) (b : Nat) (ps : List (List Line)) : Prop :=
  ∃ ao cap fr, w.heap[b]? = some (.cells #[.slice ao ps.length cap, .int .i64 (manyS ps)] 151 fr) ∧ SlOf (IsPc S) w ao cap ps ∧ ¬ S b ∧ (ps ≠ [] → ∀ ad, ao = some ad → ¬ S ad.block)
theorem TabOf.later {S : Nat → Prop} {w w' : World} {b : Nat} {ps : List (List Line)} (h : TabOf S w b ps) (hb : Below w.heap.size w w') : TabOf S w' b ps := by
  obtain ⟨ao, cap, fr, hh, hs, hn⟩ := h
  exact ⟨ao, cap, fr, (hb.block b (lt_of_heap hh)).trans hh, hs.later lasts_pc hb, hn⟩
theorem TabOf.lt {S : Nat → Prop} {w : World} {b : Nat} {ps : List (List Line)} (h : TabOf S w b ps) : b < w.heap.size := by
  obtain ⟨ao, cap, fr, hh, hs⟩ := h
  exact lt_of_heap hh

theorem ofS_snoc (l : List (List Line)) (p : List Line) : ofS (l ++ [p]) = ofS l ++ (if 0 < p.length then [p] else []) := by
  unfold ofS
  rw [List.filter_append, List.filter_cons, List.filter_nil]
  by_cases h : 0 < p.length <;> simp [h]
theorem ofS_take {l : List (List Line)} {k : Nat} {p : List Line} (h : l[k]? = some p) : ofS (l.take (k + 1)) = ofS (l.take k) ++ (if 0 < p.length then [p] else []) := by
  obtain ⟨hk, rfl⟩ := List.getElem?_eq_some_iff.1 h
  rw [List.take_succ_eq_append_getElem hk, ofS_snoc]
theorem manyS_append : ∀ (a b : List (List Line)), manyS (a ++ b) = manyS a + manyS b
  | [], b => by simp [manyS]
  | p :: a, b => by simp only [List.cons_append, manyS, manyS_append a b]; omega
theorem ofS_len (l : List (List Line)) : (ofS l).length ≤ l.length := List.length_filter_le _ _

theorem SlOf.capTo {α : Type} {R : World → Value → α → Prop} {w : World} {ad : Addr} {c c' : Nat} {xs : List α} (h : SlOf R w (some ad) c xs) (h1 : xs.length ≤ c') (h2 : c' ≤ c) : SlOf R w (some ad) c' xs :=
  ⟨h1, Nat.le_trans h2 h.2.1, by simp, h.2.2.2⟩
theorem cut_any (n b off cap fr tz : Nat) (w : World) (h1 : fr < tz) (h2 : tz ≤ cap) (hm : cap ≤ maxLen) :
    Calls Tryz.prog 122 #[.slice (some ⟨b, off, none⟩) n cap, .int .i64 fr, .int .i64 tz] w fun e w' => e = .returned (.slice (some ⟨b, off + fr, none⟩) (tz - fr) (tz - fr)) ∧ w = w' := by
  have hm : cap ≤ 9223372036854775807 := hm
  have e1 : ¬ tz = fr := by omega
  go_enter Tryz.func122, Tryz.ntmps122
  go_wp2_with fail
  go_returns
  exact ⟨rfl, rfl⟩
/-- What cut hands back stands for the stretch. -/
theorem cut_row {w : World} {l : List Line} {b off cap fr tz : Nat} (h1 : fr < tz) (h2 : tz ≤ l.length) (hs : SlOf IsStr w (some ⟨b, off, none⟩) cap l) : SlOf IsStr w (some ⟨b, off + fr, none⟩) (tz - fr) ((l.drop fr).take (tz - fr)) :=
  SlOf.capTo (slOf_cut hs rfl fr tz (by omega) h2) (c' := tz - fr) (by rw [List.length_take, List.length_drop]; omega) (by have := hs.1; omega)
theorem cut_rowA {S : Nat → Prop} {w : World} {l : List Line} {b off cap fr tz : Nat} (h1 : fr < tz) (h2 : tz ≤ l.length) (hs : SlA S w (some ⟨b, off, none⟩) cap l) : SlA S w (some ⟨b, off + fr, none⟩) (tz - fr) ((l.drop fr).take (tz - fr)) :=
  ⟨cut_row h1 h2 hs.1, fun _ ad ha => by cases ha; exact hs.2 (by intro h; subst h; simp at h2; omega) ⟨b, off, none⟩ rfl⟩
/-- A slice lasts where none of the blocks but those of S is turned. -/
theorem slOf_keptN {α : Type} {R : World → Value → α → Prop} {S : Nat → Prop} {w w' : World} {ao : Option Addr} {cap : Nat} {xs : List α} (hk : KeepT S w w') (h : SlOf R w ao cap xs) (hn : xs ≠ [] → ∀ ad, ao = some ad → ¬ S ad.block) (hR : ∀ u x, R w u x → R w' u x) : SlOf R w' ao cap xs := by
  match xs, h, hn with
  | [], h, hn => exact ⟨h.1, h.2.1, h.2.2.1, by simp⟩
  | x :: r, h, hn => exact h.kept hk (fun b off ha => hn (by simp) _ ha) hR
theorem SlA.kept {S : Nat → Prop} {w w' : World} {ao : Option Addr} {cap : Nat} {l : List Line} (h : SlA S w ao cap l) (hk : KeepT S w w') : SlA S w' ao cap l := ⟨slOf_keptN hk h.1 h.2 (fun _ _ hu => hu), h.2⟩
/-- A table lasts where none of the blocks but those of S is turned. -/
theorem TabOf.kept {S : Nat → Prop} {w w' : World} {b : Nat} {ps : List (List Line)} (h : TabOf S w b ps) (hk : KeepT S w w') : TabOf S w' b ps := by
  obtain ⟨ao, cap, fr, hh, hs, hb, hn⟩ := h
  refine ⟨ao, cap, fr, (hk.block b (lt_of_heap hh) hb).trans hh, slOf_keptN hk hs hn ?_, hb, hn⟩
  rintro u x ⟨a2, c2, hu, h1⟩
  exact ⟨a2, c2, hu, h1.kept hk⟩
theorem slOf_old {α : Type} {R : World → Value → α → Prop} {w : World} {ao : Option Addr} {cap : Nat} {xs : List α} (h : SlOf R w ao cap xs) (h0 : xs ≠ []) : ∀ ad, ao = some ad → ad.block < w.heap.size := by
  intro ad ha
  match xs, h, h0 with
  | x :: r, h, _ =>
  obtain ⟨b3, o3, u3, ha3, hc3, _⟩ := h.2.2.2 0 x rfl
  rw [ha] at ha3
  injection ha3 with ha3
  subst ha3
  exact lt_of_cell hc3
theorem SlA.apart {S S' : Nat → Prop} {w : World} {ao : Option Addr} {cap : Nat} {l : List Line} (h : SlA S w ao cap l) (hS : ∀ k, S' k → S k ∨ w.heap.size ≤ k) : SlA S' w ao cap l :=
  ⟨h.1, fun h0 ad ha hs => by
    rcases hS _ hs with h' | h'
    · exact h.2 h0 ad ha h'
    · have := slOf_old h.1 h0 ad ha
      omega⟩
/-- .. and is apart from blocks that are newer. -/
theorem TabOf.apart {S S' : Nat → Prop} {w : World} {b : Nat} {ps : List (List Line)} (h : TabOf S w b ps) (hS : ∀ k, S' k → S k ∨ w.heap.size ≤ k) : TabOf S' w b ps := by
  obtain ⟨ao, cap, fr, hh, hs, hb, hn⟩ := h
  have hbl := lt_of_heap hh
  refine ⟨ao, cap, fr, hh, ⟨hs.1, hs.2.1, hs.2.2.1, fun k x hx => ?_⟩, fun h' => ?_, fun h0 ad had hS' => ?_⟩
  · obtain ⟨b', off, u, ha, hc, a2, c2, hu, h1⟩ := hs.2.2.2 k x hx
    exact ⟨b', off, u, ha, hc, a2, c2, hu, h1.apart hS⟩
  · rcases hS _ h' with h | h
    · exact hb h
    · omega
  · rcases hS _ hS' with h | h
    · exact hn h0 _ had h
    · have := slOf_old hs h0 ad had
      omega
end Go.Proofs.YtlcjjcmfpmflcaaGreatDoor
/- The walks of Table.Len, pieces.of and pieces.New. -/
namespace Go.Proofs.YtlcjjcmfpmflcaaGreatDoor
open Go Go.Proofs Go.RowKit Go.Ink

theorem tabLen_any {S : Nat → Prop} (b : Nat) (ps : List (List Line)) (w : World) (ht : TabOf S w b ps) :
    Calls Tryz.prog 63 #[.pointer (some ⟨b, 0, none⟩)] w fun e w' => e = .returned (.int .i64 (manyS ps)) ∧ w = w' := by
  obtain ⟨ao, cap, fr, hh, _⟩ := ht
  have c1 : w.cell? ⟨b, 1, none⟩ = some (.int .i64 (manyS ps)) := by rw [Lib.cell_of_heap hh]; rfl
  clear hh
  go_enter Tryz.func63, Tryz.ntmps63
  go_wp2_with fail
  go_returns
  exact ⟨rfl, rfl⟩

theorem manyS_ofS (l : List (List Line)) : manyS (ofS l) = manyS l := by rw [manyS_flat, ofS_flat, ← manyS_flat]
theorem manyS_take (l : List (List Line)) (k : Nat) : manyS (l.take k) ≤ manyS l := by
  have h := manyS_append (l.take k) (l.drop k)
  rw [List.take_append_drop] at h
  omega
/-- A table under way: its pieces are a row of the call's own. -/
def TabWay (S : Nat → Prop) (w0 wr : World) (v : Value) (ps : List (List Line)) : Prop :=
  wr.heap[w0.heap.size]? = some (.cells #[v, .int .i64 (manyS ps)] 151 (0, 0)) ∧ OwnPcs S w0 (w0.heap.size + 1) wr v ps

theorem OwnPcs.ne {S : Nat → Prop} {w0 w : World} {B : Nat} {v : Value} {ps : List (List Line)} (h : OwnPcs S w0 B w v ps) {b : Nat} (hb : b < B) : v.ownBlock ≠ some b := by
  obtain ⟨vs, hr, _⟩ := h
  exact ownsRow_ne hr hb

set_option maxRecDepth 100000 in
theorem of_any {S : Nat → Prop} (ls : List (List Line)) (ao : Option Addr) (cap : Nat) (w : World) (hs : SlOf (IsPc S) w ao cap ls) (hl : ls.length ≤ 100000) (hm : manyS ls ≤ 1000000) (hS : ∀ k, S k → k < w.heap.size) :
    Calls Tryz.prog 75 #[.slice ao ls.length cap] w fun e w' => ∃ b, e = .returned (.pointer (some ⟨b, 0, none⟩)) ∧ TabOf S w' b (ofS ls) ∧ Below w.heap.size w w' := by
  have HS := Lib.hid hs
  have hc : ls.length ≤ 9223372036854775807 := Nat.le_trans hs.1 hs.2.1
  have HSS := Lib.hid hS
  clear hs hS
  have HT0 := Lib.hid (show TabWay S w (w.alloc (.cells #[.slice none 0 0, .int .i64 0] 151 (0, 0))) (.slice none 0 0) [] from ⟨heap_alloc_at w _, OwnPcs.nil _ _ _⟩)
  have HB0 := Lib.hid (below_alloc w (.cells #[.slice none 0 0, .int .i64 0] 151 (0, 0)))
  go_enter Tryz.func75, Tryz.ntmps75
  go_wp2_with fail
  go_loopw [10] (fun i wr => ∃ (k : Nat) (v : Value), i = .int .i64 k ∧ k ≤ ls.length ∧ Hid (TabWay S w wr v (ofS (ls.take k))) ∧ Hid (Below w.heap.size w wr)) (fun i _ => ls.length - (intOf i).toNat)
  case atStart => exact ⟨0, _, rfl, by omega, HT0, HB0⟩
  case round =>
    obtain ⟨k, v, rfl, hk, HT, HB⟩ := hrel
    by_cases hlt : k < ls.length
    · obtain ⟨p, hkp⟩ : ∃ p, ls[k]? = some p := ⟨_, List.getElem?_eq_getElem hlt⟩
      obtain ⟨b, off, u, hao, hcell, a2, c2, hu, hrow⟩ := HS.out.2.2.2 k p hkp
      subst hao hu
      have hcell' := ((HB.out.cell (p := ⟨b, off + k, none⟩) (lt_of_cell hcell))).trans hcell
      have HR := Lib.hid hrow
      have hmk := manyS_take ls (k + 1)
      have hnx := ofS_take hkp
      have hm2 : manyS (ofS (ls.take (k + 1))) ≤ 1000000 := by rw [manyS_ofS]; omega
      have hl2 : (ofS (ls.take k)).length ≤ 100000 := Nat.le_trans (ofS_len _) (by rw [List.length_take]; omega)
      clear hcell hrow hkp hmk
      by_cases hp : 0 < p.length
      · rw [if_pos hp] at hnx
        have HNX := Lib.hid hnx
        rw [hnx, manyS_append] at hm2
        simp only [manyS, Nat.add_zero] at hm2
        clear hnx
        generalize ofS (ls.take k) = P at *
        obtain ⟨ap, cp, rfl⟩ := HT.out.2.shape
        have d0 := Lib.cell_of_heap HT.out.1 0
        have d1 := Lib.cell_of_heap HT.out.1 1
        have f0 := Lib.frozen_of_heap HT.out.1 0
        have f1 := Lib.frozen_of_heap HT.out.1 1
        simp only [List.getElem?_toArray, List.getElem?_cons_succ, List.getElem?_cons_zero] at d0 d1
        have HZ := Lib.hid (lt_of_heap HT.out.1)
        have HA := Lib.hid (below_alloc wr (.cells #[.slice a2 p.length c2] 153 (0, 0)))
        have HQ := Lib.hid (SrcPcs.one (heap_alloc_at wr (.cells #[.slice a2 p.length c2] 153 (0, 0))) HR.out)
        go_wp2_with (at_builtin; refine wpList_append_pcs (w0 := w) rfl _ _ rfl (w.heap.size + 1) _ P rfl (HT.out.2.later HA.out) (some ⟨wr.heap.size, 0, none⟩) 1 1 [p] rfl rfl HQ.out (by have := HZ.out; simp; omega) (by simp; omega) ?_)
        intro v' w5 ho5 hb5 hbl5 hz5
        have HG5 := Lib.hid ((hbl5 w.heap.size (by have := HZ.out; omega) (HT.out.2.ne (Nat.lt_succ_self _))).trans ((Below.heap_alloc wr _ _ HZ.out).trans HT.out.1))
        have HO5 := Lib.hid ho5
        have HB5 := Lib.hid (HB.out.trans ((HA.out.mono HB.out.size).trans (hb5.mono (Nat.le_succ _))))
        obtain ⟨a', c', hv'⟩ := ho5.shape
        rw [show (P ++ [p]).length = P.length + 1 by simp] at hv'
        subst hv'
        clear hbl5 hz5 hb5 ho5 d0 d1 f0 f1 HA HQ HT
        have d0 := Lib.cell_of_heap HG5.out 0
        have d1 := Lib.cell_of_heap HG5.out 1
        have f0 := Lib.frozen_of_heap HG5.out 0
        have f1 := Lib.frozen_of_heap HG5.out 1
        simp only [List.getElem?_toArray, List.getElem?_cons_succ, List.getElem?_cons_zero] at d0 d1
        have s1 := heap_set (j := 0) HG5.out (.slice a' (P.length + 1) c')
        have s2 := heap_set (j := 1) s1 (.int .i64 ((manyS P : Int) + (p.length : Int)))
        have HN : Hid (TabWay S w ((w5.setCell ⟨w.heap.size, 0, none⟩ (.slice a' (P.length + 1) c')).setCell ⟨w.heap.size, 1, none⟩ (.int .i64 ((manyS P : Int) + (p.length : Int)))) (.slice a' (P.length + 1) c') (P ++ [p])) := Lib.hid ⟨by
          rw [s2, manyS_append]; simp [manyS], (HO5.out.set (Nat.lt_succ_self _) _).set (Nat.lt_succ_self _) _⟩
        have HBN : Hid (Below w.heap.size w ((w5.setCell ⟨w.heap.size, 0, none⟩ (.slice a' (P.length + 1) c')).setCell ⟨w.heap.size, 1, none⟩ (.int .i64 ((manyS P : Int) + (p.length : Int))))) := Lib.hid ((HB5.out.setCell (Nat.le_refl _) _).setCell (Nat.le_refl _) _)
        have e1 : (w5.setCell ⟨w.heap.size, 0, none⟩ (.slice a' (P.length + 1) c')).cell? ⟨w.heap.size, 1, none⟩ = some (.int .i64 (manyS P)) := by rw [Lib.cell_of_heap s1]; rfl
        have g1 := Lib.frozen_of_heap s1 1
        clear s1 s2 HB5 HO5 HG5
        go_wp2_with fail
        go_roundw
        case rel => exact ⟨k + 1, _, by go_num, by omega, by rw [HNX.out]; exact HN, HBN⟩
        case measure => simp [intOf]; omega
      · rw [if_neg hp, List.append_nil] at hnx
        have HNX := Lib.hid hnx
        clear hnx
        have hp0 : ¬ 0 < (p.length : Int) := by omega
        go_wp2_with fail
        go_roundw
        case rel => exact ⟨k + 1, v, by go_num, by omega, by rw [HNX.out]; exact HT, HB⟩
        case measure => simp [intOf]; omega
    · have hkl : k = ls.length := by omega
      subst hkl
      rw [List.take_length] at HT
      obtain ⟨ap, cp, hv⟩ := HT.out.2.shape
      subst hv
      have HTT := Lib.hid (show TabOf S wr w.heap.size (ofS ls) from ⟨ap, cp, _, HT.out.1, HT.out.2.slOfV rfl HB.out, fun h => by have := HSS.out _ h; omega, fun _ => HT.out.2.away (fun k h => by have := HSS.out _ h; omega)⟩)
      go_wp2_with fail
      go_returns
      exact ⟨_, rfl, HTT.out, HB.out⟩
end Go.Proofs.YtlcjjcmfpmflcaaGreatDoor
/- The walks of pieces.New, Table.parts and Table.Lines. -/
namespace Go.Proofs.YtlcjjcmfpmflcaaGreatDoor
open Go Go.Proofs Go.RowKit Go.Ink

/-- A table, or none. -/
def NewTab (S : Nat → Prop) (w : World) (l : List Line) (e : Ending) (w' : World) : Prop :=
  if checkL l = 0 then ∃ b, e = .returned (.pointer (some ⟨b, 0, none⟩)) ∧ TabOf S w' b (ofS [l]) ∧ Below w.heap.size w w' else e = .returned (.pointer none) ∧ w = w'

theorem tabNew_any {S : Nat → Prop} (l : List Line) (ao : Option Addr) (cap : Nat) (w : World) (hl : SlOf IsStr w ao cap l) (hlen : l.length ≤ 100000) (hS : ∀ k, S k → k < w.heap.size) :
    Calls Tryz.prog 33 #[.slice ao l.length cap] w (NewTab S w l) := by
  have HL := Lib.hid hl; clear hl
  have HSS := Lib.hid hS; clear hS
  by_cases h : checkL l = 0
  · have HC := Lib.hid h; clear h
    go_enter Tryz.func33, Tryz.ntmps33
    go_wp2_with fail
    refine (check_any _ _ l _ HL.out).mono ?_
    rintro e w1 ⟨rfl, rfl⟩
    rw [HC.out]
    go_wp2_with fail
    refine (clone_any l _ _ _ HL.out (by omega)).mono ?_
    rintro e w2 ⟨v, rfl, ho, hb⟩
    obtain ⟨a2, k2, hv⟩ := ownsRow_shape ho
    subst hv
    have HB := Lib.hid hb
    have HA := Lib.hid (below_alloc w2 (.cells #[.slice a2 l.length k2] 153 (0, 0)))
    have hone : SlOf (IsPc S) (w2.alloc (.cells #[.slice a2 l.length k2] 153 (0, 0))) (some ⟨w2.heap.size, 0, none⟩) 1 [l] := by
      refine ⟨by simp, by unfold maxLen; omega, by simp, fun k x hk => ?_⟩
      have hk0 : k = 0 := by have := (List.getElem?_eq_some_iff.1 hk).1; simp at this; exact this
      subst hk0
      simp only [List.getElem?_cons_zero, Option.some.injEq] at hk
      subst hk
      exact ⟨w2.heap.size, 0, _, rfl, by rw [Lib.cell_of_heap (heap_alloc_at w2 _)]; rfl, _, _, rfl, (own_slA rfl ho HSS.out).later HA.out⟩
    have HO := Lib.hid hone
    clear ho hb hone
    have HOF := Lib.hid (of_any [l] _ 1 _ HO.out (by simp) (by simp [manyS]; omega) (fun k h => by have := HSS.out _ h; have := HB.out.size; simp; omega))
    simp only [List.length_cons, List.length_nil, Nat.zero_add] at HOF
    go_wp2_with fail
    refine HOF.out.mono ?_
    rintro e w3 ⟨b, rfl, ht, hb⟩
    have HTB := Lib.hid ht
    have HB3 := Lib.hid (HB.out.trans ((HA.out.trans (hb.mono HA.out.size)).mono HB.out.size))
    clear ht hb
    go_wp2_with fail
    go_returns
    unfold NewTab
    rw [if_pos HC.out]
    exact ⟨b, rfl, HTB.out, HB3.out⟩
  · have hq : (checkL l == 0) = false := by simpa using h
    have HC := Lib.hid h
    clear h
    go_enter Tryz.func33, Tryz.ntmps33
    go_wp2_with fail
    refine (check_any _ _ l _ HL.out).mono ?_
    rintro e w1 ⟨rfl, rfl⟩
    go_wp2_with fail
    go_returns
    unfold NewTab
    rw [if_neg HC.out]
    exact ⟨rfl, rfl⟩

theorem partsS_append : ∀ (a b : List (List Line)) (fr tz pos : Int), partsS (a ++ b) fr tz pos = partsS a fr tz pos ++ partsS b fr tz (pos + manyS a)
  | [], b, fr, tz, pos => by simp [partsS, manyS]
  | p :: a, b, fr, tz, pos => by
    simp only [List.cons_append, partsS, manyS, partsS_append a b, List.append_assoc]
    rw [show pos + ((p.length + manyS a : Nat) : Int) = pos + (p.length : Int) + (manyS a : Int) by omega]
theorem partsS_take {l : List (List Line)} {k : Nat} {p : List Line} (h : l[k]? = some p) (fr tz : Int) :
    partsS (l.take (k + 1)) fr tz 0 = partsS (l.take k) fr tz 0 ++ (if max (fr - (manyS (l.take k) : Int)) 0 < min (tz - (manyS (l.take k) : Int)) (p.length : Int) then [(p.drop (max (fr - (manyS (l.take k) : Int)) 0).toNat).take ((min (tz - (manyS (l.take k) : Int)) (p.length : Int)).toNat - (max (fr - (manyS (l.take k) : Int)) 0).toNat)] else []) := by
  obtain ⟨hk, rfl⟩ := List.getElem?_eq_some_iff.1 h
  rw [List.take_succ_eq_append_getElem hk, partsS_append]
  simp only [partsS, List.append_nil, Int.zero_add]
theorem manyS_next {l : List (List Line)} {k : Nat} {p : List Line} (h : l[k]? = some p) : manyS (l.take (k + 1)) = manyS (l.take k) + p.length := by
  obtain ⟨hk, rfl⟩ := List.getElem?_eq_some_iff.1 h
  rw [List.take_succ_eq_append_getElem hk, manyS_append]
  simp [manyS]
theorem partsS_len : ∀ (l : List (List Line)) (fr tz pos : Int), (partsS l fr tz pos).length ≤ l.length
  | [], _, _, _ => by simp [partsS]
  | p :: l, fr, tz, pos => by
    have := partsS_len l fr tz (pos + p.length)
    unfold partsS
    rw [List.length_append]
    split <;> simp <;> omega

set_option maxRecDepth 100000 in
set_option maxHeartbeats 1000000 in
theorem parts_any {S : Nat → Prop} (b : Nat) (ps : List (List Line)) (fr tz : Int) (w : World) (ht : TabOf S w b ps) (hl : ps.length ≤ 100000) (hm : manyS ps ≤ 1000000) (h1 : 0 ≤ fr) (h2 : fr ≤ 1000000) (h3 : 0 ≤ tz) (h4 : tz ≤ 1000000) :
    Calls Tryz.prog 91 #[.pointer (some ⟨b, 0, none⟩), .int .i64 fr, .int .i64 tz] w fun e w' => ∃ v, e = .returned v ∧ OwnPcs S w w.heap.size w' v (partsS ps fr tz 0) ∧ Below w.heap.size w w' := by
  obtain ⟨ap, cp, fz, hh, hs, _⟩ := ht
  have c0 : w.cell? ⟨b, 0, none⟩ = some (.slice ap ps.length cp) := by rw [Lib.cell_of_heap hh]; rfl
  have HS := Lib.hid hs
  clear hh hs
  go_enter Tryz.func91, Tryz.ntmps91
  go_wp2_with fail
  go_loopw [7, 8, 18] (fun ov av i wr => ∃ (k M : Nat), av = .int .i64 M ∧ i = .int .i64 k ∧ k ≤ ps.length ∧ M ≤ 1000000 ∧ Hid (M = manyS (ps.take k)) ∧ Hid (OwnPcs S w w.heap.size wr ov (partsS (ps.take k) fr tz 0)) ∧ Hid (Below w.heap.size w wr)) (fun _ _ i _ => ps.length - (intOf i).toNat)
  case atStart => exact ⟨0, 0, rfl, rfl, by omega, by omega, Lib.hid rfl, Lib.hid (OwnPcs.nil _ _ _), Lib.hid (Below.refl _ _)⟩
  case round =>
    obtain ⟨k, M, rfl, rfl, hk, hM, HM, HO, HB⟩ := hrel
    by_cases hlt : k < ps.length
    · obtain ⟨p, hkp⟩ : ∃ p, ps[k]? = some p := ⟨_, List.getElem?_eq_getElem hlt⟩
      obtain ⟨bp, op, u, hao, hcell, a2, c2, hu, hrow⟩ := HS.out.2.2.2 k p hkp
      subst hao hu
      have hcell' := ((HB.out.cell (p := ⟨bp, op + k, none⟩) (lt_of_cell hcell))).trans hcell
      have HR := Lib.hid hrow
      have hnx := partsS_take hkp fr tz
      have hmn := manyS_next hkp
      rw [← HM.out] at hnx hmn
      have hM2 : M + p.length ≤ 1000000 := by have := manyS_take ps (k + 1); omega
      have HMN := Lib.hid hmn
      have hpl : (partsS (ps.take k) fr tz 0).length ≤ 100000 := Nat.le_trans (partsS_len _ _ _ _) (by rw [List.length_take]; omega)
      clear hcell hrow hkp hmn HM
      generalize partsS (ps.take k) fr tz 0 = P at *
      obtain ⟨ao, co, hv⟩ := HO.out.shape
      subst hv
      by_cases hab : max (fr - (M : Int)) 0 < min (tz - (M : Int)) (p.length : Int)
      · rw [if_pos hab] at hnx
        obtain ⟨A, hA⟩ : ∃ A : Nat, max (fr - (M : Int)) 0 = (A : Int) := ⟨(max (fr - (M : Int)) 0).toNat, by omega⟩
        obtain ⟨D, hD⟩ : ∃ D : Nat, min (tz - (M : Int)) (p.length : Int) = (D : Int) := ⟨(min (tz - (M : Int)) (p.length : Int)).toNat, by omega⟩
        rw [hA, hD] at hnx hab
        simp only [Int.toNat_natCast] at hnx
        have HNX := Lib.hid hnx
        have hAD : A < D := by omega
        have hDp : D ≤ p.length := by omega
        clear hnx hab
        obtain ⟨t0, ht0⟩ : ∃ t, p[0]? = some t := ⟨_, List.getElem?_eq_getElem (by omega)⟩
        obtain ⟨b2, o2, u2, ha2, _, _⟩ := HR.out.1.2.2.2 0 t0 ht0
        subst ha2
        have hDc : D ≤ c2 := Nat.le_trans hDp HR.out.1.1
        clear ht0
        go_wp2_with fail
        refine (cut_any p.length b2 o2 c2 A D _ hAD hDc HR.out.1.2.1).mono ?_
        rintro e w1 ⟨rfl, rfl⟩
        have hlen : ((p.drop A).take (D - A)).length = D - A := by rw [List.length_take, List.length_drop]; omega
        have hcr := cut_rowA hAD hDp HR.out
        have hq := heap_alloc_at wr (.cells #[.slice (some ⟨b2, o2 + A, none⟩) (D - A) (D - A)] 153 (0, 0))
        have HQ : Hid (SrcPcs S w (wr.alloc (.cells #[.slice (some ⟨b2, o2 + A, none⟩) (D - A) (D - A)] 153 (0, 0))) (some ⟨wr.heap.size, 0, none⟩) 1 [(p.drop A).take (D - A)]) := by
          have h := SrcPcs.one (w0 := w) (p := (p.drop A).take (D - A)) (a := some ⟨b2, o2 + A, none⟩) (c := D - A) (by rw [hlen]; exact hq) hcr
          exact Lib.hid h
        have HA := Lib.hid (below_alloc wr (.cells #[.slice (some ⟨b2, o2 + A, none⟩) (D - A) (D - A)] 153 (0, 0)))
        clear hq hcr hlen
        generalize (p.drop A).take (D - A) = q at *
        go_wp2_with (at_builtin; refine wpList_append_pcs (w0 := w) rfl _ _ rfl w.heap.size _ P rfl (HO.out.later HA.out) (some ⟨wr.heap.size, 0, none⟩) 1 1 [q] rfl rfl HQ.out (by have := HB.out.size; simp; omega) (by simp; omega) ?_)
        intro v' w5 ho5 hb5 hbl5 hz5
        have HO5 := Lib.hid ho5
        have HB5 := Lib.hid (HB.out.trans ((HA.out.mono HB.out.size).trans hb5))
        clear hbl5 hz5 hb5 ho5
        go_wp2_with fail
        go_roundw
        case rel => exact ⟨k + 1, M + p.length, by go_num, by go_num, by omega, hM2, Lib.hid HMN.out.symm, by rw [HNX.out]; exact HO5, HB5⟩
        case measure => simp [intOf]; omega
      · rw [if_neg hab, List.append_nil] at hnx
        have HNX := Lib.hid hnx
        clear hnx
        go_wp2_with fail
        go_roundw
        case rel => exact ⟨k + 1, M + p.length, by go_num, by go_num, by omega, hM2, Lib.hid HMN.out.symm, by rw [HNX.out]; exact HO, HB⟩
        case measure => simp [intOf]; omega
    · have hkl : k = ps.length := by omega
      subst hkl
      rw [List.take_length] at HO
      go_wp2_with fail
      go_returns
      exact ⟨_, rfl, HO.out, HB.out⟩

/-- append takes a piece as it takes a slice of texts. -/
theorem run_append_pc (ty : TypeId) (b : Option Addr) (n c : Nat) (x : Value) (w : World) : (Builtin.append_ #[22, 153] ty #[.slice b n c, x]).run Tryz.prog w = (Builtin.append_ #[22, 22] ty #[.slice b n c, x]).run Tryz.prog w := by
  simp [Builtin.append_, run_underlying Tryz.underlying22, run_underlying Tryz.underlying153]
end Go.Proofs.YtlcjjcmfpmflcaaGreatDoor
/- The walk of Table.Lines, and Concat of pieces. -/
namespace Go.Proofs.YtlcjjcmfpmflcaaGreatDoor
open Go Go.Proofs Go.RowKit Go.Ink

theorem wpList_append_run1 {P : Program} {w w' : World} {ops : Array Oper} {rest : List Oper} {o : Oper} {a : Act} {Q : Exit → Act → World → Prop} (hgd : o.guard = none) (s x : Operand) (ts : Array TypeId)
    (ho : o.op = .call { callee := .builtin .append, args := #[s, x], argTypes := ts }) (v u v' : Value) (hs : a.eval s = v) (hx : a.eval x = u)
    (hrun : (Builtin.append_ ts o.type #[v, u]).run P w = .ok v' w') (h : wpList P ops Q rest (a.put o.dst v') w') : wpList P ops Q (o :: rest) a w := by
  refine wpList_plain hgd fun K hK => ?_
  unfold Oper.wp
  simp [execOp, ho, resolve, invoke, builtin, hs, hx, hrun, Result.andThen]
  exact hK _ _ h

/-- append of a piece that lies somewhere to texts of the call's own. -/
theorem wpList_append_srcp {w : World} {ops : Array Oper} {rest : List Oper} {o : Oper} {a : Act} {Q : Exit → Act → World → Prop} (hgd : o.guard = none) (s x : Operand)
    (ho : o.op = .call { callee := .builtin .append, args := #[s, x], argTypes := #[22, 153] })
    (base : Nat) (va : Option Addr) (vn vc : Nat) (xs : List Line) (hs : a.eval s = .slice va vn vc) (hvn : xs.length = vn) (hown : OwnStrs w base (.slice va vn vc) xs) (ao : Option Addr) (n c : Nat) (l : List Line) (hn : l.length = n) (hx : a.eval x = .slice ao n c) (hl : SlOf IsStr w ao c l)
    (hb : base ≤ w.heap.size) (hsz : xs.length + l.length ≤ 1000000)
    (h : ∀ v' w', OwnStrs w' base v' (xs ++ l) → Below base w w' → wpList Tryz.prog ops Q rest (a.put o.dst v') w') : wpList Tryz.prog ops Q (o :: rest) a w := by
  subst hn hvn
  obtain ⟨i0, hi, hz0, hz1, hz2⟩ := info_parts str_info
  cases ao with
  | none =>
    have hc : c = 0 := hl.2.2.1 rfl
    have h0 : l = [] := List.eq_nil_of_length_eq_zero (by have := hl.1; omega)
    subst hc h0
    have hrun := run_append_owned_none (P := Tryz.prog) (w := w) base 22 o.type 9 i0 1 Tryz.underlying22 hi _ _ _ hown
    exact wpList_append_run1 hgd s x _ ho _ _ _ hs hx (by rw [run_append_pc]; exact hrun) (h _ w (by rw [List.append_nil]; exact hown) (Below.refl _ _))
  | some ad =>
    obtain ⟨v', w', hrun, h2, h3, _⟩ := run_append_own (P := Tryz.prog) w base 22 o.type 9 i0 (.string ⟨#[]⟩) 1 16 Tryz.underlying22 hi hz0 hz1 hz2 rfl (by decide) _ _ _ hown ad l.length c (strVs l) (by simp [strVs]) (SlOf.strVs hl) (strVs_one l) (by unfold maxLen; omega) (by omega) hb
    exact wpList_append_run1 hgd s x _ ho _ _ _ hs hx (by rw [run_append_pc]; exact hrun) (h v' w' (by simpa [OwnStrs, strVs] using h2) ((Below.refl _ _).grown h3 hb (fun k hk => (hown.lt k hk).1)))

theorem OwnPcs.below {S : Nat → Prop} {w0 w : World} {B : Nat} {v : Value} {ps : List (List Line)} (h : OwnPcs S w0 B w v ps) (hb : Below w0.heap.size w0 w) {n c : Nat} {a : Option Addr} (hv : v = .slice a n c) : SlOf (IsPc S) w a c ps := by
  subst hv
  obtain ⟨ao, cap, e, h⟩ := h.slOf hb
  simp only [Value.slice.injEq] at e
  obtain ⟨rfl, _, rfl⟩ := e
  exact h

set_option maxRecDepth 100000 in
set_option maxHeartbeats 1000000 in
theorem tabLines_any {S : Nat → Prop} (b : Nat) (ps : List (List Line)) (w : World) (ht : TabOf S w b ps) (hl : ps.length ≤ 100000) (hm : manyS ps ≤ 1000000) :
    Calls Tryz.prog 62 #[.pointer (some ⟨b, 0, none⟩), .int .i64 1, .int .i64 (manyS ps)] w fun e w' => ∃ v, e = .returned v ∧ OwnStrs w' w.heap.size v ps.flatten ∧ Below w.heap.size w w' := by
  have HT := Lib.hid ht; clear ht
  obtain ⟨M, hM⟩ : ∃ M, M = manyS ps := ⟨_, rfl⟩
  have HLEN := Lib.hid (tabLen_any b ps w HT.out)
  have HPA := Lib.hid (parts_any b ps 0 M w HT.out hl hm (by omega) (by omega) (by omega) (by omega))
  have HFL := Lib.hid (show (partsS ps 0 M 0).flatten = ps.flatten by rw [hM]; exact parts_all ps)
  have HML := Lib.hid (show M = ps.flatten.length by rw [hM]; exact manyS_flat ps)
  rw [← hM] at HLEN hm
  rw [← hM]
  clear hM
  by_cases h0 : M = 0
  · subst h0
    have HE := Lib.hid (show ps.flatten = [] from List.eq_nil_of_length_eq_zero (by have := HML.out; omega))
    go_enter Tryz.func62, Tryz.ntmps62
    go_wp2_with fail
    refine HLEN.out.mono ?_
    rintro e w1 ⟨rfl, rfl⟩
    go_wp2_with fail
    go_returns
    rw [HE.out]
    exact ⟨_, rfl, OwnStrs.nil _ _, Below.refl _ _⟩
  · have hm1 : 1 ≤ M := by omega
    go_enter Tryz.func62, Tryz.ntmps62
    go_wp2_with fail
    refine HLEN.out.mono ?_
    rintro e w1 ⟨rfl, rfl⟩
    go_wp2_with fail
    refine HPA.out.mono ?_
    rintro e w1 ⟨v1, rfl, ho1, hb1⟩
    obtain ⟨a1, c1, hv1⟩ := ho1.shape
    subst hv1
    have HS := Lib.hid (ho1.slOfV rfl hb1)
    have HB1 := Lib.hid hb1
    have hfl : (partsS ps 0 M 0).flatten.length ≤ 1000000 := by rw [HFL.out, ← HML.out]; exact hm
    clear ho1 hb1 HPA HLEN
    generalize partsS ps 0 M 0 = Q at *
    have hQ : Q.length ≤ 9223372036854775807 := Nat.le_trans HS.out.1 HS.out.2.1
    go_wp2_with fail
    go_loopw [7, 25] (fun ov i wr => ∃ (k : Nat), i = .int .i64 k ∧ k ≤ Q.length ∧ Hid (OwnStrs wr w1.heap.size ov (Q.take k).flatten) ∧ Hid (Below w1.heap.size w1 wr)) (fun _ i _ => Q.length - (intOf i).toNat)
    case atStart => exact ⟨0, rfl, by omega, Lib.hid (OwnStrs.nil _ _), Lib.hid (Below.refl _ _)⟩
    case round =>
      obtain ⟨k, rfl, hk, HO, HB⟩ := hrel
      by_cases hlt : k < Q.length
      · obtain ⟨l, hkl⟩ : ∃ l, Q[k]? = some l := ⟨_, List.getElem?_eq_getElem hlt⟩
        obtain ⟨b', off, u, hao, hcell, a2, c2, hu, hrow⟩ := HS.out.2.2.2 k l hkl
        subst hao hu
        have hcell' := ((HB.out.cell (p := ⟨b', off + k, none⟩) (lt_of_cell hcell))).trans hcell
        have HR := Lib.hid (hrow.1.later lasts_str HB.out)
        have HF := Lib.hid (flat_next hkl)
        have hle := flat_le Q (k + 1)
        rw [HF.out, List.length_append] at hle
        clear hkl hrow hcell
        generalize (Q.take k).flatten = F at *
        obtain ⟨ao, cp, hv⟩ := ownsRow_shape HO.out
        subst hv
        go_wp2_with (at_builtin; refine wpList_append_srcp rfl _ _ rfl w1.heap.size ao F.length cp F rfl rfl HO.out a2 l.length c2 l rfl rfl HR.out HB.out.size (by omega) ?_)
        intro v' w5 ho5 hb5
        have HO5 := Lib.hid ho5
        have HB5 := Lib.hid (HB.out.trans hb5)
        clear ho5 hb5
        go_wp2_with fail
        go_roundw
        case rel => exact ⟨k + 1, by go_num, by omega, by rw [HF.out]; exact HO5, HB5⟩
        case measure => simp [intOf]; omega
      · have hkl : k = Q.length := by omega
        subst hkl
        rw [List.take_length] at HO
        have HBZ := Lib.hid (HB1.out.trans (HB.out.mono HB1.out.size))
        go_wp2_with fail
        go_returns
        rw [← HFL.out]
        exact ⟨_, rfl, ownsRow_base HO.out HB1.out.size, HBZ.out⟩

/-! ### Concat of pieces -/

set_option maxRecDepth 100000 in
set_option maxHeartbeats 1000000 in
theorem pcGrow_nil {S : Nat → Prop} (w0 : World) (n : Nat) (w : World) (hn : n ≤ 1000000) :
    Calls Tryz.prog 121 #[.slice none 0 0, .int .i64 n] w fun e w' => ∃ v, e = .returned v ∧ OwnPcs S w0 w.heap.size w' v [] ∧ Below w.heap.size w w' := by
  obtain ⟨i0, hi, hz0, hz1, hz2⟩ := info_parts pc_info
  by_cases h0 : n = 0
  · subst h0
    go_enter Tryz.func121, Tryz.ntmps121
    go_wp2_with fail
    go_ret
    exact ⟨_, rfl, OwnPcs.nil _ _ _, Below.refl _ _⟩
  · have hpos : (0 : Int) < (n : Int) := by omega
    have hrz : ∀ ty, (Builtin.append_ #[133, 3] ty #[.slice none 0 0, .int .i64 (n : Int)]).run Tryz.prog w =
        .ok (.slice (some ⟨w.heap.size, 0, none⟩) n (grownCap w n 0 153)) (w.drew.alloc (.cells (Builtin.zeroCells (Value.slice none 0 0).cells n ++ Builtin.zeroCells (Value.slice none 0 0).cells (grownCap w n 0 153 - n)) 153)) := fun ty => by
      have h := Lib.run_append_grow_zeros w 133 3 ty 153 i0 (.slice none 0 0) .i64 .i64 Tryz.underlying133 Tryz.underlying3 hi hz0 none 0 0 [] (run_firstCells_none w.drew i0.size 0 0 0) n (by omega) (by rw [hz1]; omega) (by omega) (by omega) (by rw [hz2]; omega)
        (growslice_fits (by omega) (by rw [hz2]; omega))
      simpa using h
    have hG := grownCap_ge w n 0 153
    have hG2 := grownCap_le_maxLen w n 0 153 (by unfold maxLen; omega)
    have hsz : (Builtin.zeroCells (Value.slice none 0 0).cells n ++ Builtin.zeroCells (Value.slice none 0 0).cells (grownCap w n 0 153 - n)).size = grownCap w n 0 153 := by
      rw [Array.size_append, size_zeroCells, size_zeroCells]
      show n * 1 + (_ - n) * 1 = _
      omega
    generalize grownCap w n 0 153 = G at *
    generalize Builtin.zeroCells (Value.slice none 0 0).cells n ++ Builtin.zeroCells (Value.slice none 0 0).cells (G - n) = C at *
    have HSZ := Lib.hid hsz; clear hsz
    have hnG : n ≤ G := hG
    have hw1 := Lib.hid (below_alloc w (.cells C 153 (0, 0))).drew
    unfold maxLen at hG2
    go_enter Tryz.func121, Tryz.ntmps121
    have HRZ := Lib.hid hrz; clear hrz
    go_wp2_with (at_builtin; refine wpList_append_run rfl _ _ #[133, 3] rfl _ _ _ rfl rfl HRZ.out ?_)
    go_ret
    refine ⟨_, rfl, ⟨[], ⟨by simp, .inr ⟨w.heap.size, G, C, rfl, Nat.le_refl _, ?_, by simp, by unfold maxLen; omega, by rw [HSZ.out]; omega, by simp⟩⟩, by simp⟩, hw1.out⟩
    exact heap_alloc_at w _

/-- A slice value of rows of pieces. -/
def IsPcs (S : Nat → Prop) (w : World) (u : Value) (l : List (List Line)) : Prop := ∃ ao cap, u = .slice ao l.length cap ∧ SlOf (IsPc S) w ao cap l
theorem flatP_next {ls : List (List (List Line))} {k : Nat} {l : List (List Line)} (h : ls[k]? = some l) : (ls.take (k + 1)).flatten = (ls.take k).flatten ++ l := by
  obtain ⟨hk, rfl⟩ := List.getElem?_eq_some_iff.1 h
  rw [List.take_succ_eq_append_getElem hk, List.flatten_append]; simp
theorem flatP_le (ls : List (List (List Line))) (k : Nat) : (ls.take k).flatten.length ≤ ls.flatten.length := by
  have h : ls.flatten = (ls.take k).flatten ++ (ls.drop k).flatten := by rw [← List.flatten_append, List.take_append_drop]
  rw [h, List.length_append]; omega

set_option maxRecDepth 100000 in
set_option maxHeartbeats 1000000 in
theorem pcConcat_any {S : Nat → Prop} (ls : List (List (List Line))) (ao : Option Addr) (cap : Nat) (w : World) (hs : SlOf (IsPcs S) w ao cap ls) (hl : ls.flatten.length ≤ 1000000) :
    Calls Tryz.prog 90 #[.slice ao ls.length cap] w fun e w' => ∃ v, e = .returned v ∧ OwnPcs S w w.heap.size w' v ls.flatten ∧ Below w.heap.size w w' := by
  have HS := Lib.hid hs
  have hc : ls.length ≤ 9223372036854775807 := Nat.le_trans hs.1 hs.2.1
  clear hs
  go_enter Tryz.func90, Tryz.ntmps90
  go_wp2_with fail
  go_loop [3, 11] (fun sv i => ∃ (k n : Nat), sv = .int .i64 n ∧ i = .int .i64 k ∧ k ≤ ls.length ∧ n ≤ ls.flatten.length ∧ Hid (n = (ls.take k).flatten.length)) (fun _ i => ls.length - (intOf i).toNat)
  case atStart => exact ⟨0, 0, rfl, rfl, by omega, by omega, Lib.hid rfl⟩
  case round =>
    obtain ⟨k, n, rfl, rfl, hk, hn, HN⟩ := hrel
    by_cases hlt : k < ls.length
    · obtain ⟨l, hkl⟩ : ∃ l, ls[k]? = some l := ⟨_, List.getElem?_eq_getElem hlt⟩
      obtain ⟨b, off, u, hao, hcell, a2, c2, hu, hrow⟩ := HS.out.2.2.2 k l hkl
      subst hao hu
      have HF := Lib.hid (flatP_next hkl)
      have hle := flatP_le ls (k + 1)
      rw [HF.out, List.length_append, ← HN.out] at hle
      clear hkl hrow
      go_wp2_with fail
      go_round
      case rel => exact ⟨k + 1, n + l.length, by go_num, by go_num, by omega, hle, Lib.hid (by rw [HF.out, List.length_append, HN.out])⟩
      case measure => simp [intOf]; omega
    · have hkl : k = ls.length := by omega
      subst hkl
      clear HN
      go_wp2_with fail
      refine (pcGrow_nil (S := S) w n _ (by omega)).mono ?_
      rintro e w1 ⟨v0, rfl, ho, hb⟩
      have HO1 := Lib.hid ho
      have HB1 := Lib.hid hb; clear ho hb
      go_wp2_with fail
      go_loopw [6, 27] (fun v i wr => ∃ k : Nat, i = .int .i64 k ∧ k ≤ ls.length ∧ Hid (OwnPcs S w w.heap.size wr v (ls.take k).flatten) ∧ Hid (Below w.heap.size w wr)) (fun _ i _ => ls.length - (intOf i).toNat)
      case atStart => exact ⟨0, rfl, by omega, Lib.hid (by simpa using HO1.out), HB1⟩
      case round =>
        obtain ⟨k, rfl, hk, HO, HB⟩ := hrel
        by_cases hlt : k < ls.length
        · obtain ⟨l, hkl⟩ : ∃ l, ls[k]? = some l := ⟨_, List.getElem?_eq_getElem hlt⟩
          obtain ⟨b, off, u, hao, hcell, a2, c2, hu, hrow⟩ := HS.out.2.2.2 k l hkl
          subst hao hu
          have hcell' := ((HB.out.cell (p := ⟨b, off + k, none⟩) (lt_of_cell hcell))).trans hcell
          have HQ := Lib.hid (SrcPcs.of hrow HB.out)
          have HF := Lib.hid (flatP_next hkl)
          have hle := flatP_le ls (k + 1)
          rw [HF.out, List.length_append] at hle
          clear hkl hrow hcell
          generalize (ls.take k).flatten = F at *
          obtain ⟨ao, cp, hv⟩ := HO.out.shape
          subst hv
          go_wp2_with (at_builtin; refine wpList_append_pcs (w0 := w) rfl _ _ rfl w.heap.size _ F rfl HO.out a2 l.length c2 l rfl rfl HQ.out HB.out.size (by omega) ?_)
          intro v' w5 ho5 hb5 hbl5 hz5
          have HO5 := Lib.hid ho5
          have HB5 := Lib.hid (HB.out.trans hb5)
          clear ho5 hb5 hbl5 hz5
          go_wp2_with fail
          go_roundw
          case rel => exact ⟨k + 1, by go_num, by omega, by rw [HF.out]; exact HO5, HB5⟩
          case measure => simp [intOf]; omega
        · have hkl : k = ls.length := by omega
          subst hkl
          rw [List.take_length] at HO
          go_wp2_with fail
          go_returns
          exact ⟨_, rfl, HO.out, HB.out⟩
end Go.Proofs.YtlcjjcmfpmflcaaGreatDoor
/- A table's lines from one on, up to another one (package pieces). -/
namespace Go.Proofs.YtlcjjcmfpmflcaaGreatDoor
open Go Go.Proofs Go.RowKit Go.Ink Go.Sort

theorem parts_some (ps : List (List Line)) (a e : Nat) (h1 : 1 ≤ a) (_h2 : a ≤ e) : (partsS ps ((a : Int) - 1) (e : Int) 0).flatten = (ps.flatten.drop (a - 1)).take (e - (a - 1)) := by
  rw [partsS_flat]
  have e1 : (max ((a : Int) - 1 - 0) 0).toNat = a - 1 := by omega
  have e2 : ((e : Int) - 0).toNat = e := by omega
  rw [e1, e2]
set_option maxHeartbeats 1000000 in
theorem tabLinesAt_any {S : Nat → Prop} (b : Nat) (ps : List (List Line)) (a e : Nat) (w : World) (ht : TabOf S w b ps) (hl : ps.length ≤ 100000) (hm : manyS ps ≤ 1000000) (h1 : 1 ≤ a) (h2 : a ≤ e) (h3 : e ≤ manyS ps) :
    Calls Tryz.prog 62 #[.pointer (some ⟨b, 0, none⟩), .int .i64 (a : Int), .int .i64 (e : Int)] w fun e' w' => ∃ v, e' = .returned v ∧ OwnStrs w' w.heap.size v ((ps.flatten.drop (a - 1)).take (e - (a - 1))) ∧ Below w.heap.size w w' := by
  have HT := Lib.hid ht; clear ht
  obtain ⟨M, hM⟩ : ∃ M, M = manyS ps := ⟨_, rfl⟩
  have HLEN := Lib.hid (tabLen_any b ps w HT.out)
  have HPA := Lib.hid (parts_any b ps ((a : Int) - 1) (e : Int) w HT.out hl hm (by omega) (by omega) (by omega) (by omega))
  have HFL := Lib.hid (parts_some ps a e h1 h2)
  have HFN := Lib.hid (show ((partsS ps ((a : Int) - 1) (e : Int) 0).flatten).length ≤ 1000000 by rw [HFL.out, List.length_take]; omega)
  rw [← hM] at HLEN hm h3
  clear hM
  have ha1 : ¬ (a : Int) < 1 := by omega
  have ha2 : (1 : Int) ≤ (a : Int) := by omega
  have he1 : ¬ (M : Int) < (e : Int) := by omega
  have he2 : (e : Int) ≤ (M : Int) := by omega
  have hae : ¬ (e : Int) < (a : Int) := by omega
  have hmx : max (a : Int) 1 = (a : Int) := by omega
  have hmn : min (e : Int) (M : Int) = (e : Int) := by omega
  have hw : IntKind.i64.wrap ((a : Int) - 1) = (a : Int) - 1 := IntWalk.i64_in _ (by omega)
  go_enter Tryz.func62, Tryz.ntmps62
  go_wp2_with fail
  refine HLEN.out.mono ?_
  rintro e' w1 ⟨rfl, rfl⟩
  go_wp2_with fail
  refine HPA.out.mono ?_
  rintro e' w2 ⟨v1, rfl, ho1, hb1⟩
  obtain ⟨a1, c1, hv1⟩ := ho1.shape
  subst hv1
  have HS := Lib.hid (ho1.slOfV rfl hb1)
  have HB1 := Lib.hid hb1
  have HFN2 := HFN.out
  clear ho1 hb1 HPA HLEN HFN hmx hmn hw ha1 ha2 he1 he2 hae
  generalize partsS ps ((a : Int) - 1) (e : Int) 0 = Q at *
  have hfl : Q.flatten.length ≤ 1000000 := HFN2
  have hQ : Q.length ≤ 9223372036854775807 := Nat.le_trans HS.out.1 HS.out.2.1
  clear HFN2
  go_wp2_with fail
  go_loopw [7, 25] (fun ov i wr => ∃ (k : Nat), i = .int .i64 k ∧ k ≤ Q.length ∧ Hid (OwnStrs wr w2.heap.size ov (Q.take k).flatten) ∧ Hid (Below w2.heap.size w2 wr)) (fun _ i _ => Q.length - (intOf i).toNat)
  case atStart => exact ⟨0, rfl, by omega, Lib.hid (OwnStrs.nil _ _), Lib.hid (Below.refl _ _)⟩
  case round =>
    obtain ⟨k, rfl, hk, HO, HB⟩ := hrel
    by_cases hlt : k < Q.length
    · obtain ⟨l, hkl⟩ : ∃ l, Q[k]? = some l := ⟨_, List.getElem?_eq_getElem hlt⟩
      obtain ⟨b', off, u, hao, hcell, a2, c2, hu, hrow⟩ := HS.out.2.2.2 k l hkl
      subst hao hu
      have hcell' := ((HB.out.cell (p := ⟨b', off + k, none⟩) (lt_of_cell hcell))).trans hcell
      have HR := Lib.hid (hrow.1.later lasts_str HB.out)
      have HF := Lib.hid (flat_next hkl)
      have hle := flat_le Q (k + 1)
      rw [HF.out, List.length_append] at hle
      clear hkl hrow hcell
      generalize (Q.take k).flatten = F at *
      obtain ⟨ao, cp, hv⟩ := ownsRow_shape HO.out
      subst hv
      go_wp2_with (at_builtin; refine wpList_append_srcp rfl _ _ rfl w2.heap.size ao F.length cp F rfl rfl HO.out a2 l.length c2 l rfl rfl HR.out HB.out.size (by omega) ?_)
      intro v' w5 ho5 hb5
      have HO5 := Lib.hid ho5
      have HB5 := Lib.hid (HB.out.trans hb5)
      clear ho5 hb5
      go_wp2_with fail
      go_roundw
      case rel => exact ⟨k + 1, by go_num, by omega, by rw [HF.out]; exact HO5, HB5⟩
      case measure => simp [intOf]; omega
    · have hkl : k = Q.length := by omega
      subst hkl
      rw [List.take_length] at HO
      have HBZ := Lib.hid (HB1.out.trans (HB.out.mono HB1.out.size))
      go_wp2_with fail
      go_returns
      rw [← HFL.out]
      exact ⟨_, rfl, ownsRow_base HO.out HB1.out.size, HBZ.out⟩
end Go.Proofs.YtlcjjcmfpmflcaaGreatDoor
/- The walk of Table.Splice. -/
namespace Go.Proofs.YtlcjjcmfpmflcaaGreatDoor
open Go Go.Proofs Go.RowKit Go.Ink

/-- A table and an error, as they are handed back. -/
def SpliceTab (S : Nat → Prop) (w : World) (ps : List (List Line)) (s : Spl) (e : Ending) (w' : World) : Prop :=
  if tabErr (manyS ps) s = 0 then ∃ b, e = .returned (.tuple #[.pointer (some ⟨b, 0, none⟩), .int .i64 0]) ∧ TabOf S w' b (tabSpl ps s) ∧ Below w.heap.size w w' else e = .returned (.tuple #[.pointer none, .int .i64 (tabErr (manyS ps) s)]) ∧ w = w'
theorem SpliceTab.err {S : Nat → Prop} {w : World} {ps : List (List Line)} {s : Spl} {c : Int} (h : tabErr (manyS ps) s = c) (hc : c ≠ 0) : SpliceTab S w ps s (.returned (.tuple #[.pointer none, .int .i64 c])) w := by
  subst h
  unfold SpliceTab
  rw [if_neg hc]
  exact ⟨rfl, rfl⟩

theorem partsS_many (ps : List (List Line)) (fr tz : Int) : manyS (partsS ps fr tz 0) ≤ manyS ps := by
  rw [manyS_flat, manyS_flat, partsS_flat, List.length_take, List.length_drop]; omega
theorem one_pcs {S : Nat → Prop} {w : World} {g : Nat} {a : Option Addr} {c : Nat} {p : List Line} {T : TypeId} {fr : Nat × Nat} (h : w.heap[g]? = some (.cells #[.slice a p.length c] T fr)) (hp : SlA S w a c p) : SlOf (IsPc S) w (some ⟨g, 0, none⟩) 1 [p] := by
  refine ⟨by simp, by unfold maxLen; omega, by simp, fun k x hk => ?_⟩
  have hk0 : k = 0 := by have := (List.getElem?_eq_some_iff.1 hk).1; simp at this; exact this
  subst hk0
  simp only [List.getElem?_cons_zero, Option.some.injEq] at hk
  subst hk
  exact ⟨g, 0, _, rfl, by rw [Lib.cell_of_heap h]; rfl, _, _, rfl, hp⟩
theorem three_pcs {S : Nat → Prop} {w : World} {g : Nat} {A B C : List (List Line)} {a b c : Option Addr} {x y z : Nat} {T : TypeId} {fr : Nat × Nat} (h : w.heap[g]? = some (.cells #[.slice a A.length x, .slice b B.length y, .slice c C.length z] T fr))
    (h1 : SlOf (IsPc S) w a x A) (h2 : SlOf (IsPc S) w b y B) (h3 : SlOf (IsPc S) w c z C) : SlOf (IsPcs S) w (some ⟨g, 0, none⟩) 3 [A, B, C] := by
  refine ⟨by simp, by unfold maxLen; omega, by simp, fun k x hk => ?_⟩
  match k, hk with
  | 0, hk => simp at hk; subst hk; exact ⟨g, 0, _, rfl, by rw [Lib.cell_of_heap h]; rfl, _, _, rfl, h1⟩
  | 1, hk => simp at hk; subst hk; exact ⟨g, 0, _, rfl, by rw [Lib.cell_of_heap h]; rfl, _, _, rfl, h2⟩
  | 2, hk => simp at hk; subst hk; exact ⟨g, 0, _, rfl, by rw [Lib.cell_of_heap h]; rfl, _, _, rfl, h3⟩
theorem pcConcat3 {S : Nat → Prop} (A C : List (List Line)) (p : List Line) (ao : Option Addr) (cap : Nat) (w : World) (hs : SlOf (IsPcs S) w ao cap [A, [p], C]) (hA : A.length ≤ 100000) (hC : C.length ≤ 100000) :
    Calls Tryz.prog 90 #[.slice ao 3 cap] w fun e w' => ∃ v, e = .returned v ∧ OwnPcs S w w.heap.size w' v (A ++ [p] ++ C) ∧ Below w.heap.size w w' := by
  have h := pcConcat_any [A, [p], C] ao cap w hs (by simp; omega)
  have e : [A, [p], C].flatten = A ++ [p] ++ C := by simp
  rw [e] at h
  exact h
/-- The three rows that Splice joins, where the middle one was laid ahead of the last. -/
theorem pcsA {S : Nat → Prop} {w2 w3 w4 : World} {A C : List (List Line)} {p : List Line} {a b c : Option Addr} {x y z : Nat} {T1 T2 : TypeId} (h1 : SlOf (IsPc S) w2 a x A) (h12 : Below w2.heap.size w2 w3) (h2 : SlA S w3 b y p)
    (h34 : Below (w3.alloc (.cells #[.slice b p.length y] T1 (0, 0))).heap.size (w3.alloc (.cells #[.slice b p.length y] T1 (0, 0))) w4) (h3 : SlOf (IsPc S) w4 c z C) :
    SlOf (IsPcs S) (w4.alloc (.cells #[.slice a A.length x, .slice (some ⟨w3.heap.size, 0, none⟩) 1 1, .slice c C.length z] T2 (0, 0))) (some ⟨w4.heap.size, 0, none⟩) 3 [A, [p], C] := by
  have hx := below_alloc w3 (.cells #[.slice b p.length y] T1 (0, 0))
  have h34' := hx.trans (h34.mono hx.size)
  have hy := below_alloc w4 (.cells #[.slice a A.length x, .slice (some ⟨w3.heap.size, 0, none⟩) 1 1, .slice c C.length z] T2 (0, 0))
  have hone := (h34.block _ (lt_of_heap (heap_alloc_at w3 (.cells #[.slice b p.length y] T1 (0, 0))))).trans (heap_alloc_at w3 _)
  exact three_pcs (B := [p]) (heap_alloc_at w4 _) (((h1.later lasts_pc h12).later lasts_pc h34').later lasts_pc hy) ((one_pcs hone (h2.later h34')).later lasts_pc hy) (h3.later lasts_pc hy)
theorem pcsB {S : Nat → Prop} {w2 w3 w4 : World} {A C : List (List Line)} {p : List Line} {a b c : Option Addr} {x y z : Nat} {T1 T2 : TypeId} (h1 : SlOf (IsPc S) w2 a x A) (h12 : Below w2.heap.size w2 w3) (h2 : SlA S w3 b y p)
    (h34 : Below w3.heap.size w3 w4) (h3 : SlOf (IsPc S) w4 c z C) :
    SlOf (IsPcs S) ((w4.alloc (.cells #[.slice b p.length y] T1 (0, 0))).alloc (.cells #[.slice a A.length x, .slice (some ⟨w4.heap.size, 0, none⟩) 1 1, .slice c C.length z] T2 (0, 0))) (some ⟨w4.heap.size + 1, 0, none⟩) 3 [A, [p], C] := by
  have hx := below_alloc w4 (.cells #[.slice b p.length y] T1 (0, 0))
  have hone := one_pcs (heap_alloc_at w4 (.cells #[.slice b p.length y] T1 (0, 0))) ((h2.later h34).later hx)
  have hy := below_alloc (w4.alloc (.cells #[.slice b p.length y] T1 (0, 0))) (.cells #[.slice a A.length x, .slice (some ⟨w4.heap.size, 0, none⟩) 1 1, .slice c C.length z] T2 (0, 0))
  have hz := heap_alloc_at (w4.alloc (.cells #[.slice b p.length y] T1 (0, 0))) (.cells #[.slice a A.length x, .slice (some ⟨w4.heap.size, 0, none⟩) 1 1, .slice c C.length z] T2 (0, 0))
  rw [show (w4.alloc (.cells #[.slice b p.length y] T1 (0, 0))).heap.size = w4.heap.size + 1 by simp] at hz
  exact three_pcs (B := [p]) hz ((((h1.later lasts_pc h12).later lasts_pc h34).later lasts_pc hx).later lasts_pc hy) (hone.later lasts_pc hy) ((h3.later lasts_pc hx).later lasts_pc hy)

theorem step2 {w w1 w2 : World} (h : Below w.heap.size w w1) (hb : Below w1.heap.size w1 w2) : Below w.heap.size w w2 := h.trans (hb.mono h.size)
set_option maxRecDepth 100000 in
set_option maxHeartbeats 1000000 in
theorem tabSplice_any {S : Nat → Prop} (b : Nat) (ps : List (List Line)) (s : Spl) (ai : Option Addr) (ci : Nat) (w : World) (ht : TabOf S w b ps) (hi : SlOf IsStr w ai ci s.ins) (hl : ps.length ≤ 40000) (hm : manyS ps ≤ 400000) (hS : ∀ k, S k → k < w.heap.size) :
    Calls Tryz.prog 50 #[.pointer (some ⟨b, 0, none⟩), .int .i64 s.pos, .int .i64 s.del, .slice ai s.ins.length ci] w (SpliceTab S w ps s) := by
  have HSS := Lib.hid hS
  clear hS
  obtain ⟨ap, cp, fz, hh, hsp, hsn⟩ := ht
  have c1 : w.cell? ⟨b, 1, none⟩ = some (.int .i64 (manyS ps)) := by rw [Lib.cell_of_heap hh]; rfl
  have HT := Lib.hid (show TabOf S w b ps from ⟨ap, cp, fz, hh, hsp, hsn⟩)
  have HI := Lib.hid hi
  clear hh hsp hsn hi
  have hin : s.ins.length ≤ 9223372036854775807 := Nat.le_trans HI.out.1 HI.out.2.1
  have HK := Lib.hid (check_any _ _ s.ins w HI.out)
  have HVS := Lib.hid (fun c (h : tabErr (manyS ps) s = c) hc => SpliceTab.err (S := S) (w := w) (ps := ps) (s := s) h hc)
  have HTE := Lib.hid (show tabErr (manyS ps) s = _ from by unfold tabErr; rfl)
  obtain ⟨M, hM⟩ : ∃ M, M = manyS ps := ⟨_, rfl⟩
  rw [← hM] at c1 HTE hm HVS
  by_cases h1 : s.pos < 0
  · have HV := Lib.hid (HVS.out 2 (by rw [HTE.out, if_pos (by omega)]) (by omega))
    clear HVS HTE
    go_enter Tryz.func50, Tryz.ntmps50
    go_wp2_with fail
    refine (HK.out).mono ?_
    rintro e w1 ⟨rfl, rfl⟩
    go_wp2_with fail
    all_goals (
      go_returns
      exact HV.out)
  by_cases h2 : s.del < 0
  · have HV := Lib.hid (HVS.out 2 (by rw [HTE.out, if_pos (by omega)]) (by omega))
    clear HVS HTE
    go_enter Tryz.func50, Tryz.ntmps50
    go_wp2_with fail
    refine (HK.out).mono ?_
    rintro e w1 ⟨rfl, rfl⟩
    go_wp2_with fail
    all_goals (
      go_returns
      exact HV.out)
  by_cases h3 : (M : Int) < s.pos
  · have HV := Lib.hid (HVS.out 2 (by rw [HTE.out, if_pos (by omega)]) (by omega))
    clear HVS HTE
    go_enter Tryz.func50, Tryz.ntmps50
    go_wp2_with fail
    refine (HK.out).mono ?_
    rintro e w1 ⟨rfl, rfl⟩
    go_wp2_with fail
    all_goals (
      go_returns
      exact HV.out)
  by_cases h4 : (M : Int) - s.pos < s.del
  · have HV := Lib.hid (HVS.out 2 (by rw [HTE.out, if_pos (by omega)]) (by omega))
    clear HVS HTE
    go_enter Tryz.func50, Tryz.ntmps50
    go_wp2_with fail
    refine (HK.out).mono ?_
    rintro e w1 ⟨rfl, rfl⟩
    go_wp2_with fail
    all_goals (
      go_returns
      exact HV.out)
  by_cases h5 : checkL s.ins = 2
  · have HV := Lib.hid (HVS.out 2 (by rw [HTE.out, if_pos (by omega)]) (by omega))
    rw [h5] at HK
    clear HVS HTE
    go_enter Tryz.func50, Tryz.ntmps50
    go_wp2_with fail
    refine (HK.out).mono ?_
    rintro e w1 ⟨rfl, rfl⟩
    go_wp2_with fail
    all_goals (
      go_returns
      exact HV.out)
  by_cases h6 : checkL s.ins ≠ 0
  · have HV := Lib.hid (HVS.out 3 (by rw [HTE.out, if_neg (by omega), if_pos (by omega)]) (by omega))
    have h8 : checkL s.ins = 3 := by have := checkL_cases s.ins; omega
    rw [h8] at HK
    clear HVS HTE h5
    go_enter Tryz.func50, Tryz.ntmps50
    go_wp2_with fail
    refine (HK.out).mono ?_
    rintro e w1 ⟨rfl, rfl⟩
    go_wp2_with fail
    all_goals (
      go_returns
      exact HV.out)
  by_cases h7 : 2000 < (M : Int) - s.del + s.ins.length
  · have HV := Lib.hid (HVS.out 3 (by rw [HTE.out, if_neg (by omega), if_pos (by omega)]) (by omega))
    have h8 : checkL s.ins = 0 := by omega
    have hil : s.ins.length ≤ 2000 := (checkL_ok.1 h8).2.1
    rw [h8] at HK
    clear HVS HTE h5 h6
    go_enter Tryz.func50, Tryz.ntmps50
    go_wp2_with fail
    refine (HK.out).mono ?_
    rintro e w1 ⟨rfl, rfl⟩
    go_wp2_with fail
    all_goals (
      go_returns
      exact HV.out)
  have hc0 : checkL s.ins = 0 := by omega
  have hil : s.ins.length ≤ 2000 := (checkL_ok.1 hc0).2.1
  rw [hc0] at HK
  have HV := Lib.hid (show tabErr M s = 0 by rw [HTE.out, if_neg (by omega), if_neg (by omega)])
  clear HVS HTE h5 h6
  obtain ⟨pos, del, ins⟩ := s
  simp only at *
  obtain ⟨p, hp⟩ := Int.eq_ofNat_of_zero_le (show 0 ≤ pos by omega)
  obtain ⟨d, hd⟩ := Int.eq_ofNat_of_zero_le (show 0 ≤ del by omega)
  subst hp hd
  have hpd : p + d ≤ M := by omega
  have hs1 : IntKind.i64.wrap ((p : Int) + (d : Int)) = (p : Int) + (d : Int) := IntWalk.i64_in _ (by omega)
  have HB0 := Lib.hid (Below.refl w.heap.size w)
  have hm' := hm
  rw [hM] at hm'
  have HP1 := Lib.hid (fun w2 (h : Below w.heap.size w w2) => parts_any b ps 0 p w2 (HT.out.later h) (by omega) (by omega) (by omega) (by omega) (by omega) (by omega))
  have HCL := Lib.hid (fun w2 (h : Below w.heap.size w w2) => clone_any ins ai ci w2 (HI.out.later lasts_str h) (by omega))
  have HP2 := Lib.hid (fun w2 (h : Below w.heap.size w w2) => parts_any b ps ((p : Int) + (d : Int)) M w2 (HT.out.later h) (by omega) (by omega) (by omega) (by omega) (by omega) (by omega))
  have hA1 := partsS_len ps 0 p 0
  have hA2 := partsS_many ps 0 p
  have hC1 := partsS_len ps ((p : Int) + (d : Int)) M 0
  have hC2 := partsS_many ps ((p : Int) + (d : Int)) M
  have HSP := Lib.hid (show ofS (partsS ps 0 p 0 ++ [ins] ++ partsS ps ((p : Int) + (d : Int)) M 0) = tabSpl ps ⟨p, d, ins⟩ by unfold tabSpl; rw [hM])
  have HM := Lib.hid hM
  clear hM
  generalize partsS ps 0 p 0 = PA at *
  generalize partsS ps ((p : Int) + (d : Int)) M 0 = PC at *
  have HCC := Lib.hid (fun ao cap w hs => pcConcat3 (S := S) PA PC ins ao cap w hs (by omega) (by omega))
  have HLL := Lib.hid (show (PA ++ [ins] ++ PC).length ≤ 100000 by simp; omega)
  have HMM := Lib.hid (show manyS (PA ++ [ins] ++ PC) ≤ 1000000 by rw [manyS_append, manyS_append]; simp only [manyS]; omega)
  clear hA1 hA2 hC1 hC2 hm'
  obtain ⟨R, hR⟩ : ∃ R, R = PA ++ [ins] ++ PC := ⟨_, rfl⟩
  rw [← hR] at HCC HLL HMM HSP
  clear hR
  have HOF := Lib.hid (fun ao cap w hs hz => of_any (S := S) R ao cap w hs HLL.out HMM.out hz)
  go_enter Tryz.func50, Tryz.ntmps50
  go_wp2_with fail
  refine (HK.out).mono ?_
  rintro e w ⟨rfl, rfl⟩
  go_wp2_with fail
  go_region_held3 (fun w' => w'.cell? ⟨b, 1, none⟩ = some (.int .i64 M))
    (first | exact c1 | exact c1' | exact c1'' | exact c1a | exact c1b | exact c1c | go_keep)
    (first
      | ((with_reducible refine (HP1.out _ ((Below.refl _ _).drew)).mono ?_); rintro e w2 ⟨v1, rfl, ho1, hb1⟩; obtain ⟨a1, k1, hv1⟩ := ho1.shape; subst hv1; have c1' := (hb1.cell (p := ⟨b, 1, none⟩) (lt_of_cell c1)).trans c1; have HS1 := Lib.hid (ho1.slOfV rfl hb1); have HB1 := Lib.hid (((Below.refl w.heap.size w).drew).trans hb1); clear ho1 hb1)
      | ((with_reducible refine (HCL.out _ HB1.out).mono ?_); rintro e w3 ⟨v2, rfl, ho2, hb2⟩; obtain ⟨a2, k2, hv2⟩ := ownsRow_shape ho2; subst hv2; have c1'' := (hb2.cell (p := ⟨b, 1, none⟩) (lt_of_cell c1')).trans c1'; have HS2 := Lib.hid (own_slA (S := S) rfl ho2 (fun k h => by have := HSS.out _ h; have := HB1.out.size; omega)); have HB23 := Lib.hid hb2; have HB2 := Lib.hid (HB1.out.trans (hb2.mono HB1.out.size)); clear ho2 hb2)
      | ((with_reducible refine (HP2.out _ (by first | exact HB2.out | exact HB2.out.trans ((below_alloc _ _).mono HB2.out.size))).mono ?_); rintro e w4 ⟨v3, rfl, ho3, hb3⟩; obtain ⟨a3, k3, hv3⟩ := ho3.shape; subst hv3; have c1a := (hb3.cell (p := ⟨b, 1, none⟩) (by first | exact lt_of_cell c1'' | (have := lt_of_cell c1''; simp; omega))).trans (by first | exact c1'' | exact ((below_alloc _ _).cell (lt_of_cell c1'')).trans c1''); have HS3 := Lib.hid (ho3.slOfV rfl hb3); have HB34 := Lib.hid hb3; clear ho3 hb3)
      | ((with_reducible refine (HCC.out _ 3 _ (pcsA HS1.out HB23.out HS2.out HB34.out HS3.out)).mono ?_); rintro e w6 ⟨v6, rfl, ho6, hb6⟩; obtain ⟨a6, k6, hv6⟩ := ho6.shape; subst hv6; have HS6 := Lib.hid (ho6.slOfV rfl hb6); have HB6 := Lib.hid (step2 (step2 (step2 (step2 HB2.out (below_alloc _ _)) HB34.out) (below_alloc _ _)) hb6); have c1b := (HB6.out.cell (p := ⟨b, 1, none⟩) (lt_of_cell c1)).trans c1; clear ho6 hb6)
      | ((with_reducible refine (HCC.out _ 3 _ (pcsB HS1.out HB23.out HS2.out HB34.out HS3.out)).mono ?_); rintro e w6 ⟨v6, rfl, ho6, hb6⟩; obtain ⟨a6, k6, hv6⟩ := ho6.shape; subst hv6; have HS6 := Lib.hid (ho6.slOfV rfl hb6); have HB6 := Lib.hid (step2 (step2 (step2 (step2 HB2.out HB34.out) (below_alloc _ _)) (below_alloc _ _)) hb6); have c1b := (HB6.out.cell (p := ⟨b, 1, none⟩) (lt_of_cell c1)).trans c1; clear ho6 hb6)
      | ((with_reducible refine (HOF.out _ _ _ HS6.out (fun k h => by have := HSS.out _ h; have := HB6.out.size; omega)).mono ?_); rintro e w7 ⟨b7, rfl, ht7, hb7⟩; have HT7 := Lib.hid ht7; have HB7 := Lib.hid (step2 HB6.out hb7); have c1c := (HB7.out.cell (p := ⟨b, 1, none⟩) (lt_of_cell c1)).trans c1; clear ht7 hb7)
      | (fail "no arm"))
  all_goals (
    go_wp2_with fail
    go_returns
    unfold SpliceTab
    rw [← HM.out, if_pos HV.out, ← HSP.out]
    exact ⟨b7, rfl, HT7.out, HB7.out⟩)
end Go.Proofs.YtlcjjcmfpmflcaaGreatDoor
