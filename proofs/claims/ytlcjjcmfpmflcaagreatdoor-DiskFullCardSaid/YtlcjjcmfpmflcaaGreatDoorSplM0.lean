/- How splices lie in memory: a slice of them. -/
import Derived.Test.YtlcjjcmfpmflcaaGreatDoorSpl1
import Derived.Test.YtlcjjcmfpmflcaaGreatDoorBase
import Derived.Test.YtlcjjcmfpmflcaaGreatDoorLawM
import Derived.Lib.AppendZerosOnto
import Derived.Laws.AppendOwnNone
set_option linter.unusedVariables false
set_option linter.unusedSimpArgs false
namespace Go.Proofs.YtlcjjcmfpmflcaaGreatDoor
open Go Go.Proofs Go.RowKit Go.Ink

/-- A splice as a value: its lines are a slice. -/
def splV (s : Spl) (ao : Option Addr) (cap : Nat) : Value := .agg #[.int .i64 s.pos, .int .i64 s.del, .slice ao s.ins.length cap]
/-- A slice value of splices (three cells each) stands for the list xs. -/
def SplOf (w : World) (ao : Option Addr) (cap : Nat) (xs : List Spl) : Prop :=
  xs.length ≤ cap ∧ cap ≤ maxLen ∧ (ao = none → cap = 0) ∧
    ∀ k x, xs[k]? = some x → ∃ b off ai ci, ao = some ⟨b, off, none⟩ ∧ w.cell? ⟨b, off + k * 3, none⟩ = some (.int .i64 x.pos) ∧ w.cell? ⟨b, off + k * 3 + 1, none⟩ = some (.int .i64 x.del) ∧
      w.cell? ⟨b, off + k * 3 + 2, none⟩ = some (.slice ai x.ins.length ci) ∧ SlOf IsStr w ai ci x.ins
theorem SplOf.later {w w' : World} {ao : Option Addr} {cap : Nat} {xs : List Spl} (h : SplOf w ao cap xs) (hb : Below w.heap.size w w') : SplOf w' ao cap xs := by
  obtain ⟨h1, h2, h3, h4⟩ := h
  refine ⟨h1, h2, h3, fun k x hk => ?_⟩
  obtain ⟨b, off, ai, ci, ha, c0, c1, c2, hs⟩ := h4 k x hk
  exact ⟨b, off, ai, ci, ha, (hb.cell (p := ⟨b, off + k * 3, none⟩) (lt_of_cell c0)).trans c0, (hb.cell (p := ⟨b, off + k * 3 + 1, none⟩) (lt_of_cell c1)).trans c1,
    (hb.cell (p := ⟨b, off + k * 3 + 2, none⟩) (lt_of_cell c2)).trans c2, hs.later lasts_str hb⟩
end Go.Proofs.YtlcjjcmfpmflcaaGreatDoor
/- How splices lie in memory. -/
namespace Go.Proofs.YtlcjjcmfpmflcaaGreatDoor
open Go Go.Proofs Go.RowKit Go.Ink

/-- One splice in a block of its own. -/
theorem one_spl {w : World} (s : Spl) (ai : Option Addr) (ci : Nat) (hs : SlOf IsStr w ai ci s.ins) (T : TypeId) :
    SplOf (w.alloc (.cells #[.int .i64 s.pos, .int .i64 s.del, .slice ai s.ins.length ci] T (0, 0))) (some ⟨w.heap.size, 0, none⟩) 1 [s] := by
  have hb : (w.alloc (.cells #[.int .i64 s.pos, .int .i64 s.del, .slice ai s.ins.length ci] T (0, 0))).heap[w.heap.size]? = some (.cells #[.int .i64 s.pos, .int .i64 s.del, .slice ai s.ins.length ci] T (0, 0)) := by
    show (w.heap.push _)[w.heap.size]? = _
    rw [Array.getElem?_push, if_pos rfl]
  refine ⟨by simp, by unfold maxLen; omega, by simp, fun k x hk => ?_⟩
  have hk0 : k = 0 := by have := (List.getElem?_eq_some_iff.1 hk).1; simp at this; exact this
  subst hk0
  simp only [List.getElem?_cons_zero, Option.some.injEq] at hk
  subst hk
  exact ⟨w.heap.size, 0, ai, ci, rfl, by rw [Lib.cell_of_heap hb]; rfl, by rw [Lib.cell_of_heap hb]; rfl, by rw [Lib.cell_of_heap hb]; rfl, hs.later lasts_str ((Below.refl _ _).alloc (Nat.le_refl _) _)⟩
/-- The three cells of a splice that was boxed. -/
theorem box_spl {w : World} {s : Spl} {ai : Option Addr} {ci : Nat} {b : Nat} {T : TypeId} (hb : w.heap[b]? = some (.cells #[.int .i64 s.pos, .int .i64 s.del, .slice ai s.ins.length ci] T (0, 0))) :
    w.cell? ⟨b, 0, none⟩ = some (.int .i64 s.pos) ∧ w.cell? ⟨b, 1, none⟩ = some (.int .i64 s.del) ∧ w.cell? ⟨b, 2, none⟩ = some (.slice ai s.ins.length ci) :=
  ⟨by rw [Lib.cell_of_heap hb]; rfl, by rw [Lib.cell_of_heap hb]; rfl, by rw [Lib.cell_of_heap hb]; rfl⟩
theorem heap_alloc_at (w : World) (o : Obj) : (w.alloc o).heap[w.heap.size]? = some o := by
  show (w.heap.push _)[w.heap.size]? = _
  rw [Array.getElem?_push, if_pos rfl]
theorem below_alloc (w : World) (o : Obj) : Below w.heap.size w (w.alloc o) := (Below.refl _ _).alloc (Nat.le_refl _) _
/-- A stretch of a list of texts. -/
theorem slOf_cut {w : World} {ao : Option Addr} {cap : Nat} {l : List (List UInt8)} (h : SlOf IsStr w ao cap l) {b off : Nat} (ha : ao = some ⟨b, off, none⟩) (lo hi : Nat) (h1 : lo ≤ hi) (h2 : hi ≤ l.length) :
    SlOf IsStr w (some ⟨b, off + lo, none⟩) (cap - lo) ((l.drop lo).take (hi - lo)) := by
  subst ha
  have := SlOf.cut h lo hi h1 h2
  rwa [List.drop_take] at this
end Go.Proofs.YtlcjjcmfpmflcaaGreatDoor
/- The walk of slices.Clone of lists of texts; an append whose run is known. -/
namespace Go.Proofs.YtlcjjcmfpmflcaaGreatDoor
open Go Go.Proofs Go.RowKit Go.Ink

/-- A new copy. -/
theorem clone_any (l : List (List UInt8)) (ao : Option Addr) (cap : Nat) (w : World) (hs : SlOf IsStr w ao cap l) (hl : l.length ≤ 1000000) :
    Calls Tryz.prog 51 #[.slice ao l.length cap] w fun e w' => ∃ v, e = .returned v ∧ OwnStrs w' w.heap.size v l ∧ Below w.heap.size w w' := by
  cases ao with
  | none =>
    have hc : cap = 0 := hs.2.2.1 rfl
    have h0 : l = [] := List.eq_nil_of_length_eq_zero (by have := hs.1; omega)
    subst h0 hc
    refine (Tryz.slices_Clone_string_nil 0 0 w).mono ?_
    rintro e w' ⟨rfl, rfl⟩
    exact ⟨_, rfl, OwnStrs.nil _ _, Below.refl _ _⟩
  | some ad =>
    by_cases h0 : l = []
    · subst h0
      refine (Tryz.slices_Clone_string_zero ad cap w).mono ?_
      rintro e w' ⟨v, rfl, ho, _, hb⟩
      exact ⟨v, rfl, ho, hb⟩
    · obtain ⟨t, r, rfl⟩ := List.exists_cons_of_ne_nil h0
      obtain ⟨b, off, u, ha, hc, _⟩ := hs.2.2.2 0 t rfl
      injection ha with ha
      subst ha
      have e2 : ∀ j, (⟨b, off, none⟩ : Addr).add j = ⟨b, off + j, none⟩ := fun j => by unfold Addr.add; split <;> simp_all
      refine (Tryz.slices_Clone_string b off (t :: r).length cap ((t :: r).map fun t => (⟨t.toArray⟩ : ByteArray)) w (by simp) (by omega) (fun j hj => ?_)).mono ?_
      · rw [List.length_map] at hj
        obtain ⟨b', off', u, ha, hc', hu⟩ := hs.2.2.2 j (t :: r)[j] (List.getElem?_eq_getElem hj)
        injection ha with ha
        injection ha with ha1 ha2
        subst ha1 ha2
        have hu' : u = .string ⟨((t :: r)[j]).toArray⟩ := hu
        rw [hc', hu', List.getD_eq_getElem?_getD, List.getElem?_map, List.getElem?_eq_getElem hj]
        rfl
      rintro e w' ⟨v, rfl, ho, _, hb⟩
      refine ⟨v, rfl, ?_, hb⟩
      have hz : (((t :: r).map fun t => (⟨t.toArray⟩ : ByteArray)).take (t :: r).length).map Value.string = strVs (t :: r) := by
        rw [List.take_of_length_le (by simp), List.map_map]
        rfl
      rw [hz] at ho
      exact ho

/-- An append whose run is known. -/
theorem wpList_append_run {P : Program} {w w' : World} {ops : Array Oper} {rest : List Oper} {o : Oper} {a : Act} {Q : Exit → Act → World → Prop} (hgd : o.guard = none) (s x : Operand) (ts : Array TypeId)
    (ho : o.op = .call { callee := .builtin .append, args := #[s, x], argTypes := ts }) (v u v' : Value) (hs : a.eval s = v) (hx : a.eval x = u)
    (hrun : ∀ ty, (Builtin.append_ ts ty #[v, u]).run P w = .ok v' w')
    (h : wpList P ops Q rest (a.put o.dst v') w') : wpList P ops Q (o :: rest) a w := by
  refine wpList_plain hgd fun K hK => ?_
  unfold Oper.wp
  simp [execOp, ho, resolve, invoke, builtin, hs, hx, hrun, Result.andThen]
  exact hK _ _ h

/-- A slice value of lists of texts. -/
def IsStrs (w : World) (u : Value) (l : List (List UInt8)) : Prop := ∃ ao cap, u = .slice ao l.length cap ∧ SlOf IsStr w ao cap l
theorem lasts_strs : Lasts IsStrs := fun _ _ _ _ hb ⟨ao, cap, hu, h⟩ => ⟨ao, cap, hu, h.later lasts_str hb⟩
theorem flat_next {ls : List (List (List UInt8))} {k : Nat} {l : List (List UInt8)} (h : ls[k]? = some l) : (ls.take (k + 1)).flatten = (ls.take k).flatten ++ l := by
  obtain ⟨hk, rfl⟩ := List.getElem?_eq_some_iff.1 h
  rw [List.take_succ_eq_append_getElem hk, List.flatten_append]; simp
theorem flat_le (ls : List (List (List UInt8))) (k : Nat) : (ls.take k).flatten.length ≤ ls.flatten.length := by
  have h : ls.flatten = (ls.take k).flatten ++ (ls.drop k).flatten := by rw [← List.flatten_append, List.take_append_drop]
  rw [h, List.length_append]; omega
end Go.Proofs.YtlcjjcmfpmflcaaGreatDoor
