/- How splices lie in memory. -/
import Derived.Test.YtgcncmhaihgldaaGreatDoorSpl1
import Derived.Test.YtgcncmhaihgldaaGreatDoorLaw0
namespace Go.Proofs.YtgcncmhaihgldaaGreatDoor
open Go Go.Proofs Go.RowKit Go.Ink

/-- A splice as a value: its lines are a slice. -/
def splV (s : Spl) (ao : Option Addr) (cap : Nat) : Value := .agg #[.int .i64 s.pos, .int .i64 s.del, .slice ao s.ins.length cap]
/-- A slice value of splices (three cells each) stands for the list xs. -/
def SplOf (w : World) (ao : Option Addr) (cap : Nat) (xs : List Spl) : Prop :=
  xs.length ≤ cap ∧ cap ≤ maxLen ∧ (ao = none → cap = 0) ∧
    ∀ k x, xs[k]? = some x → ∃ b off ai ci, ao = some ⟨b, off, none⟩ ∧ w.cell? ⟨b, off + k * 3, none⟩ = some (.int .i64 x.pos) ∧ w.cell? ⟨b, off + k * 3 + 1, none⟩ = some (.int .i64 x.del) ∧
      w.cell? ⟨b, off + k * 3 + 2, none⟩ = some (.slice ai x.ins.length ci) ∧ SlOf IsStr w ai ci x.ins
theorem SplOf.later {w w' : World} {ao : Option Addr} {cap : Nat} {xs : List Spl} (h : SplOf w ao cap xs) (hb : Below w.heap.size w w') : SplOf w' ao cap xs := by
  obtain ⟨h1, h2, h3, h4⟩ := h
  refine ⟨h1, h2, h3, fun k x hk => ?_⟩
  obtain ⟨b, off, ai, ci, ha, c0, c1, c2, hs⟩ := h4 k x hk
  exact ⟨b, off, ai, ci, ha, (hb.cell (p := ⟨b, off + k * 3, none⟩) (lt_of_cell c0)).trans c0, (hb.cell (p := ⟨b, off + k * 3 + 1, none⟩) (lt_of_cell c1)).trans c1,
    (hb.cell (p := ⟨b, off + k * 3 + 2, none⟩) (lt_of_cell c2)).trans c2, hs.later lasts_str hb⟩
/-- One splice in a block of its own. -/
theorem one_spl {w : World} (s : Spl) (ai : Option Addr) (ci : Nat) (hs : SlOf IsStr w ai ci s.ins) (T : TypeId) :
    SplOf (w.alloc (.cells #[.int .i64 s.pos, .int .i64 s.del, .slice ai s.ins.length ci] T (0, 0))) (some ⟨w.heap.size, 0, none⟩) 1 [s] := by
  have hb : (w.alloc (.cells #[.int .i64 s.pos, .int .i64 s.del, .slice ai s.ins.length ci] T (0, 0))).heap[w.heap.size]? = some (.cells #[.int .i64 s.pos, .int .i64 s.del, .slice ai s.ins.length ci] T (0, 0)) := by
    show (w.heap.push _)[w.heap.size]? = _
    rw [Array.getElem?_push, if_pos rfl]
  refine ⟨by simp, by unfold maxLen; omega, by simp, fun k x hk => ?_⟩
  have hk0 : k = 0 := by have := (List.getElem?_eq_some_iff.1 hk).1; simp at this; exact this
  subst hk0
  simp only [List.getElem?_cons_zero, Option.some.injEq] at hk
  subst hk
  exact ⟨w.heap.size, 0, ai, ci, rfl, by rw [Lib.cell_of_heap hb]; rfl, by rw [Lib.cell_of_heap hb]; rfl, by rw [Lib.cell_of_heap hb]; rfl, hs.later lasts_str ((Below.refl _ _).alloc (Nat.le_refl _) _)⟩
/-- The three cells of a splice that was boxed. -/
theorem box_spl {w : World} {s : Spl} {ai : Option Addr} {ci : Nat} {b : Nat} {T : TypeId} (hb : w.heap[b]? = some (.cells #[.int .i64 s.pos, .int .i64 s.del, .slice ai s.ins.length ci] T (0, 0))) :
    w.cell? ⟨b, 0, none⟩ = some (.int .i64 s.pos) ∧ w.cell? ⟨b, 1, none⟩ = some (.int .i64 s.del) ∧ w.cell? ⟨b, 2, none⟩ = some (.slice ai s.ins.length ci) :=
  ⟨by rw [Lib.cell_of_heap hb]; rfl, by rw [Lib.cell_of_heap hb]; rfl, by rw [Lib.cell_of_heap hb]; rfl⟩
theorem heap_alloc_at (w : World) (o : Obj) : (w.alloc o).heap[w.heap.size]? = some o := by
  show (w.heap.push _)[w.heap.size]? = _
  rw [Array.getElem?_push, if_pos rfl]
theorem below_alloc (w : World) (o : Obj) : Below w.heap.size w (w.alloc o) := (Below.refl _ _).alloc (Nat.le_refl _) _
/-- A stretch of a list of texts. -/
theorem slOf_cut {w : World} {ao : Option Addr} {cap : Nat} {l : List (List UInt8)} (h : SlOf IsStr w ao cap l) {b off : Nat} (ha : ao = some ⟨b, off, none⟩) (lo hi : Nat) (h1 : lo ≤ hi) (h2 : hi ≤ l.length) :
    SlOf IsStr w (some ⟨b, off + lo, none⟩) (cap - lo) ((l.drop lo).take (hi - lo)) := by
  subst ha
  have := SlOf.cut h lo hi h1 h2
  rwa [List.drop_take] at this
end Go.Proofs.YtgcncmhaihgldaaGreatDoor
