/- A terminal's memory; the walks of none and begun. -/
import Derived.Test.YtcgaaadcbhkfoaaGreatDoorVtA
import Derived.Laws.EntriesVeiled
namespace Go.Proofs.YtcgaaadcbhkfoaaGreatDoor
open Go Go.Proofs Go.RowKit Go.Ink

/-- The function that takes the next byte. -/
def escV : Nat → Value
  | 0 => .func (.func 25) #[] #[]
  | 1 => .func (.func 27) #[] #[]
  | _ => .func (.func 38) #[] #[]
def vtCells (t : Tm) (gr cap : Nat) (pv nv : Value) : Array Value := #[.int .i64 (t.rows : Int), .int .i64 (t.cols : Int), .slice (some ⟨gr, 0, none⟩) t.rows cap, .int .i64 (t.row : Int), .int .i64 (t.col : Int), pv, nv]
/-- A terminal in memory, all above B: block v the struct, gr the rows' slices, ga the bytes, pv the parameters' slice. -/
structure VtAt (B : Nat) (w : World) (v gr cap ga : Nat) (os : List Nat) (pv : Value) (t : Tm) : Prop where
  head : w.heap[v]? = some (.cells (vtCells t gr cap pv (escV t.esc)) 60 (0, 0))
  grid : GridMem w gr ga 37 5 t.cols os t.cells
  par : w.ownsRow (v + 1) 5 1 pv t.par.length (t.par.map fun c => Value.int .u8 (c.toNat : Int))
  less : B ≤ gr ∧ B ≤ ga ∧ gr < v ∧ ga < v
  fits : t.rows ≤ cap ∧ cap ≤ maxLen
/-- Memory of its own stands as it was, if its blocks do. -/
theorem ownsRow_old {w w' : World} {base : Nat} {e : TypeId} {size : Nat} {v : Value} {n : Nat} {xs : List Value} (h : w.ownsRow base e size v n xs) (hb : ∀ i, base ≤ i → i < w.heap.size → w'.heap[i]? = w.heap[i]?) : w'.ownsRow base e size v n xs := by
  obtain ⟨h1, h2⟩ := h
  refine ⟨h1, ?_⟩
  rcases h2 with h2 | ⟨g, cap, cur, hv, hg, hh, r⟩
  · exact .inl h2
  · exact .inr ⟨g, cap, cur, hv, hg, (hb g hg (Array.getElem?_eq_some_iff.1 hh).1).trans hh, r⟩
theorem VtAt.gt {B : Nat} {w : World} {v gr cap ga : Nat} {os : List Nat} {pv : Value} {t : Tm} (h : VtAt B w v gr cap ga os pv t) : B ≤ v := by have := h.less; omega
/-- A cell of the struct is turned. -/
theorem VtAt.setv {B : Nat} {w : World} {v gr cap ga : Nat} {os : List Nat} {pv : Value} {t : Tm} (h : VtAt B w v gr cap ga os pv t) (j : Nat) (x : Value) (t' : Tm) (h1 : t'.cells = t.cells) (h2 : t'.cols = t.cols) (h3 : t'.par = t.par) (h4 : t'.rows = t.rows)
    (hc : (vtCells t gr cap pv (escV t.esc)).setIfInBounds j x = vtCells t' gr cap pv (escV t'.esc)) : VtAt B (w.setCell ⟨v, j, none⟩ x) v gr cap ga os pv t' := by
  obtain ⟨a1, a2, a3, ⟨b1, b2, b3, b4⟩, a5⟩ := h
  refine ⟨by rw [← hc]; exact heap_set a1 x, ?_, ?_, ⟨b1, b2, b3, b4⟩, by rw [h4]; exact a5⟩
  · rw [h1, h2]; exact a2.later (Below.heap_setCell _ _ _ _ (by simpa using Nat.ne_of_lt b3)) (Below.heap_setCell _ _ _ _ (by simpa using Nat.ne_of_lt b4))
  · rw [h3]; exact ownsRow_old a3 fun i hi _ => Below.heap_setCell _ _ _ _ (by simp only []; omega)
/-- The rows are turned. -/
theorem VtAt.grids {B : Nat} {w w' : World} {v gr cap ga : Nat} {os os' : List Nat} {pv : Value} {t t' : Tm} (h : VtAt B w v gr cap ga os pv t) (hg : GridMem w' gr ga 37 5 t'.cols os' t'.cells) (ho : ∀ i, i < w.heap.size → i ≠ gr → i ≠ ga → w'.heap[i]? = w.heap[i]?)
    (h1 : t'.rows = t.rows) (h2 : t'.cols = t.cols) (h3 : t'.row = t.row) (h4 : t'.col = t.col) (h5 : t'.esc = t.esc) (h6 : t'.par = t.par) : VtAt B w' v gr cap ga os' pv t' := by
  obtain ⟨a1, a2, a3, ⟨b1, b2, b3, b4⟩, a5⟩ := h
  refine ⟨?_, hg, ?_, ⟨b1, b2, b3, b4⟩, by rw [h1]; exact a5⟩
  · rw [ho v (lt_of_heap a1) (by omega) (by omega), a1]; unfold vtCells; rw [h1, h2, h3, h4, h5]
  · rw [h6]; exact ownsRow_old a3 fun i hi hlt => ho i hlt (by omega) (by omega)
/-- The struct's cells, as they are read. -/
theorem VtAt.cells {B : Nat} {w : World} {v gr cap ga : Nat} {os : List Nat} {pv : Value} {t : Tm} (h : VtAt B w v gr cap ga os pv t) :
    w.cell? ⟨v, 0, none⟩ = some (.int .i64 (t.rows : Int)) ∧ w.cell? ⟨v, 1, none⟩ = some (.int .i64 (t.cols : Int)) ∧ w.cell? ⟨v, 2, none⟩ = some (.slice (some ⟨gr, 0, none⟩) t.rows cap) ∧ w.cell? ⟨v, 3, none⟩ = some (.int .i64 (t.row : Int)) ∧
    w.cell? ⟨v, 4, none⟩ = some (.int .i64 (t.col : Int)) ∧ w.cell? ⟨v, 5, none⟩ = some pv ∧ w.cell? ⟨v, 6, none⟩ = some (escV t.esc) ∧ ∀ j, w.frozen? ⟨v, j, none⟩ = false := by
  have hc := Lib.cell_of_heap h.head
  refine ⟨?_, ?_, ?_, ?_, ?_, ?_, ?_, Lib.frozen_of_heap h.head⟩ <;> rw [hc] <;> rfl

set_option maxRecDepth 100000 in
theorem none_any (v e : Nat) (w : World) (h : w.cell? ⟨v, 6, none⟩ = some (escV e)) :
    Calls Tryz.prog 26 #[.pointer (some ⟨v, 0, none⟩)] w fun x w' => x = .returned (.bool false) ∧ w' = w := by
  obtain ⟨f, hf⟩ : ∃ f, escV e = .func (.func f) #[] #[] := by
    match e with
    | 0 => exact ⟨_, rfl⟩
    | 1 => exact ⟨_, rfl⟩
    | n + 2 => exact ⟨_, rfl⟩
  rw [hf] at h
  clear hf
  have hrun : Sem.run Tryz.prog (binOp BinOp.eql 57 (Value.func (.func f) #[] #[]) Value.nilFunc) w = .ok (.bool false) w := by kernel_rfl
  go_enter Tryz.func26, Tryz.ntmps26
  go_wp2_with fail
  go_returns
  exact ⟨rfl, rfl⟩
theorem none_nil (w : World) :
    Calls Tryz.prog 26 #[.pointer none] w fun x w' => x = .returned (.bool true) ∧ w' = w := by
  go_enter Tryz.func26, Tryz.ntmps26
  go_wp2_with fail
  go_returns
  exact ⟨rfl, rfl⟩
set_option maxRecDepth 100000 in
theorem begun_any (v : Nat) (c : UInt8) (w : World) {u : Value} (h : w.cell? ⟨v, 6, none⟩ = some u) (hf : w.frozen? ⟨v, 6, none⟩ = false) :
    Calls Tryz.prog 27 #[.pointer (some ⟨v, 0, none⟩), .int .u8 (c.toNat : Int)] w fun x w' => x = .returned (.tuple #[]) ∧
      w' = if c = 91 then (w.setCell ⟨v, 6, none⟩ (escV 0)).setCell ⟨v, 6, none⟩ (escV 2) else w.setCell ⟨v, 6, none⟩ (escV 0) := by
  by_cases hc : c = 91
  · subst hc
    rw [if_pos rfl]
    have hu2 : ∃ u2, (w.setCell ⟨v, 6, none⟩ (.func (.func 25) #[] #[])).cell? ⟨v, 6, none⟩ = some u2 := ⟨_, World.cell?_setCell_same _ _ _ h⟩
    obtain ⟨u2, hu2⟩ := hu2
    go_enter Tryz.func27, Tryz.ntmps27
    go_wp2_with fail
    go_returns
    exact ⟨rfl, rfl⟩
  · rw [if_neg hc]
    have hn : ((c.toNat : Int) == 91) = false := by
      rw [beq_eq_false_iff_ne]; intro e; apply hc; apply UInt8.toNat_inj.1; show c.toNat = 91; omega
    go_enter Tryz.func27, Tryz.ntmps27
    go_wp2_with fail
    go_returns
    exact ⟨rfl, rfl⟩
end Go.Proofs.YtcgaaadcbhkfoaaGreatDoor
