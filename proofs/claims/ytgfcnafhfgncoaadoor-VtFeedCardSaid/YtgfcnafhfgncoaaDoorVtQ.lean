/- A terminal and a grid that should be the one it shows. -/
import Derived.Test.YtgfcnafhfgncoaaDoorVtP
namespace Go.Proofs.YtgfcnafhfgncoaaDoor
open Go Go.Proofs Go.RowKit Go.Ink

/-- A terminal shows t; in the box at x lies t's grid. -/
structure EndP (w0 w : World) (B v : Nat) (t : Tm) (S : Nat → Prop) (x g cap : Nat) (G : Grd) : Prop where
  one : OneP w0 w B v t S
  box : BoxAt w x G (some ⟨g, 0, none⟩) cap
  sl : SlOf IsBytes w (some ⟨g, 0, none⟩) cap G.cells
  eq : t.grd = G
theorem EndP.later {w0 w w' : World} {B v : Nat} {t : Tm} {S : Nat → Prop} {x g cap : Nat} {G : Grd} (h : EndP w0 w B v t S x g cap G) (hb : Below w.heap.size w w') : EndP w0 w' B v t S x g cap G :=
  ⟨h.one.later hb, h.box.later hb, h.sl.later lasts_bytes hb, h.eq⟩
theorem EndP.len {w0 w : World} {B v : Nat} {t : Tm} {S : Nat → Prop} {x g cap : Nat} {G : Grd} (h : EndP w0 w B v t S x g cap G) : G.cells.length ≤ 1000000 := by
  rw [← h.eq]
  have h1 := h.one.g.many
  have h2 := h.one.g.rows
  show t.cells.length ≤ _
  omega
/-- Grid of such a terminal. -/
theorem EndP.grid {w0 w : World} {B v : Nat} {t : Tm} {S : Nat → Prop} {x g cap : Nat} {G : Grd} (h : EndP w0 w B v t S x g cap G) :
    Calls Tryd.prog 16 #[.pointer (some ⟨v, 0, none⟩)] w fun e w' => ∃ g', e = .returned (gridV G (some ⟨g', 0, none⟩) G.cells.length) ∧ SlOf IsBytes w' (some ⟨g', 0, none⟩) G.cells.length G.cells ∧ EndP w0 w' B v t S x g cap G ∧ x < w.heap.size := by
  have hp := gridP h.one.a h.one.g
  rw [h.eq] at hp
  refine hp.mono ?_
  rintro e w' ⟨g', bs', rfl, _, ho, hb⟩
  exact ⟨g', rfl, ho.sl, h.later hb, lt_of_heap h.box⟩
/-- Check of the grid that lies there. -/
theorem EndP.check {w0 w : World} {B v : Nat} {t : Tm} {S : Nat → Prop} {x g cap : Nat} {G : Grd} (h : EndP w0 w B v t S x g cap G) :
    Calls Tryd.prog 19 #[.agg #[.int .i64 G.rows, .int .i64 G.cols, .slice (some ⟨g, 0, none⟩) G.cells.length cap, .int .i64 G.row, .int .i64 G.col]] w fun e w' => e = .returned (.int .i64 0) ∧ Below w.heap.size w w' := by
  have hs := h.sl
  rw [← h.eq] at hs
  have hc := checkP h.one.g (some ⟨g, 0, none⟩) cap hs
  rw [h.eq] at hc
  exact hc
end Go.Proofs.YtgfcnafhfgncoaaDoor
