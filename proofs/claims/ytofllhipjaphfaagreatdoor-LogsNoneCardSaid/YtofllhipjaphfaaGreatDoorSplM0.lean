/- How splices lie in memory: a slice of them. -/
import Derived.Test.YtofllhipjaphfaaGreatDoorSpl1
import Derived.Test.YtofllhipjaphfaaGreatDoorBase
namespace Go.Proofs.YtofllhipjaphfaaGreatDoor
open Go Go.Proofs Go.RowKit Go.Ink

/-- A splice as a value: its lines are a slice. -/
def splV (s : Spl) (ao : Option Addr) (cap : Nat) : Value := .agg #[.int .i64 s.pos, .int .i64 s.del, .slice ao s.ins.length cap]
/-- A slice value of splices (three cells each) stands for the list xs. -/
def SplOf (w : World) (ao : Option Addr) (cap : Nat) (xs : List Spl) : Prop :=
  xs.length ≤ cap ∧ cap ≤ maxLen ∧ (ao = none → cap = 0) ∧
    ∀ k x, xs[k]? = some x → ∃ b off ai ci, ao = some ⟨b, off, none⟩ ∧ w.cell? ⟨b, off + k * 3, none⟩ = some (.int .i64 x.pos) ∧ w.cell? ⟨b, off + k * 3 + 1, none⟩ = some (.int .i64 x.del) ∧
      w.cell? ⟨b, off + k * 3 + 2, none⟩ = some (.slice ai x.ins.length ci) ∧ SlOf IsStr w ai ci x.ins
theorem SplOf.later {w w' : World} {ao : Option Addr} {cap : Nat} {xs : List Spl} (h : SplOf w ao cap xs) (hb : Below w.heap.size w w') : SplOf w' ao cap xs := by
  obtain ⟨h1, h2, h3, h4⟩ := h
  refine ⟨h1, h2, h3, fun k x hk => ?_⟩
  obtain ⟨b, off, ai, ci, ha, c0, c1, c2, hs⟩ := h4 k x hk
  exact ⟨b, off, ai, ci, ha, (hb.cell (p := ⟨b, off + k * 3, none⟩) (lt_of_cell c0)).trans c0, (hb.cell (p := ⟨b, off + k * 3 + 1, none⟩) (lt_of_cell c1)).trans c1,
    (hb.cell (p := ⟨b, off + k * 3 + 2, none⟩) (lt_of_cell c2)).trans c2, hs.later lasts_str hb⟩
end Go.Proofs.YtofllhipjaphfaaGreatDoor
