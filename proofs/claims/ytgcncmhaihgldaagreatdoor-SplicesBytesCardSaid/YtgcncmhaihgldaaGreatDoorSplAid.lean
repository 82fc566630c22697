/- Two that are the same. -/
import Derived.Test.YtgcncmhaihgldaaGreatDoorSpl10
namespace Go.Proofs.YtgcncmhaihgldaaGreatDoor
open Go Go.Proofs Go.RowKit Go.Ink

theorem own_slOfV {w : World} {B n c : Nat} {a : Option Addr} {l : List Line} (hn : l.length = n) (h : OwnStrs w B (.slice a n c) l) : SlOf IsStr w a c l := by
  subst hn
  obtain ⟨ao, cap, e, h⟩ := OwnStrs.slOf h
  simp only [Value.slice.injEq] at e
  obtain ⟨rfl, _, rfl⟩ := e
  exact h
theorem same_self (a : List Line) (ao1 ao2 : Option Addr) (cap1 cap2 : Nat) (w : World) (ha : SlOf IsStr w ao1 cap1 a) (hb : SlOf IsStr w ao2 cap2 a) :
    Calls Tryz.prog 22 #[.slice ao1 a.length cap1, .slice ao2 a.length cap2] w fun e w' => e = .returned (.bool true) ∧ Below w.heap.size w w' := by
  refine (same_any a a ao1 ao2 cap1 cap2 w ha hb).mono ?_
  rintro e w' ⟨rfl, n, rfl⟩
  rw [sameS_self]
  exact ⟨rfl, below_drewN (Below.refl _ _) n⟩
theorem splSame_self (a : Spl) (a1 a2 : Option Addr) (c1 c2 : Nat) (w : World) (ha : SlOf IsStr w a1 c1 a.ins) (hb : SlOf IsStr w a2 c2 a.ins) :
    Calls Tryz.prog 9 #[.agg #[.int .i64 a.pos, .int .i64 a.del, .slice a1 a.ins.length c1], .agg #[.int .i64 a.pos, .int .i64 a.del, .slice a2 a.ins.length c2]] w fun e w' => e = .returned (.bool true) ∧ Below w.heap.size w w' := by
  have := splSame_any a a a1 a2 c1 c2 w ha hb
  rw [(splSame_iff a a).2 rfl] at this
  exact this
end Go.Proofs.YtgcncmhaihgldaaGreatDoor
