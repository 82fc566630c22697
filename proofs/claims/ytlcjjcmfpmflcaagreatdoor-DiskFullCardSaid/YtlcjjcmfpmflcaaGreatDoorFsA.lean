/- A struct that only the interpreter knows (a file system), beside blocks of the walk's own: where it is, which blocks it may know, calls at it. No program in sight. -/
import Derived.Test.YtlcjjcmfpmflcaaGreatDoorHk6
import Derived.Test.YtlcjjcmfpmflcaaGreatDoorKeep
set_option linter.unusedVariables false
set_option linter.unusedSimpArgs false
namespace Go.Ev
open Go Go.RowKit Go.Ink
section
variable {P : Program} {ξ : Nat → Value} {H H' : Ev.H} {w w' : World} {v u : V} {x : Value} {F F' : Nat → Prop}
/-- The value that stands for v, in a world of which the interpreter's heap H knows blocks of F alone. -/
def FsAt (P : Program) (ξ : Nat → Value) (H : Ev.H) (w : World) (v : V) (x : Value) (F : Nat → Prop) : Prop :=
  ∃ G, Rep P ξ G H w ∧ GlobOk P G ∧ Den ξ G v x ∧ ∀ r, Kn G H r → F r
theorem FsAt.mono (h : FsAt P ξ H w v x F) (hF : ∀ r, r < w.heap.size → F r → F' r) : FsAt P ξ H w v x F' := by
  obtain ⟨G, h1, h2, h3, h4⟩ := h
  exact ⟨G, h1, h2, h3, fun r hr => hF r (h1.kn_lt hr) (h4 r hr)⟩
/-- other blocks are turned -/
theorem FsAt.kept {S : Nat → Prop} (h : FsAt P ξ H w v x F) (hk : KeepT S w w') (hS : ∀ r, r < w.heap.size → S r → ¬ F r) : FsAt P ξ H w' v x F := by
  obtain ⟨G, h1, h2, h3, h4⟩ := h
  exact ⟨G, h1.other hk.size (fun r hr => hk.block r (h1.kn_lt hr) (fun hs => hS r (h1.kn_lt hr) hs (h4 r hr))), h2, h3, h4⟩
theorem FsAt.later (h : FsAt P ξ H w v x F) (hb : Below w.heap.size w w') : FsAt P ξ H w' v x F := by
  obtain ⟨G, h1, h2, h3, h4⟩ := h
  exact ⟨G, (h1.below hb).1, h2, h3, h4⟩
/-- what F says of blocks that are not there yet is of no account -/
theorem FsAt.old (h : FsAt P ξ H w v x F) : FsAt P ξ H w v x (fun r => F r ∧ r < w.heap.size) := by
  obtain ⟨G, h1, h2, h3, h4⟩ := h
  exact ⟨G, h1, h2, h3, fun r hr => ⟨h4 r hr, h1.kn_lt hr⟩⟩
/-- a call: what the interpreter yields, the call yields; blocks of F alone are turned, blocks that are new may be known -/
theorem FsAt.call (hN : NoCount P) (hm : P.follows .mixedOrders = true) {hooks dhooks : List (Nat × Hook)} (hh : ∀ p ∈ hooks, CallOk1 P p.1 p.2) (hd : ∀ p ∈ dhooks, DefOk1 P p.1 p.2) {cf fuel f : Nat} {l : List V}
    (h0 : runTop P hooks dhooks cf fuel f l H = .ok (u, H')) (h : FsAt P ξ H w v x F) {args : Array Value} (ha : ∀ G, Den ξ G v x → DenL ξ G l args.toList) :
    Calls P f args w fun e w' => ∃ y, e = .returned y ∧ (∃ G', Den ξ G' u y) ∧ FsAt P ξ H' w' v x (fun r => F r ∨ (w.heap.size ≤ r ∧ r < w'.heap.size)) ∧ KeepT F w w' := by
  obtain ⟨G, h1, h2, h3, h4⟩ := h
  refine (runTop_calls hN hm hh hd h0 ξ G args w h1 h2 (ha G h3)).mono fun e w' ⟨y, he, G', q1, q2, q3⟩ => ?_
  refine ⟨y, he, ⟨G', q1⟩, ⟨G', q2, h2.mono q3.le, h3.mono q3.le, fun r hr => ?_⟩, q3.os, q3.tape, q3.output, q3.size, fun r hr hn => q3.keep r hr fun ⟨b, z, g, k1, _, k3, k4⟩ => hn (h4 r ⟨b, z, g, k1, k3, k4⟩)⟩
  rcases Nat.lt_or_ge r w.heap.size with hlt | hge
  · exact .inl (h4 r (q3.kn r hlt hr))
  · exact .inr ⟨hge, q2.kn_lt hr⟩
noncomputable def hOf (r : R (V × Ev.H)) : Ev.H := match r with
  | .ok (_, h) => h
  | .no _ => ⟨0, [], []⟩
/-- a run answered this -/
noncomputable def isV (v : V) (r : R (V × Ev.H)) : Bool := match r with
  | .ok (u, _) => vEqs [u] [v]
  | .no _ => false
theorem isV_ok {r : R (V × Ev.H)} (h : isV v r = true) : r = .ok (v, hOf r) := by
  unfold isV at h
  split at h
  · cases vEqs_eq h
    rfl
  · cases h
end
end Go.Ev
