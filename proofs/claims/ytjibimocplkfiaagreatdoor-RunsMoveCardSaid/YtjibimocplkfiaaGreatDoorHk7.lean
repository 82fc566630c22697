/- A hook of the interpreter: a call at a heap of which only some blocks matter, of which it is known what it yields (proved apart, at those blocks alone): so that a long closed run is cut into pieces whose heaps are small. No program in sight. -/
import Derived.Test.YtjibimocplkfiaaGreatDoorHk6
namespace Go.Ev
open Go Go.RowKit
section
variable {P : Program}
/-! a part of a heap -/
noncomputable def subL {α : Type} (e : α → α → Bool) : List α → List α → Bool
  | [], _ => true
  | x :: l, y :: m => cond (e x y) (subL e l m) false
  | _ :: _, [] => false
theorem subL_get {α : Type} {e : α → α → Bool} : ∀ {l m : List α}, subL e l m = true → ∀ (i : Nat) (x : α), l[i]? = some x → ∃ y, m[i]? = some y ∧ e x y = true
  | [], _, _, i, x, hx => by simp at hx
  | a :: l, b :: m, h, i, x, hx => by
    obtain ⟨h1, h2⟩ := cond_and (show cond _ _ false = true from h)
    cases i with
    | zero => simp at hx; subst hx; exact ⟨b, rfl, h1⟩
    | succ i =>
      rw [List.getElem?_cons_succ] at hx ⊢
      exact subL_get h2 i x hx
  | _ :: _, [], h, _, _, _ => by cases h
noncomputable def oSub : Option Blk → Option Blk → Bool
  | none, _ => true
  | some x, some y => bEq x y
  | some _, none => false
noncomputable def subH (p h : H) : Bool := cond (Nat.beq p.next h.next) (subL (subL (subL oSub)) p.t h.t) false
theorem get_def (h : H) (b : Nat) : h.get b = (((h.t[b / 64]?).bind (·[b % 64 / 8]?)).bind (·[b % 8]?)).bind id := rfl
theorem subH_ok {p h : H} (e : subH p h = true) : p.next = h.next ∧ ∀ b x, p.get b = some x → h.get b = some x := by
  obtain ⟨h1, h2⟩ := cond_and e
  refine ⟨Nat.eq_of_beq_eq_true h1, fun b x hb => ?_⟩
  rw [get_def] at hb ⊢
  obtain ⟨o, h3, h4⟩ := Option.bind_eq_some_iff.1 hb
  obtain ⟨l1, h5, h6⟩ := Option.bind_eq_some_iff.1 h3
  obtain ⟨l2, h7, h8⟩ := Option.bind_eq_some_iff.1 h5
  obtain ⟨m2, k1, k2⟩ := subL_get h2 _ _ h7
  obtain ⟨m1, k3, k4⟩ := subL_get k2 _ _ h8
  obtain ⟨m0, k5, k6⟩ := subL_get k4 _ _ h6
  have ho : o = some x := h4
  subst ho
  cases m0 with
  | none => cases k6
  | some y =>
    cases bEq_eq (show bEq x y = true from k6)
    rw [k1]
    simp only [Option.bind_some, k3, k5]
    rfl
/-- what a run yields, of which only these blocks are kept -/
noncomputable def pieceB (r : R (V × H)) (v : V) (h' : H) : Bool := match r with
  | .ok (u, h1) => cond (vEqs [v] [u]) (cond (subH h' h1) (match h1.ds, h'.ds with
    | [], [] => true
    | _, _ => false) false) false
  | .no _ => false
theorem pieceB_ok {r : R (V × H)} {v : V} {h' : H} (e : pieceB r v h' = true) : ∃ h1, r = .ok (v, h1) ∧ h'.next = h1.next ∧ (∀ b x, h'.get b = some x → h1.get b = some x) ∧ h1.ds = [] ∧ h'.ds = [] := by
  unfold pieceB at e
  split at e
  · rename_i u h1
    obtain ⟨e1, e2⟩ := cond_and e
    obtain ⟨e3, e4⟩ := cond_and e2
    cases vEqs_eq e1
    obtain ⟨e5, e6⟩ := subH_ok e3
    split at e4
    · exact ⟨h1, rfl, e5, e6, by assumption, by assumption⟩
    · cases e4
  · cases e
noncomputable def findG (l : List V) (h : H) : List Piece → R (V × H) := fun t => List.rec (.no 341) (fun p _ ih => cond (vEqs l p.l) (cond (subH p.h h) (match h.ds with
  | [] => .ok (p.v, p.h')
  | _ => .no 342) ih) ih) t
theorem findG_ok {l : List V} {h : H} {r : V × H} : ∀ {t : List Piece}, findG l h t = .ok r → ∃ p ∈ t, l = p.l ∧ subH p.h h = true ∧ h.ds = [] ∧ r = (p.v, p.h')
  | [], h0 => by cases h0
  | p :: t, h0 => by
    have h1 : cond (vEqs l p.l) (cond (subH p.h h) (match h.ds with
      | [] => .ok (p.v, p.h')
      | _ => .no 342) (findG l h t)) (findG l h t) = .ok r := h0
    cases q1 : vEqs l p.l with
    | false =>
      rw [q1] at h1
      obtain ⟨p', h2, h3⟩ := findG_ok (t := t) h1
      exact ⟨p', List.mem_cons_of_mem _ h2, h3⟩
    | true =>
      rw [q1] at h1
      cases q2 : subH p.h h with
      | false =>
        simp only [cond_true, q2, cond_false] at h1
        obtain ⟨p', h2, h3⟩ := findG_ok (t := t) h1
        exact ⟨p', List.mem_cons_of_mem _ h2, h3⟩
      | true =>
        simp only [cond_true, q2] at h1
        split at h1
        · cases h1
          exact ⟨p, List.mem_cons_self .., vEqs_eq q1, q2, by assumption, rfl⟩
        · cases h1
noncomputable def hPieceG (t : List Piece) : Hook := fun l h => findG l h t
theorem pieceG_ok (hN : NoCount P) (hm : P.follows .mixedOrders = true) {f : Nat} {fn : Func} {c : Code} (hf : P.funcs[f]? = some fn) (hb : fn.body = some c)
    {t : List Piece} (ht : ∀ p ∈ t, ∃ (hooks dhooks : List (Nat × Hook)) (cf fuel : Nat), (∀ q ∈ hooks, CallOk1 P q.1 q.2) ∧ (∀ q ∈ dhooks, DefOk1 P q.1 q.2) ∧ pieceB (runTop P hooks dhooks cf fuel f p.l p.h) p.v p.h' = true) : CallOk1 P f (hPieceG t) := by
  intro l h v h' h0
  obtain ⟨p, hp, rfl, hs, hds, h2⟩ := findG_ok (show findG l h t = _ from h0)
  cases h2
  obtain ⟨hooks, dhooks, cf, fuel, hh, hd, h3⟩ := ht p hp
  obtain ⟨h1, h4, h5, h6, h7, h8⟩ := pieceB_ok h3
  obtain ⟨hn, hg⟩ := subH_ok hs
  refine ⟨by rw [h8, hds], fun ξ G args w rp hG hda => callW_of_calls hN hf hb ((runTop_calls hN hm hh hd h4 ξ G args w (rp.forget hn hg) hG hda).mono fun e w' ⟨x, he, G', q1, q2, q3⟩ => ⟨x, he, G', q1, q2.forget h5 h6, ?_⟩)⟩
  have q4 := q3.forget h6
  exact ⟨q4.os, q4.tape, q4.output, q4.size, fun r hr hw => q4.keep r hr (fun ⟨b, y, g, r1, r2, r3, r4⟩ => hw ⟨b, y, g, hg b y r1, r2, r3, r4⟩),
    fun r hr hw => let ⟨b, y, g, r1, r2, r3, r4⟩ := q4.wr r hr hw; ⟨b, y, g, hg b y r1, r2, r3, r4⟩,
    fun r hr hk => let ⟨b, y, g, r1, r2, r3⟩ := q4.kn r hr hk; ⟨b, y, g, hg b y r1, r2, r3⟩, q4.pre⟩
end
end Go.Ev
