/- A hook of the interpreter: a call at just this heap, of which it is known what it yields (proved apart): so that a long closed run is cut into pieces. No program in sight. -/
import Derived.Test.YtlcjjcmfpmflcaaGreatDoorHk2
set_option linter.unusedVariables false
set_option linter.unusedSimpArgs false
namespace Go.Ev
open Go Go.RowKit
section
variable {P : Program}
theorem Rep.forget {ξ : Nat → Value} {G : Gh} {h h' : H} {w : World} (R : Rep P ξ G h w) (hn : h'.next = h.next) (hs : ∀ b x, h'.get b = some x → h.get b = some x) : Rep P ξ G h' w :=
  ⟨by rw [hn]; exact R.len, R.lt, fun b x hb => R.blk b x (hs b x hb), fun b b' x x' g g' h1 h2 => R.inj b b' x x' g g' (hs b x h1) (hs b' x' h2)⟩
theorem Step.forget {G G' : Gh} {h h1 h' : H} {w w' : World} (s : Step G h w G' h1 w') (hs : ∀ b x, h'.get b = some x → h1.get b = some x) : Step G h w G' h' w' :=
  ⟨s.os, s.tape, s.output, s.size, s.keep, fun r hr ⟨b, x, g, q1, q2, q3, q4⟩ => s.wr r hr ⟨b, x, g, hs b x q1, q2, q3, q4⟩, fun r hr ⟨b, x, g, q1, q2, q3⟩ => s.kn r hr ⟨b, x, g, hs b x q1, q2, q3⟩, s.pre⟩
/-! two heaps that are the same -/
def kEq : BK → BK → Bool
  | .own, .own => true
  | .grow, .grow => true
  | .conv, .conv => true
  | .ro, .ro => true
  | _, _ => false
theorem kEq_eq : ∀ {a b : BK}, kEq a b = true → a = b
  | .own, .own, _ => rfl
  | .grow, .grow, _ => rfl
  | .conv, .conv, _ => rfl
  | .ro, .ro, _ => rfl
  | .own, .grow, h | .own, .conv, h | .own, .ro, h | .grow, .own, h | .grow, .conv, h | .grow, .ro, h | .conv, .own, h | .conv, .grow, h | .conv, .ro, h | .ro, .own, h | .ro, .grow, h | .ro, .conv, h => by cases h
noncomputable def mEq : List (V × V × Nat) → List (V × V × Nat) → Bool
  | [], [] => true
  | (a, b, n) :: l, (a', b', n') :: l' => cond (vEqs [a, b] [a', b']) (cond (Nat.beq n n') (mEq l l') false) false
  | _, _ => false
theorem mEq_eq : ∀ {l l' : List (V × V × Nat)}, mEq l l' = true → l = l'
  | [], [], _ => rfl
  | (a, b, n) :: l, (a', b', n') :: l', h => by
    obtain ⟨h1, h2⟩ := cond_and (show cond _ _ false = true from h)
    obtain ⟨h3, h4⟩ := cond_and h2
    cases vEqs_eq h1
    cases Nat.eq_of_beq_eq_true h3
    cases mEq_eq h4
    rfl
  | [], _ :: _, h | _ :: _, [], h => by cases h
noncomputable def oEq : Obj → Obj → Bool
  | .cells ⟨[.iface a (.agg ⟨[.pointer (some ⟨b, c, none⟩)]⟩)]⟩ t (0, 0), .cells ⟨[.iface a' (.agg ⟨[.pointer (some ⟨b', c', none⟩)]⟩)]⟩ t' (0, 0) => cond (Nat.beq a a') (cond (Nat.beq b b') (cond (Nat.beq c c') (Nat.beq t t') false) false) false
  | _, _ => false
theorem oEq_eq {o o' : Obj} (h : oEq o o' = true) : o = o' := by
  unfold oEq at h
  split at h
  · obtain ⟨h1, h2⟩ := cond_and h
    obtain ⟨h3, h4⟩ := cond_and h2
    obtain ⟨h5, h6⟩ := cond_and h4
    cases Nat.eq_of_beq_eq_true h1
    cases Nat.eq_of_beq_eq_true h3
    cases Nat.eq_of_beq_eq_true h5
    cases Nat.eq_of_beq_eq_true h6
    rfl
  · cases h
noncomputable def bEq : Blk → Blk → Bool
  | .cells cs e k f, .cells cs' e' k' f' => cond (vEqs cs cs') (cond (Nat.beq e e') (cond (kEq k k') (Nat.beq f f') false) false) false
  | .map es c, .map es' c' => cond (mEq es es') (Nat.beq c c') false
  | .siter n c p, .siter n' c' p' => cond (Nat.beq n n') (cond (Nat.beq c c') (Nat.beq p p') false) false
  | .known o, .known o' => oEq o o'
  | _, _ => false
theorem bEq_eq {x y : Blk} (h : bEq x y = true) : x = y := by
  unfold bEq at h
  split at h
  · obtain ⟨h1, h2⟩ := cond_and h
    obtain ⟨h3, h4⟩ := cond_and h2
    obtain ⟨h5, h6⟩ := cond_and h4
    cases vEqs_eq h1
    cases Nat.eq_of_beq_eq_true h3
    cases kEq_eq h5
    cases Nat.eq_of_beq_eq_true h6
    rfl
  · obtain ⟨h1, h2⟩ := cond_and h
    cases mEq_eq h1
    cases Nat.eq_of_beq_eq_true h2
    rfl
  · obtain ⟨h1, h2⟩ := cond_and h
    obtain ⟨h3, h4⟩ := cond_and h2
    cases Nat.eq_of_beq_eq_true h1
    cases Nat.eq_of_beq_eq_true h3
    cases Nat.eq_of_beq_eq_true h4
    rfl
  · cases oEq_eq h
    rfl
  · cases h
noncomputable def lEq {α : Type} (e : α → α → Bool) : List α → List α → Bool
  | [], [] => true
  | x :: l, y :: m => cond (e x y) (lEq e l m) false
  | _, _ => false
theorem lEq_eq {α : Type} {e : α → α → Bool} (he : ∀ x y, e x y = true → x = y) : ∀ {l m : List α}, lEq e l m = true → l = m
  | [], [], _ => rfl
  | x :: l, y :: m, h => by
    obtain ⟨h1, h2⟩ := cond_and (show cond _ _ false = true from h)
    cases he _ _ h1
    cases lEq_eq he h2
    rfl
  | [], _ :: _, h | _ :: _, [], h => by cases h
noncomputable def oBEq : Option Blk → Option Blk → Bool
  | none, none => true
  | some x, some y => bEq x y
  | _, _ => false
theorem oBEq_eq : ∀ (x y : Option Blk), oBEq x y = true → x = y
  | none, none, _ => rfl
  | some x, some y, h => by cases bEq_eq (show bEq x y = true from h); rfl
  | none, some _, h | some _, none, h => by cases h
noncomputable def hEq (h h' : H) : Bool := match h, h' with
  | ⟨n, t, []⟩, ⟨n', t', []⟩ => cond (Nat.beq n n') (lEq (lEq (lEq oBEq)) t t') false
  | _, _ => false
theorem hEq_eq {h h' : H} (e : hEq h h' = true) : h = h' ∧ h'.ds = [] := by
  unfold hEq at e
  split at e
  · obtain ⟨h1, h2⟩ := cond_and e
    cases Nat.eq_of_beq_eq_true h1
    cases lEq_eq (fun _ _ h => lEq_eq (fun _ _ h => lEq_eq oBEq_eq h) h) h2
    exact ⟨rfl, rfl⟩
  · cases e
/-- a call at these arguments and this heap: what it yields -/
structure Piece where
  l : List V
  h : H
  v : V
  h' : H
noncomputable def findP (l : List V) (h : H) : List Piece → R (V × H) := fun t => List.rec (.no 340) (fun p _ ih => cond (vEqs l p.l) (cond (hEq h p.h) (.ok (p.v, p.h')) ih) ih) t
theorem findP_ok {l : List V} {h : H} {r : V × H} : ∀ {t : List Piece}, findP l h t = .ok r → ∃ p ∈ t, l = p.l ∧ h = p.h ∧ p.h.ds = [] ∧ r = (p.v, p.h')
  | [], h0 => by cases h0
  | p :: t, h0 => by
    have h1 : cond (vEqs l p.l) (cond (hEq h p.h) (.ok (p.v, p.h')) (findP l h t)) (findP l h t) = .ok r := h0
    cases q1 : vEqs l p.l with
    | false =>
      rw [q1] at h1
      obtain ⟨p', h2, h3⟩ := findP_ok (t := t) h1
      exact ⟨p', List.mem_cons_of_mem _ h2, h3⟩
    | true =>
      rw [q1] at h1
      cases q2 : hEq h p.h with
      | false =>
        simp only [cond_true, q2, cond_false] at h1
        obtain ⟨p', h2, h3⟩ := findP_ok (t := t) h1
        exact ⟨p', List.mem_cons_of_mem _ h2, h3⟩
      | true =>
        simp only [cond_true, q2] at h1
        obtain ⟨e1, e2⟩ := hEq_eq q2
        cases h1
        exact ⟨p, List.mem_cons_self .., vEqs_eq q1, e1, e2, rfl⟩
noncomputable def hPiece (t : List Piece) : Hook := fun l h => findP l h t
theorem piece_ok (hN : NoCount P) (hm : P.follows .mixedOrders = true) {hooks dhooks : List (Nat × Hook)} (hh : ∀ p ∈ hooks, CallOk1 P p.1 p.2) (hd : ∀ p ∈ dhooks, DefOk1 P p.1 p.2) {cf fuel f : Nat} {fn : Func} {c : Code} (hf : P.funcs[f]? = some fn) (hb : fn.body = some c)
    {t : List Piece} (ht : ∀ p ∈ t, runTop P hooks dhooks cf fuel f p.l p.h = .ok (p.v, p.h') ∧ p.h'.ds = []) : CallOk1 P f (hPiece t) := by
  intro l h v h' h0
  obtain ⟨p, hp, rfl, rfl, h1, h2⟩ := findP_ok (show findP l h t = _ from h0)
  cases h2
  obtain ⟨h3, h4⟩ := ht p hp
  exact ⟨by rw [h4, h1], fun ξ G args w rp hG hda => callW_of_calls hN hf hb (runTop_calls hN hm hh hd h3 ξ G args w rp hG hda)⟩
end
end Go.Ev
/- A hook of the interpreter: a call at a heap of which only some blocks matter, of which it is known what it yields (proved apart, at those blocks alone): so that a long closed run is cut into pieces whose heaps are small. No program in sight. -/
namespace Go.Ev
open Go Go.RowKit
section
variable {P : Program}
/-! a part of a heap -/
noncomputable def subL {α : Type} (e : α → α → Bool) : List α → List α → Bool
  | [], _ => true
  | x :: l, y :: m => cond (e x y) (subL e l m) false
  | _ :: _, [] => false
theorem subL_get {α : Type} {e : α → α → Bool} : ∀ {l m : List α}, subL e l m = true → ∀ (i : Nat) (x : α), l[i]? = some x → ∃ y, m[i]? = some y ∧ e x y = true
  | [], _, _, i, x, hx => by simp at hx
  | a :: l, b :: m, h, i, x, hx => by
    obtain ⟨h1, h2⟩ := cond_and (show cond _ _ false = true from h)
    cases i with
    | zero => simp at hx; subst hx; exact ⟨b, rfl, h1⟩
    | succ i =>
      rw [List.getElem?_cons_succ] at hx ⊢
      exact subL_get h2 i x hx
  | _ :: _, [], h, _, _, _ => by cases h
noncomputable def oSub : Option Blk → Option Blk → Bool
  | none, _ => true
  | some x, some y => bEq x y
  | some _, none => false
noncomputable def subH (p h : H) : Bool := cond (Nat.beq p.next h.next) (subL (subL (subL oSub)) p.t h.t) false
theorem get_def (h : H) (b : Nat) : h.get b = (((h.t[b / 64]?).bind (·[b % 64 / 8]?)).bind (·[b % 8]?)).bind id := rfl
theorem subH_ok {p h : H} (e : subH p h = true) : p.next = h.next ∧ ∀ b x, p.get b = some x → h.get b = some x := by
  obtain ⟨h1, h2⟩ := cond_and e
  refine ⟨Nat.eq_of_beq_eq_true h1, fun b x hb => ?_⟩
  rw [get_def] at hb ⊢
  obtain ⟨o, h3, h4⟩ := Option.bind_eq_some_iff.1 hb
  obtain ⟨l1, h5, h6⟩ := Option.bind_eq_some_iff.1 h3
  obtain ⟨l2, h7, h8⟩ := Option.bind_eq_some_iff.1 h5
  obtain ⟨m2, k1, k2⟩ := subL_get h2 _ _ h7
  obtain ⟨m1, k3, k4⟩ := subL_get k2 _ _ h8
  obtain ⟨m0, k5, k6⟩ := subL_get k4 _ _ h6
  have ho : o = some x := h4
  subst ho
  cases m0 with
  | none => cases k6
  | some y =>
    cases bEq_eq (show bEq x y = true from k6)
    rw [k1]
    simp only [Option.bind_some, k3, k5]
    rfl
/-- what a run yields, of which only these blocks are kept -/
noncomputable def pieceB (r : R (V × H)) (v : V) (h' : H) : Bool := match r with
  | .ok (u, h1) => cond (vEqs [v] [u]) (cond (subH h' h1) (match h1.ds, h'.ds with
    | [], [] => true
    | _, _ => false) false) false
  | .no _ => false
theorem pieceB_ok {r : R (V × H)} {v : V} {h' : H} (e : pieceB r v h' = true) : ∃ h1, r = .ok (v, h1) ∧ h'.next = h1.next ∧ (∀ b x, h'.get b = some x → h1.get b = some x) ∧ h1.ds = [] ∧ h'.ds = [] := by
  unfold pieceB at e
  split at e
  · rename_i u h1
    obtain ⟨e1, e2⟩ := cond_and e
    obtain ⟨e3, e4⟩ := cond_and e2
    cases vEqs_eq e1
    obtain ⟨e5, e6⟩ := subH_ok e3
    split at e4
    · exact ⟨h1, rfl, e5, e6, by assumption, by assumption⟩
    · cases e4
  · cases e
noncomputable def findG (l : List V) (h : H) : List Piece → R (V × H) := fun t => List.rec (.no 341) (fun p _ ih => cond (vEqs l p.l) (cond (subH p.h h) (match h.ds with
  | [] => .ok (p.v, p.h')
  | _ => .no 342) ih) ih) t
theorem findG_ok {l : List V} {h : H} {r : V × H} : ∀ {t : List Piece}, findG l h t = .ok r → ∃ p ∈ t, l = p.l ∧ subH p.h h = true ∧ h.ds = [] ∧ r = (p.v, p.h')
  | [], h0 => by cases h0
  | p :: t, h0 => by
    have h1 : cond (vEqs l p.l) (cond (subH p.h h) (match h.ds with
      | [] => .ok (p.v, p.h')
      | _ => .no 342) (findG l h t)) (findG l h t) = .ok r := h0
    cases q1 : vEqs l p.l with
    | false =>
      rw [q1] at h1
      obtain ⟨p', h2, h3⟩ := findG_ok (t := t) h1
      exact ⟨p', List.mem_cons_of_mem _ h2, h3⟩
    | true =>
      rw [q1] at h1
      cases q2 : subH p.h h with
      | false =>
        simp only [cond_true, q2, cond_false] at h1
        obtain ⟨p', h2, h3⟩ := findG_ok (t := t) h1
        exact ⟨p', List.mem_cons_of_mem _ h2, h3⟩
      | true =>
        simp only [cond_true, q2] at h1
        split at h1
        · cases h1
          exact ⟨p, List.mem_cons_self .., vEqs_eq q1, q2, by assumption, rfl⟩
        · cases h1
noncomputable def hPieceG (t : List Piece) : Hook := fun l h => findG l h t
theorem pieceG_ok (hN : NoCount P) (hm : P.follows .mixedOrders = true) {f : Nat} {fn : Func} {c : Code} (hf : P.funcs[f]? = some fn) (hb : fn.body = some c)
    {t : List Piece} (ht : ∀ p ∈ t, ∃ (hooks dhooks : List (Nat × Hook)) (cf fuel : Nat), (∀ q ∈ hooks, CallOk1 P q.1 q.2) ∧ (∀ q ∈ dhooks, DefOk1 P q.1 q.2) ∧ pieceB (runTop P hooks dhooks cf fuel f p.l p.h) p.v p.h' = true) : CallOk1 P f (hPieceG t) := by
  intro l h v h' h0
  obtain ⟨p, hp, rfl, hs, hds, h2⟩ := findG_ok (show findG l h t = _ from h0)
  cases h2
  obtain ⟨hooks, dhooks, cf, fuel, hh, hd, h3⟩ := ht p hp
  obtain ⟨h1, h4, h5, h6, h7, h8⟩ := pieceB_ok h3
  obtain ⟨hn, hg⟩ := subH_ok hs
  refine ⟨by rw [h8, hds], fun ξ G args w rp hG hda => callW_of_calls hN hf hb ((runTop_calls hN hm hh hd h4 ξ G args w (rp.forget hn hg) hG hda).mono fun e w' ⟨x, he, G', q1, q2, q3⟩ => ⟨x, he, G', q1, q2.forget h5 h6, ?_⟩)⟩
  have q4 := q3.forget h6
  exact ⟨q4.os, q4.tape, q4.output, q4.size, fun r hr hw => q4.keep r hr (fun ⟨b, y, g, r1, r2, r3, r4⟩ => hw ⟨b, y, g, hg b y r1, r2, r3, r4⟩),
    fun r hr hw => let ⟨b, y, g, r1, r2, r3, r4⟩ := q4.wr r hr hw; ⟨b, y, g, hg b y r1, r2, r3, r4⟩,
    fun r hr hk => let ⟨b, y, g, r1, r2, r3⟩ := q4.kn r hr hk; ⟨b, y, g, hg b y r1, r2, r3⟩, q4.pre⟩
end
end Go.Ev
/- The interpreter's heap beside blocks of which it knows nothing: a walk by hand that holds such blocks and hands calls to the interpreter in between. No program in sight. -/
namespace Go.Ev
open Go Go.RowKit
section
variable {P : Program} {ξ : Nat → Value} {G G' : Gh} {h h' : H} {w w' : World}
/-- whatever is done to blocks of which nothing is known -/
theorem Rep.other (R : Rep P ξ G h w) (hs : w.heap.size ≤ w'.heap.size) (hk : ∀ r, Kn G h r → w'.heap[r]? = w.heap[r]?) : Rep P ξ G h w' :=
  ⟨R.len, fun b g hb => Nat.lt_of_lt_of_le (R.lt b g hb) hs, fun b x hb => by
    obtain ⟨g, o, h1, h2, h3⟩ := R.blk b x hb
    exact ⟨g, o, h1, (hk g.addr ⟨b, x, g, hb, h1, rfl⟩).trans h2, h3⟩, R.inj⟩
theorem Rep.kn_lt (R : Rep P ξ G h w) {r : Nat} (hk : Kn G h r) : r < w.heap.size := by
  obtain ⟨b, x, g, _, h2, rfl⟩ := hk
  exact R.lt b g h2
/-- a block that is not known stays so, and is not touched -/
theorem Step.not_kn (s : Step G h w G' h' w') {r : Nat} (hr : r < w.heap.size) (hn : ¬ Kn G h r) : ¬ Kn G' h' r := fun hk => hn (s.kn r hr hk)
theorem Step.block (s : Step G h w G' h' w') {r : Nat} (hr : r < w.heap.size) (hn : ¬ Kn G h r) : w'.heap[r]? = w.heap[r]? :=
  s.keep r hr fun ⟨b, x, g, h1, _, h3, h4⟩ => hn ⟨b, x, g, h1, h3, h4⟩
/-- all that was there ahead of a base, and is not known, stays -/
theorem Step.below_of (s : Step G h w G' h' w') {B : Nat} (hB : B ≤ w.heap.size) (hn : ∀ r, r < B → ¬ Wr G h r) : Below B w w' :=
  ⟨s.os, s.tape, s.output, s.size, fun r hr => s.keep r (Nat.lt_of_lt_of_le hr hB) (hn r hr)⟩
end
end Go.Ev
