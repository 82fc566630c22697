/- A hook of the interpreter: a call at arguments of which it is known that it answers true (proved apart, one by one). No program in sight. -/
import Derived.Test.YtnblgomjmmnkaaaGreatDoorHk1
set_option linter.unusedVariables false
set_option linter.unusedSimpArgs false
namespace Go.Ev
open Go Go.RowKit
section
variable {P : Program}
/-- a closed call at plain arguments that answers true -/
theorem true_args (hN : NoCount P) (hm : P.follows .mixedOrders = true) {hooks dhooks : List (Nat × Hook)} (hh : ∀ p ∈ hooks, CallOk1 P p.1 p.2) (hd : ∀ p ∈ dhooks, DefOk1 P p.1 p.2) {cf fuel f : Nat} {l : List V} {h : H}
    (h0 : isTrue (runTop P hooks dhooks cf fuel f l h) = true) (hr : RoH h) {ξ : Nat → Value} {G : Gh} {w : World} {args : Array Value} (rp : Rep P ξ G h w) (hG : GlobOk P G) (ha : DenL ξ G l args.toList) :
    Calls P f args w fun e w' => e = .returned (.bool true) ∧ Below w.heap.size w w' := by
  obtain ⟨h', h1⟩ := isTrue_ok h0
  refine (runTop_calls hN hm hh hd h1 _ G args w rp hG ha).mono fun e w' ⟨x, he, G', q1, q2, q3⟩ => ?_
  simp only [Den] at q1
  subst q1
  exact ⟨he, q3.below hr⟩
/-- values that no memory is behind -/
def flat : V → Bool
  | .bool _ => true
  | .int .. => true
  | .str .. => true
  | _ => false
theorem flat_den {ξ ξ' : Nat → Value} {G G' : Gh} {v : V} {x : Value} (hf : flat v = true) (h : Den ξ G v x) : Den ξ' G' v x := by
  cases v <;> first | (simp only [Den] at h ⊢; exact h) | cases hf
theorem flats_den {ξ ξ' : Nat → Value} {G G' : Gh} : ∀ {l : List V} {xs : List Value}, l.all flat = true → DenL ξ G l xs → DenL ξ' G' l xs
  | [], _, _, h => by simpa [DenL] using h
  | v :: l, _, hf, h => by
    rw [List.all_cons, Bool.and_eq_true] at hf
    simp only [DenL] at h ⊢
    obtain ⟨x, xs, h1, h2, h3⟩ := h
    exact ⟨x, xs, h1, flat_den hf.1 h2, flats_den hf.2 h3⟩
theorem glob_size {ξ : Nat → Value} {G : Gh} {h : H} {w : World} (rp : Rep P ξ G h w) (hG : GlobOk P G) {n : Nat} (hn : P.globals.size = n) : n ≤ w.heap.size := by
  cases n with
  | zero => exact Nat.zero_le _
  | succ n =>
    obtain ⟨c, hc⟩ := hG n (by omega)
    exact rp.lt n _ hc
noncomputable def hMemo (tbl : List (List V)) : Hook := fun l h => cond (tbl.any (vEqs l)) (.ok (.bool true, h)) (.no 330)
theorem memo_ok (hN : NoCount P) (hm : P.follows .mixedOrders = true) {hooks dhooks : List (Nat × Hook)} (hh : ∀ p ∈ hooks, CallOk1 P p.1 p.2) (hd : ∀ p ∈ dhooks, DefOk1 P p.1 p.2) {cf fuel f n : Nat} {fn : Func} {c : Code} (hf : P.funcs[f]? = some fn) (hb : fn.body = some c) (hn : P.globals.size = n)
    {tbl : List (List V)} (ht : ∀ l ∈ tbl, isTrue (runTop P hooks dhooks cf fuel f l (h0 n)) = true) (hp : ∀ l ∈ tbl, l.all flat = true) : CallOk1 P f (hMemo tbl) := by
  intro l h v h' h0
  unfold hMemo at h0
  cases hq : tbl.any (vEqs l) with
  | false => rw [hq] at h0; cases h0
  | true =>
    rw [hq] at h0
    cases h0
    obtain ⟨l', hl', he⟩ := List.any_eq_true.1 hq
    cases vEqs_eq he
    refine ⟨rfl, fun ξ G args w rp hG hda => ?_⟩
    refine callW_of_below hN hf hb rp (by simp [Den]) (true_args hN hm hh hd (ht l hl') (vars_ro n) (ξ := fun _ => undef) (vars_rep (glob_size rp hG hn)) (vars_glob hn) (flats_den (hp l hl') hda))
/-! tables: variables that stand as the program's start lays them -/
theorem vars_repT {ξ : Nat → Value} {n : Nat} {h : H} {w : World} (hs : n ≤ w.heap.size) (hn : h.next = n) (hk : ∀ b x, h.get b = some x → b < n ∧ ∃ o, w.heap[b]? = some o ∧ BRep P ξ (vars n) ⟨b, 0, 0⟩ x o) : Rep P ξ (vars n) h w := by
  have hv : ∀ b (g : GB), (vars n)[b]? = some (some g) → b < n ∧ g = ⟨b, 0, 0⟩ := fun b g hb => by
    simp only [vars, List.getElem?_map, Option.map_eq_some_iff] at hb
    obtain ⟨a, h1, h2⟩ := hb
    rw [List.getElem?_eq_some_iff] at h1
    obtain ⟨h1, h3⟩ := h1
    simp at h1 h3 h2
    subst h3 h2
    exact ⟨h1, rfl⟩
  refine ⟨by simp [vars, hn], fun b g hb => ?_, fun b x hb => ?_, fun b b' x x' g g' _ _ h3 h4 h5 => ?_⟩
  · obtain ⟨h1, rfl⟩ := hv b g hb
    show b < _
    omega
  · obtain ⟨h1, o, h2, h3⟩ := hk b x hb
    exact ⟨⟨b, 0, 0⟩, o, by simp [vars, h1], h2, h3⟩
  · obtain ⟨_, rfl⟩ := hv b g h3
    obtain ⟨_, rfl⟩ := hv b' g' h4
    exact h5
/-- a variable g of type t that holds these numbers, to be read alone; nothing else is known -/
def tabBlk (t : Nat) (cs : List V) : Blk := .cells cs t .ro 0
theorem row_get {n : Nat} {l : List (Option Blk)} (hl : l.length ≤ 8) {b : Nat} {x : Blk} (h : (⟨n, [[l]], []⟩ : H).get b = some x) : l[b]? = some (some x) := by
  have h1 : ((((([[l]] : List (List (List (Option Blk))))[b / 64]?).bind (·[b % 64 / 8]?)).bind (·[b % 8]?)).bind id) = some x := h
  cases h64 : b / 64 with
  | succ k => rw [h64] at h1; simp at h1
  | zero =>
    rw [h64] at h1
    cases h8 : b % 64 / 8 with
    | succ k => rw [h8] at h1; simp at h1
    | zero =>
      rw [h8] at h1
      simp only [List.getElem?_cons_zero, Option.bind_some] at h1
      have e : b % 8 = b := by omega
      rw [e] at h1
      cases hq : l[b]? with
      | none => rw [hq] at h1; cases h1
      | some y => rw [hq] at h1; simp at h1; rw [h1]
def OneTab (l : List (Option Blk)) (g t : Nat) (cs : List V) : Prop := l.length ≤ 8 ∧ ∀ b x, l[b]? = some (some x) → b = g ∧ x = tabBlk t cs
theorem tab_rep {ξ : Nat → Value} {n g t : Nat} {cs : List V} {l : List (Option Blk)} {w : World} (hs : n ≤ w.heap.size) (hg : g < n) (hl : OneTab l g t cs) (hw : ∃ o, w.heap[g]? = some o ∧ BRep P ξ (vars n) ⟨g, 0, 0⟩ (tabBlk t cs) o) : Rep P ξ (vars n) ⟨n, [[l]], []⟩ w :=
  vars_repT hs rfl fun b x hb => by
    obtain ⟨rfl, rfl⟩ := hl.2 b x (row_get hl.1 hb)
    exact ⟨hg, hw⟩
theorem tab_ro {n g t : Nat} {cs : List V} {l : List (Option Blk)} (hl : OneTab l g t cs) : RoH ⟨n, [[l]], []⟩ := fun b x hb hw => by
  obtain ⟨rfl, rfl⟩ := hl.2 b x (row_get hl.1 hb)
  exact hw
/-- a call at arguments of which it is known that it answers true, where a table stands -/
noncomputable def hMemoT (g t : Nat) (cs : List V) (tbl : List (List V)) : Hook := fun l h => cond (tbl.any (vEqs l)) (hget h g (fun x => match x with
    | .cells cs' t' .ro _ => cond (Nat.beq t t') (cond (vEqs cs cs') (.ok (.bool true, h)) (.no 331)) (.no 331)
    | _ => .no 331) (.no 331)) (.no 330)
theorem memoT_ok (hN : NoCount P) (hm : P.follows .mixedOrders = true) {hooks dhooks : List (Nat × Hook)} (hh : ∀ p ∈ hooks, CallOk1 P p.1 p.2) (hd : ∀ p ∈ dhooks, DefOk1 P p.1 p.2) {cf fuel f n g t : Nat} {cs : List V} {lr : List (Option Blk)} {fn : Func} {c : Code} (hf : P.funcs[f]? = some fn) (hb : fn.body = some c) (hn : P.globals.size = n)
    (hg : g < n) (hl : OneTab lr g t cs) (hcs : cs.all flat = true) {tbl : List (List V)} (ht : ∀ l ∈ tbl, isTrue (runTop P hooks dhooks cf fuel f l ⟨n, [[lr]], []⟩) = true) (hp : ∀ l ∈ tbl, l.all flat = true) : CallOk1 P f (hMemoT g t cs tbl) := by
  intro l h v h' h0
  unfold hMemoT at h0
  cases hq : tbl.any (vEqs l) with
  | false => rw [hq] at h0; cases h0
  | true =>
    rw [hq] at h0
    obtain ⟨x, hx, h1⟩ := hget_ok (h := h) (b := g) (e := 331) h0
    split at h1
    case h_2 => cases h1
    rename_i cs' t' fz
    obtain ⟨e1, h2⟩ := cond_ok (c := 331) h1
    obtain ⟨e2, h3⟩ := cond_ok (c := 331) h2
    cases Nat.eq_of_beq_eq_true e1
    cases vEqs_eq e2
    cases h3
    obtain ⟨l', hl', he⟩ := List.any_eq_true.1 hq
    cases vEqs_eq he
    refine ⟨rfl, fun ξ G args w rp hG hda => ?_⟩
    obtain ⟨g0, o, k1, k2, k3⟩ := rp.blk g _ hx
    obtain ⟨c0, hc0⟩ := hG g (by omega)
    rw [hc0] at k1
    simp at k1
    subst k1
    have hw : ∃ o, w.heap[g]? = some o ∧ BRep P (fun _ => undef) (vars n) ⟨g, 0, 0⟩ (tabBlk t cs) o := by
      refine ⟨o, k2, ?_⟩
      obtain ⟨arr, lo, hi, r1, r2, r3, _⟩ := k3
      refine ⟨arr, lo, hi, r1, fun i u hu => ?_, r3, rfl⟩
      obtain ⟨y, hy, hden⟩ := r2 i u hu
      exact ⟨y, hy, flat_den (List.all_eq_true.1 hcs u (List.mem_of_getElem? hu)) hden⟩
    refine callW_of_below hN hf hb rp (by simp [Den]) (true_args hN hm hh hd (ht l hl') (tab_ro hl) (ξ := fun _ => undef) (tab_rep (glob_size rp hG hn) hg hl hw) (vars_glob hn) (flats_den (hp l hl') hda))
end
end Go.Ev
