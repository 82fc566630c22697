/- A hook of the interpreter: a call at three plain arguments and a slice of plain values, of which it is known that it answers true (proved apart, one by one), where a table stands. No program in sight. -/
import Derived.Test.YtdljidgmdjndgaaGreatDoorHk2
namespace Go.Ev
open Go Go.RowKit
section
variable {P : Program}
/-- the heap of such a call: a table, and behind the variables the slice's row -/
def slHeap (n : Nat) (lr : List (Option Blk)) (el : Nat) (cs : List V) : H := ⟨n + 1, [[lr ++ [some (tabBlk el cs)]]], []⟩
theorem slHeap_get {n el g t : Nat} {lr : List (Option Blk)} {cs ts : List V} (hn : lr.length = n) (h8 : n < 8) (hl : OneTab lr g t ts) {b : Nat} {x : Blk} (h : (slHeap n lr el cs).get b = some x) : (b = g ∧ x = tabBlk t ts) ∨ (b = n ∧ x = tabBlk el cs) := by
  have h1 := row_get (n := n + 1) (by rw [List.length_append, hn]; simp; omega) h
  rw [List.getElem?_append] at h1
  split at h1
  · exact .inl (hl.2 b x h1)
  · rename_i hlt
    rw [List.getElem?_singleton] at h1
    split at h1
    · rename_i h0
      refine .inr ⟨by omega, ?_⟩
      simp at h1
      exact h1.symm
    · cases h1
theorem slHeap_ro {n el g t : Nat} {lr : List (Option Blk)} {cs ts : List V} (hn : lr.length = n) (h8 : n < 8) (hl : OneTab lr g t ts) : RoH (slHeap n lr el cs) := fun b x hb hw => by
  rcases slHeap_get hn h8 hl hb with ⟨_, rfl⟩ | ⟨_, rfl⟩ <;> exact hw
theorem slHeap_rep {ξ : Nat → Value} {n el g t a : Nat} {lr : List (Option Blk)} {cs ts : List V} {w : World} (hn : lr.length = n) (h8 : n < 8) (hl : OneTab lr g t ts) (hs : n ≤ w.heap.size) (hg : g < n) (ha : a < w.heap.size) (hga : g ≠ a) (hcs : cs.all flat = true) (hts : ts.all flat = true)
    (hw : ∃ o ξ' G', w.heap[g]? = some o ∧ BRep P ξ' G' ⟨g, 0, 0⟩ (tabBlk t ts) o) (hx : ∃ o ξ' G', w.heap[a]? = some o ∧ BRep P ξ' G' ⟨a, 0, 0⟩ (tabBlk el cs) o) : Rep P ξ (vars n ++ [some ⟨a, 0, 0⟩]) (slHeap n lr el cs) w := by
  have hv : ∀ {b : Nat}, b < n → (vars n ++ [some (⟨a, 0, 0⟩ : GB)])[b]? = some (some ⟨b, 0, 0⟩) := fun {b} hb => by
    rw [List.getElem?_append_left (by simp [vars]; exact hb)]
    simp [vars, hb]
  have hlast : (vars n ++ [some (⟨a, 0, 0⟩ : GB)])[n]? = some (some ⟨a, 0, 0⟩) := by
    rw [List.getElem?_append_right (by simp [vars])]
    simp [vars]
  have flatB : ∀ {ξ' : Nat → Value} {G' G : Gh} {g0 : GB} {tt : Nat} {l : List V} {o : Obj}, l.all flat = true → BRep P ξ' G' g0 (tabBlk tt l) o → BRep P ξ G g0 (tabBlk tt l) o := by
    rintro ξ' G' G g0 tt l o hf ⟨arr, lo, hi, r1, r2, r3, r4⟩
    refine ⟨arr, lo, hi, r1, fun i u hu => ?_, r3, r4⟩
    obtain ⟨y, hy, hden⟩ := r2 i u hu
    exact ⟨y, hy, flat_den (List.all_eq_true.1 hf u (List.mem_of_getElem? hu)) hden⟩
  obtain ⟨o1, ξ1, G1, w1, b1⟩ := hw
  obtain ⟨o2, ξ2, G2, w2, b2⟩ := hx
  refine ⟨by simp [vars, slHeap], fun b gb hb => ?_, fun b x hb => ?_, fun b b' x x' g1 g2 h1 h2 h3 h4 h5 => ?_⟩
  · rcases Nat.lt_or_ge b n with h | h
    · rw [hv h] at hb
      cases hb
      exact Nat.lt_of_lt_of_le h hs
    · rcases Nat.eq_or_lt_of_le h with rfl | h
      · rw [hlast] at hb; cases hb; exact ha
      · rw [List.getElem?_eq_none (by simp [vars]; omega)] at hb; cases hb
  · rcases slHeap_get hn h8 hl hb with ⟨rfl, rfl⟩ | ⟨rfl, rfl⟩
    · exact ⟨_, o1, hv hg, w1, flatB hts b1⟩
    · exact ⟨_, o2, hlast, w2, flatB hcs b2⟩
  · rcases slHeap_get hn h8 hl h1 with ⟨rfl, _⟩ | ⟨rfl, _⟩ <;> rcases slHeap_get hn h8 hl h2 with ⟨rfl, _⟩ | ⟨rfl, _⟩
    · rfl
    · rw [hv hg] at h3; rw [hlast] at h4; cases h3; cases h4; exact absurd h5 hga
    · rw [hlast] at h3; rw [hv hg] at h4; cases h3; cases h4; exact absurd h5.symm hga
    · rfl
noncomputable def hMemoS (g t el : Nat) (ts : List V) (tbl : List (List V × List V)) : Hook := fun l h => match l with
  | [x, y, z, .slice k 0 n m] => hget h k (fun q => match q with
    | .cells ds e .own _ => cond (Nat.beq e el) (cond (Nat.beq k g) (.no 333) (cond (tbl.any fun p => cond (vEqs p.1 [x, y, z]) (cond (vEqs p.2 ds) (cond (Nat.beq n p.2.length) (Nat.beq m p.2.length) false) false) false)
      (hget h g (fun x => match x with
        | .cells cs' t' .ro _ => cond (Nat.beq t t') (cond (vEqs ts cs') (.ok (.bool true, h)) (.no 331)) (.no 331)
        | _ => .no 331) (.no 331)) (.no 332))) (.no 334)
    | _ => .no 334) (.no 334)
  | _ => .no 335
theorem memoS_ok (hN : NoCount P) (hm : P.follows .mixedOrders = true) {cf fuel f n g t el : Nat} {ts : List V} {lr : List (Option Blk)} {fn : Func} {c : Code} (hf : P.funcs[f]? = some fn) (hb : fn.body = some c) (hn : P.globals.size = n)
    (hlr : lr.length = n) (h8 : n < 8) (hg : g < n) (hl : OneTab lr g t ts) (hts : ts.all flat = true) {tbl : List (List V × List V)} (ht : ∀ p ∈ tbl, ∃ hooks dhooks : List (Nat × Hook), (∀ p ∈ hooks, CallOk1 P p.1 p.2) ∧ (∀ p ∈ dhooks, DefOk1 P p.1 p.2) ∧ isTrue (runTop P hooks dhooks cf fuel f (p.1 ++ [.slice n 0 p.2.length p.2.length]) (slHeap n lr el p.2)) = true) (hp : ∀ p ∈ tbl, p.1.all flat = true ∧ p.2.all flat = true) : CallOk1 P f (hMemoS g t el ts tbl) := by
  intro l h v h' h0
  unfold hMemoS at h0
  split at h0
  case h_2 => cases h0
  rename_i x y z k n1 m1
  obtain ⟨q, hq, h1⟩ := hget_ok (e := 334) h0
  split at h1
  case h_2 => cases h1
  rename_i ds e fz
  obtain ⟨e1, h2⟩ := cond_ok (c := 334) h1
  obtain ⟨e2, h3⟩ := cond_no (c := 333) h2
  obtain ⟨e3, h4⟩ := cond_ok (c := 332) h3
  cases Nat.eq_of_beq_eq_true e1
  obtain ⟨p, hpt, e4⟩ := List.any_eq_true.1 e3
  obtain ⟨e5, e6⟩ := cond_and e4
  obtain ⟨e7, e8⟩ := cond_and e6
  obtain ⟨e9, e10⟩ := cond_and e8
  obtain ⟨p1, p2⟩ := p
  simp only at e5 e7 e9 e10
  cases vEqs_eq e5
  cases vEqs_eq e7
  cases Nat.eq_of_beq_eq_true e9
  cases Nat.eq_of_beq_eq_true e10
  obtain ⟨xt, hxt, h5⟩ := hget_ok (e := 331) h4
  split at h5
  case h_2 => cases h5
  rename_i cs' t' fz'
  obtain ⟨e11, h6⟩ := cond_ok (c := 331) h5
  obtain ⟨e12, h7⟩ := cond_ok (c := 331) h6
  cases Nat.eq_of_beq_eq_true e11
  cases vEqs_eq e12
  cases h7
  refine ⟨rfl, fun ξ G args w rp hG hda => ?_⟩
  obtain ⟨gk, ok, k1, k2, arr, lo, hi, k3, k4, k5, k6, k7⟩ := rp.blk k _ hq
  obtain ⟨gk', ga, gc⟩ := gk
  simp only at k6
  subst k6
  obtain ⟨g0, o, r1, r2, r3⟩ := rp.blk g _ hxt
  obtain ⟨c0, hc0⟩ := hG g (by omega)
  rw [hc0] at r1
  simp at r1
  subst r1
  have hne : g ≠ gk' := fun e => by
    have := rp.inj g k _ _ _ _ hxt hq hc0 k1 e
    rw [this, Nat.beq_refl] at e2
    cases e2
  have hR : Rep P (fun _ => undef) (vars n ++ [some ⟨gk', 0, 0⟩]) (slHeap n lr el ds) w :=
    slHeap_rep hlr h8 hl (glob_size rp hG hn) hg (Array.getElem?_eq_some_iff.1 k2).1 hne (hp _ hpt).2 hts ⟨o, ξ, G, r2, by
      obtain ⟨a1, a2, a3, a4, a5, a6, _⟩ := r3
      exact ⟨a1, a2, a3, a4, a5, a6, rfl⟩⟩ ⟨ok, ξ, G, k2, arr, lo, hi, k3, k4, k5, rfl⟩
  have hGl : GlobOk P (vars n ++ [some ⟨gk', 0, 0⟩]) := fun b hb' => ⟨0, by
    rw [hn] at hb'
    rw [List.getElem?_append_left (by simp [vars]; exact hb')]
    simp [vars, hb']⟩
  have hlast : (vars n ++ [some (⟨gk', 0, 0⟩ : GB)])[n]? = some (some ⟨gk', 0, 0⟩) := by
    rw [List.getElem?_append_right (by simp [vars])]
    simp [vars]
  have hd3 : DenL (fun _ => undef) (vars n ++ [some ⟨gk', 0, 0⟩]) ([x, y, z] ++ [.slice n 0 ds.length ds.length]) args.toList := by
    have hfl := (hp _ hpt).1
    simp only [List.all_cons, List.all_nil, Bool.and_true, Bool.and_eq_true] at hfl
    simp only [DenL] at hda
    obtain ⟨a0, l0, q1, q2, a1, l1, q3, q4, a2, l2, q5, q6, a3, l3, q7, q8, q9⟩ := hda
    simp only [Den] at q8
    obtain ⟨gg, q10, q11⟩ := q8
    rw [k1] at q10
    cases q10
    rw [q1, q3, q5, q7, q9, q11]
    exact DenL.cons (flat_den hfl.1 q2) (DenL.cons (flat_den hfl.2.1 q4) (DenL.cons (flat_den hfl.2.2 q6) (DenL.one (by simp only [Den]; exact ⟨_, hlast, rfl⟩))))
  obtain ⟨hooks, dhooks, hh, hd, hrun⟩ := ht _ hpt
  exact callW_of_below hN hf hb rp (by simp [Den]) (true_args hN hm hh hd hrun (slHeap_ro hlr h8 hl) hR hGl hd3)
end
end Go.Ev
