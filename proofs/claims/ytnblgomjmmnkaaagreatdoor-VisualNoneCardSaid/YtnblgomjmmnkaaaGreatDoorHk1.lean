/- Hooks of the interpreter whose contracts are walked: how a contract is handed over; maps.clone; lines.Split. No program in sight. -/
import Derived.Test.YtnblgomjmmnkaaaGreatDoorEvZ
import Derived.Test.YtnblgomjmmnkaaaGreatDoorSplt1
import Derived.Laws.AppendOwn
set_option linter.unusedVariables false
set_option linter.unusedSimpArgs false
namespace Go.Ev
open Go Go.RowKit
section
variable {P : Program} {ξ : Nat → Value} {G : Gh} {h h' : H} {w w' : World}
/-- blocks laid, nothing turned -/
theorem Rep.below (R : Rep P ξ G h w) (hb : Below w.heap.size w w') : Rep P ξ G h w' ∧ Step G h w G h w' :=
  ⟨⟨R.len, fun b g hg => Nat.lt_of_lt_of_le (R.lt b g hg) hb.size, fun b x hx => by
    obtain ⟨g, o, h1, h2, h3⟩ := R.blk b x hx
    exact ⟨g, o, h1, (hb.block _ (R.lt b g h1)).trans h2, h3⟩, R.inj⟩,
   ⟨hb.os, hb.tape, hb.output, hb.size, fun r hr _ => hb.block r hr, fun _ _ h => h, fun _ _ h => h, [], by simp⟩⟩
/-- and one of the new blocks is known -/
theorem Rep.fresh {x : Blk} {o : Obj} {g : GB} (R : Rep P ξ G h w) (hb : Below w.heap.size w w') (hn : h'.next = h.next + 1) (hg : ∀ j, h'.get j = if j = h.next then some x else h.get j) (ha : w.heap.size ≤ g.addr) (ho : w'.heap[g.addr]? = some o) (hB : BRep P ξ G g x o) :
    Rep P ξ (G ++ [some g]) h' w' ∧ Step G h w (G ++ [some g]) h' w' := by
  have hle : Le G (G ++ [some g]) := Le.append _ _
  have hnew : (G ++ [some g])[h.next]? = some (some g) := by rw [← R.len]; simp
  have hcase : ∀ b x' g', h'.get b = some x' → (G ++ [some g])[b]? = some (some g') → (b = h.next ∧ g' = g ∧ x' = x) ∨ (b ≠ h.next ∧ h.get b = some x' ∧ G[b]? = some (some g')) := by
    intro b x' g' h1 h2
    rw [hg] at h1
    by_cases hb : b = h.next
    · subst hb
      rw [if_pos rfl] at h1
      rw [hnew] at h2
      simp at h1 h2
      exact .inl ⟨rfl, h2.symm, h1.symm⟩
    · rw [if_neg hb] at h1
      have hlt := R.lt_next h1
      rw [List.getElem?_append_left (by rw [R.len]; exact hlt)] at h2
      exact .inr ⟨hb, h1, h2⟩
  have hlo : g.addr < w'.heap.size := (Array.getElem?_eq_some_iff.1 ho).1
  refine ⟨⟨by simp [R.len, hn], ?_, ?_, ?_⟩, ⟨hb.os, hb.tape, hb.output, hb.size, fun r hr _ => hb.block r hr, ?_, ?_, [some g], rfl⟩⟩
  · intro b g' hg'
    rw [List.getElem?_append] at hg'
    split at hg'
    · exact Nat.lt_of_lt_of_le (R.lt b g' hg') hb.size
    · rw [List.getElem?_singleton] at hg'
      split at hg'
      · simp at hg'; subst hg'; exact hlo
      · cases hg'
  · intro b x' hb'
    have hb2 := hb'
    rw [hg] at hb'
    by_cases he : b = h.next
    · subst he
      rw [if_pos rfl] at hb'
      simp at hb'
      subst hb'
      exact ⟨g, o, hnew, ho, hB.mono hle⟩
    · rw [if_neg he] at hb'
      obtain ⟨g', o', h1, h2, h3⟩ := R.blk b x' hb'
      exact ⟨g', o', hle.2 _ _ h1, (hb.block _ (R.lt _ _ h1)).trans h2, h3.mono hle⟩
  · intro b b' x1 x2 g1 g2 h1 h2 h3 h4 h5
    rcases hcase b x1 g1 h1 h3 with ⟨e1, e2, _⟩ | ⟨e1, e2, e3⟩ <;> rcases hcase b' x2 g2 h2 h4 with ⟨f1, f2, _⟩ | ⟨f1, f2, f3⟩
    · omega
    · subst e2; have := R.lt _ _ f3; omega
    · subst f2; have := R.lt _ _ e3; omega
    · exact R.inj b b' x1 x2 g1 g2 e2 f2 e3 f3 h5
  · rintro r hr ⟨b, x', g', h1, h2, h3, h4⟩
    rcases hcase b x' g' h1 h3 with ⟨e1, e2, _⟩ | ⟨e1, e2, e3⟩
    · subst e2; omega
    · exact ⟨b, x', g', e2, h2, e3, h4⟩
  · rintro r hr ⟨b, x', g', h1, h3, h4⟩
    rcases hcase b x' g' h1 h3 with ⟨e1, e2, _⟩ | ⟨e1, e2, e3⟩
    · subst e2; omega
    · exact ⟨b, x', g', e2, e3, h4⟩
/-- a row of the call's own that is handed back, its room unknown -/
theorem Rep.row {el n k : Nat} {cs : List V} {vals : List Value} {v : Value} (R : Rep P ξ G h w) (hb : Below w.heap.size w w') (hn : h'.next = h.next + 1) (hg : ∀ j, h'.get j = if j = h.next then some (.cells cs el .grow 0) else h.get j)
    (ho : w'.ownsRow w.heap.size el k v (n + 1) vals) (hk : P.cellsOf el = k) (hd : DenL ξ G cs vals) : ∃ G', Den ξ G' (.gsl h.next 0 (n + 1) (n + 1) 0) v ∧ Rep P ξ G' h' w' ∧ Step G h w G' h' w' := by
  obtain ⟨hl, ho⟩ := ho
  rcases ho with ⟨_, h0⟩ | ⟨g, cap, cur, rfl, hge, hgg, hc1, hc2, hcs, htake⟩
  · omega
  have hlen := hd.length
  have hB : BRep P ξ G ⟨g, 0, cap⟩ (.cells cs el .grow 0) (.cells cur el) := by
    refine ⟨cur, 0, 0, rfl, fun j u hu => ?_, ?_, ?_, .inl (Nat.zero_le _)⟩
    · obtain ⟨x, hx, hden⟩ := hd.get hu
      refine ⟨x, ?_, hden⟩
      have hj : j < vals.length := (List.getElem?_eq_some_iff.1 hx).1
      rw [← htake, List.getElem?_take] at hx
      split at hx
      · simpa using hx
      · cases hx
    · show 0 + cs.length ≤ cur.size
      rw [← hlen, hl, hcs, Nat.zero_add]
      exact Nat.mul_le_mul_right k hc1
    · show 0 + cap * P.cellsOf el ≤ cur.size
      rw [hk]; omega
  obtain ⟨q1, q2⟩ := R.fresh (g := ⟨g, 0, cap⟩) hb hn hg hge hgg hB
  refine ⟨_, ?_, q1, q2⟩
  simp only [Den]
  exact ⟨⟨g, 0, cap⟩, by rw [← R.len]; simp, by simpa using hc1, Nat.le_refl _, by simp⟩
/-- a contract that says 'nothing of what was there has turned' -/
theorem callW_of_below (hN : NoCount P) {f : FuncId} {fn : Func} {c : Code} (hf : P.funcs[f]? = some fn) (hb : fn.body = some c) {args : Array Value} {v : V} {x : Value} (R : Rep P ξ G h w) (hd : Den ξ G v x)
    (hc : Calls P f args w fun e w' => e = .returned x ∧ Below w.heap.size w w') : CallW P f args w (Post P ξ G h w v h) :=
  callW_of_calls hN hf hb (hc.mono fun e w' ⟨he, hbl⟩ => ⟨x, he, G, hd, (R.below hbl).1, (R.below hbl).2⟩)
/-! maps.clone -/
noncomputable def hMapCl : Hook := fun l h => match l with
  | [.iface t (.map b)] => hget h b (fun x => match x with
    | .map es c => hnew h (some (.map es c)) (fun b h => .ok (.iface t (.map b), h)) (.no 320)
    | _ => .no 320) (.no 320)
  | _ => .no 320
theorem mapCl_ok {f : Nat} (hE : Ext P f Extern.MapsClone.clone) : CallOk1 P f hMapCl := by
  intro l h v h' h0
  unfold hMapCl at h0
  split at h0
  case h_2 => cases h0
  rename_i t b
  obtain ⟨x, hx, h1⟩ := hget_ok h0
  split at h1
  case h_2 => cases h1
  rename_i es c
  obtain ⟨h2, h3, h4, h5, h6⟩ := hnew_ok h1
  cases h3
  refine ⟨h5, fun ξ G args w rp hG hd => ?_⟩
  simp only [DenL, Den] at hd
  obtain ⟨y, ys, e1, ⟨z, e2, g, hg, e3⟩, e4⟩ := hd
  obtain ⟨g', o, k1, k2, k3⟩ := rp.blk b _ hx
  rw [hg] at k1
  simp at k1
  subst k1
  obtain ⟨xs, k4, k5⟩ := k3
  subst k4
  have ea : args = #[.iface t (.map (some g.addr))] := by
    apply Array.toList_inj.1
    rw [e1, e2, e3, e4]
  subst ea
  obtain ⟨q1, q2⟩ := rp.new (d := w.drawn) (g := ⟨w.heap.size, 0, 0⟩) (o := .map xs c) h4 h6 rfl ⟨xs, rfl, k5⟩
  have hr : (Extern.MapsClone.clone #[.iface t (.map (some g.addr))]).run P w = .ok (.iface t (.map (some w.heap.size))) { w with heap := w.heap.push (.map xs c), drawn := w.drawn } := by
    have hdef : Extern.MapsClone.clone #[.iface t (.map (some g.addr))] = (do
      let .map entries clock ← getObj g.addr | stuck "maps.clone: a map expected"
      pure (.iface t (.map (some (← newObj (.map entries clock)))))) := rfl
    have hget : (getObj g.addr).run P w = .ok (.map xs c) w := by simp [getObj, Sem.run, k2]
    rw [hdef]
    simp [go_sem, hget]
  refine callW_ext hE hr ⟨_, ?_, q1, q2⟩
  simp only [Den]
  exact ⟨_, rfl, ⟨w.heap.size, 0, 0⟩, by rw [← rp.len]; simp, rfl⟩
/-! lines.Split -/
open Go.Ink in
def rowVs' (L : List (List UInt8 × Bool)) : List Value := L.map fun x => .string ⟨x.1.toArray⟩
def endF : List (List UInt8 × Bool) → Bool
  | [] => true
  | [x] => x.2
  | _ :: x :: l => endF (x :: l)
theorem endF_endedK : ∀ (L : List (List UInt8 × Bool)), Go.Ink.endedK L L.length = endF L
  | [] => rfl
  | [x] => rfl
  | x :: y :: l => by
    have ih := endF_endedK (y :: l)
    show (List.getD (x :: y :: l) (l.length + 1) ([], false)).2 = endF (y :: l)
    rw [← ih]
    rfl
/-- the lines of a text, and whether the last has an end -/
noncomputable def splitK {β : Type} (c : Nat) (n : Nat) : Nat → Nat → (List V → Bool → β) → β :=
  Nat.rec (motive := fun _ => Nat → Nat → (List V → Bool → β) → β) (fun m d K => cond (Nat.beq m 0) (K [] true) (K [.str m d] false))
    (fun i ih m d K => forceNat (Nat.mod (Nat.div c (Nat.pow 256 i)) 256) fun x => cond (Nat.beq x 10) (ih 0 0 fun l e => K (.str m d :: l) e) (forceNat (Nat.succ m) fun m => forceNat (Nat.add (Nat.mul d 256) x) fun d => ih m d K)) n
theorem splitK_ok {β : Type} (c : Nat) : ∀ (n m d : Nat) (K : List V → Bool → β), d < 256 ^ m → ∃ vs, splitK c n m d K = K vs (endF (Go.Ink.linesA (digs m d) (digs n c))) ∧ vs.length = (Go.Ink.linesA (digs m d) (digs n c)).length ∧ ∀ (ξ : Nat → Value) (G : Gh), DenL ξ G vs (rowVs' (Go.Ink.linesA (digs m d) (digs n c)))
  | 0, m, d, K, hd => by
    show ∃ vs, cond (Nat.beq m 0) (K [] true) (K [.str m d] false) = _ ∧ _
    cases m with
    | zero => exact ⟨[], rfl, rfl, fun ξ G => DenL.nil⟩
    | succ m =>
      have hne : digs (m + 1) d ≠ [] := by simp [digs]
      have e : Go.Ink.linesA (digs (m + 1) d) (digs 0 c) = [(digs (m + 1) d, false)] := by simp only [digs, Go.Ink.linesA]; rw [if_neg (by simp)]
      rw [e]
      exact ⟨[.str (m + 1) d], rfl, rfl, fun ξ G => DenL.one (by simp only [Den]; exact ⟨hd, trivial⟩)⟩
  | n + 1, m, d, K, hd => by
    have hx : c / 256 ^ n % 256 < 256 := Nat.mod_lt _ (by decide)
    have e0 : splitK c (n + 1) m d K = cond (Nat.beq (c / 256 ^ n % 256) 10) (splitK c n 0 0 fun l e => K (.str m d :: l) e) (splitK c n (m + 1) (d * 256 + c / 256 ^ n % 256) K) := by
      have u : splitK c (n + 1) m d K = forceNat (Nat.mod (Nat.div c (Nat.pow 256 n)) 256) fun x => cond (Nat.beq x 10) (splitK c n 0 0 fun l e => K (.str m d :: l) e) (forceNat (Nat.succ m) fun m => forceNat (Nat.add (Nat.mul d 256) x) fun d => splitK c n m d K) := rfl
      rw [u, forceNat_eq, forceNat_eq, forceNat_eq]
      rfl
    have e1 : digs (n + 1) c = UInt8.ofNat (c / 256 ^ n % 256) :: digs n c := rfl
    rw [e0, e1]
    cases hb : Nat.beq (c / 256 ^ n % 256) 10 with
    | true =>
      have h10 : c / 256 ^ n % 256 = 10 := Nat.eq_of_beq_eq_true hb
      obtain ⟨vs, q1, q2, q3⟩ := splitK_ok c n 0 0 (fun l e => K (.str m d :: l) e) (by decide)
      have e2 : Go.Ink.linesA (digs m d) (UInt8.ofNat (c / 256 ^ n % 256) :: digs n c) = (digs m d, true) :: Go.Ink.linesA [] (digs n c) := by rw [h10]; rfl
      have e3 : digs 0 0 = [] := rfl
      rw [e3] at q1 q2 q3
      rw [e2]
      refine ⟨.str m d :: vs, ?_, by simp [q2], fun ξ G => DenL.cons (by simp only [Den]; exact ⟨hd, trivial⟩) (q3 ξ G)⟩
      show splitK c n 0 0 _ = _
      rw [q1]
      cases Go.Ink.linesA [] (digs n c) <;> rfl
    | false =>
      have h10 : ¬ (UInt8.ofNat (c / 256 ^ n % 256)) = 10 := fun e => by
        have := u8_eq hx (show 10 < 256 by decide)
        rw [hb] at this
        rw [show (UInt8.ofNat 10) = 10 from rfl, e] at this
        simp at this
      have hlt : d * 256 + c / 256 ^ n % 256 < 256 ^ (m + 1) := by
        rw [Nat.pow_succ]
        have : d + 1 ≤ 256 ^ m := hd
        have := Nat.mul_le_mul_right 256 this
        omega
      obtain ⟨vs, q1, q2, q3⟩ := splitK_ok c n (m + 1) (d * 256 + c / 256 ^ n % 256) K hlt
      have e4 : digs (m + 1) (d * 256 + c / 256 ^ n % 256) = digs m d ++ [UInt8.ofNat (c / 256 ^ n % 256)] := by
        have := digs_append m d 1 (c / 256 ^ n % 256) (by simpa using hx)
        rw [Nat.pow_one] at this
        rw [this]
        simp [digs]
      have e2 : Go.Ink.linesA (digs m d) (UInt8.ofNat (c / 256 ^ n % 256) :: digs n c) = Go.Ink.linesA (digs m d ++ [UInt8.ofNat (c / 256 ^ n % 256)]) (digs n c) := by
        simp only [Go.Ink.linesA]; rw [if_neg h10]
      rw [e4] at q1 q2 q3
      rw [e2]
      exact ⟨vs, q1, q2, q3⟩
noncomputable def hSplt (el : Nat) : Hook := fun l h => match l with
  | [.str n c] => cond (Nat.ble n 1000000000) (splitK c n 0 0 fun l e => match l with
    | [] => .ok (.tup [.snil, .bool e], h)
    | l => llen l fun n => newG el .grow l n 0 h fun v h => .ok (.tup [v, .bool e], h)) (.no 325)
  | _ => .no 325
theorem split_ok (hN : NoCount P) {f el : Nat} {fn : Func} {c : Code} (hf : P.funcs[f]? = some fn) (hb : fn.body = some c) (hk : P.cellsOf el = 1)
    (hc : ∀ (t : List UInt8) (w : World), t.length ≤ 1000000000 → Calls P f #[.string ⟨t.toArray⟩] w fun e w' => ∃ v, e = .returned (.tuple #[v, .bool (Go.Ink.endedK (Go.Ink.linesA [] t) (Go.Ink.linesA [] t).length)]) ∧ w'.ownsRow w.heap.size el 1 v (Go.Ink.linesA [] t).length (rowVs' (Go.Ink.linesA [] t)) ∧ (Go.Ink.linesA [] t = [] → v = .slice none 0 0) ∧ Below w.heap.size w w') : CallOk1 P f (hSplt el) := by
  intro l h v h' h0
  unfold hSplt at h0
  split at h0
  case h_2 => cases h0
  rename_i n cc
  cases hbn : Nat.ble n 1000000000 with
  | false => rw [hbn] at h0; cases h0
  | true =>
    rw [hbn] at h0
    have hn : n ≤ 1000000000 := Nat.le_of_ble_eq_true hbn
    obtain ⟨vs, q1, q2, q3⟩ := splitK_ok cc n 0 0 (fun l e => match l with
      | [] => R.ok (V.tup [.snil, .bool e], h)
      | l => llen l fun n => newG el .grow l n 0 h fun v h => .ok (.tup [v, .bool e], h)) (by decide)
    have h1 : splitK cc n 0 0 _ = R.ok (v, h') := h0
    rw [q1] at h1
    have e3 : digs 0 0 = [] := rfl
    rw [e3] at h1 q2 q3
    have hlen : (digs n cc).length ≤ 1000000000 := by rw [digs_length]; exact hn
    have main : ∀ (ξ : Nat → Value) (G : Gh) (args : Array Value) (w : World), DenL ξ G [.str n cc] args.toList → Calls P f args w fun e w' => ∃ v, e = .returned (.tuple #[v, .bool (endF (Go.Ink.linesA [] (digs n cc)))]) ∧ w'.ownsRow w.heap.size el 1 v (Go.Ink.linesA [] (digs n cc)).length (rowVs' (Go.Ink.linesA [] (digs n cc))) ∧ (Go.Ink.linesA [] (digs n cc) = [] → v = .slice none 0 0) ∧ Below w.heap.size w w' := fun ξ G args w hd => by
      simp only [DenL, Den] at hd
      obtain ⟨y, ys, e1, ⟨_, e2⟩, e4⟩ := hd
      have ea : args = #[.string ⟨(digs n cc).toArray⟩] := by
        apply Array.toList_inj.1
        rw [e1, e2, e4]
      subst ea
      have := hc (digs n cc) w hlen
      rw [endF_endedK] at this
      exact this
    generalize Go.Ink.linesA [] (digs n cc) = L at *
    cases vs with
    | nil =>
      cases h1
      refine ⟨rfl, fun ξ G args w rp hG hd => callW_of_calls hN hf hb ((main ξ G args w hd).mono fun e w' ⟨v, he, _, hz, hbl⟩ => ⟨_, he, G, ?_, (rp.below hbl).1, (rp.below hbl).2⟩)⟩
      have hL : L = [] := List.length_eq_zero_iff.1 (by rw [← q2]; rfl)
      rw [hz hL]
      simp only [Den]
      exact ⟨_, rfl, DenL.cons (by simp [Den]) (DenL.one (by simp [Den]))⟩
    | cons x vs =>
      simp only at h1
      rw [llen_eq] at h1
      obtain ⟨h2, h3, h4, h5, h6⟩ := hnew_ok h1
      cases h3
      refine ⟨h5, fun ξ G args w rp hG hd => callW_of_calls hN hf hb ((main ξ G args w hd).mono fun e w' ⟨v, he, ho, _, hbl⟩ => ?_)⟩
      rw [← q2, List.length_cons] at ho
      obtain ⟨G', k1, k2, k3⟩ := rp.row hbl h4 h6 ho hk (q3 ξ G)
      refine ⟨_, he, G', ?_, k2, k3⟩
      simp only [Den]
      exact ⟨_, rfl, DenL.cons (by simpa using k1) (DenL.one (by simp [Den]))⟩
end
end Go.Ev
