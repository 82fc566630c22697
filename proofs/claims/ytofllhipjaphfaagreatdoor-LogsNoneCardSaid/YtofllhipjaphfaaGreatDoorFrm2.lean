/- The laws over frames, in plain Lean (chapter 04). No program in sight. -/
import Derived.Test.YtofllhipjaphfaaGreatDoorFrm1
namespace Go.Proofs.YtofllhipjaphfaaGreatDoor
open Go

theorem whole_way {s : List UInt8} (hs : s.length ≤ 9223372036854775807) : ∃ e : Nat, (wholeS s).2 = e ∧ e ≤ s.length ∧ e = (framesB (wholeS s).1).length ∧ s = framesB (wholeS s).1 ++ s.drop e ∧ (∀ p ∈ (wholeS s).1, p.length ≤ maxFrame) ∧ nextS s e = none := by
  obtain ⟨e, h1, _, h3, h4, h5, h6, h7⟩ := wholeR_way hs _ 0 (Nat.le_refl _) (by omega)
  exact ⟨e, h1, h3, by rw [Nat.zero_add] at h4; exact h4, by rw [List.drop_zero] at h5; exact h5, h6, h7⟩
theorem whole_front {s : List UInt8} (hs : s.length ≤ 9223372036854775807) {e : Nat} (he : (wholeS s).2 = e) : s.take e = framesB (wholeS s).1 := by
  obtain ⟨e', h1, h2, h3, h4, _⟩ := whole_way hs
  obtain rfl : e = e' := by omega
  generalize (wholeS s).1 = l at *
  rw [h3]
  conv => lhs; rw [h4]
  rw [List.take_left]
theorem whole_of {l : List (List UInt8)} {r : List UInt8} (hs : (framesB l ++ r).length ≤ 9223372036854775807) (hl : ∀ p ∈ l, p.length ≤ maxFrame) (hn : nextS (framesB l ++ r) ((framesB l).length : Nat) = none) : wholeS (framesB l ++ r) = (l, ((framesB l).length : Int)) := by
  have h := wholeR_of hs l 0 r (by omega) hl (by simp)
  unfold wholeS
  simp only [Int.natCast_zero, Int.zero_add] at h
  rw [wholeR_eq hs ((framesB l).length : Int) (by omega), hn] at h
  simpa using h
/-- Nothing stands in no bytes. -/
theorem nextS_end {s : List UInt8} (hs : s.length ≤ 9223372036854775807) : nextS s s.length = none := by
  cases h : nextS s s.length with
  | none => rfl
  | some x => have := nextS_in hs (p := x.1) (j := x.2) h; omega
/-- From frame to frame. -/
theorem walk_step {s : List UInt8} (hs : s.length ≤ 9223372036854775807) {k : Nat} {p : List UInt8} (hk : (wholeS s).1[k]? = some p) :
    nextS s ((framesB ((wholeS s).1.take k)).length : Int) = some (p, ((framesB ((wholeS s).1.take (k + 1))).length : Int)) ∧ (framesB ((wholeS s).1.take k)).length + 10 ≤ (framesB ((wholeS s).1.take (k + 1))).length ∧ (framesB ((wholeS s).1.take (k + 1))).length ≤ s.length := by
  obtain ⟨e, h1, h2, h3, h4, h5, h6⟩ := whole_way hs
  generalize (wholeS s).1 = l at *
  obtain ⟨hkl, rfl⟩ := List.getElem?_eq_some_iff.1 hk
  have e1 : framesB (l.take (k + 1)) = framesB (l.take k) ++ frameB l[k] := by
    rw [List.take_succ_eq_append_getElem hkl, framesB_append, framesB_cons]
    simp [framesB]
  have e2 : s = framesB (l.take k) ++ (frameB l[k] ++ (framesB (l.drop (k + 1)) ++ s.drop e)) := by
    conv => lhs; rw [h4]
    rw [← List.append_assoc, ← e1, ← List.append_assoc, ← framesB_append, List.take_append_drop]
  have hd : s.drop (framesB (l.take k)).length = frameB l[k] ++ (framesB (l.drop (k + 1)) ++ s.drop e) := by
    conv => lhs; rw [e2]
    rw [List.drop_left]
  have hle : (framesB (l.take k)).length ≤ s.length := by
    have := congrArg List.length e2
    rw [List.length_append] at this; omega
  have hg := frameB_ge l[k]
  have hn := (nextS_iff hs hle l[k] _).2 ⟨h5 _ (List.getElem_mem hkl), rfl, _, hd⟩
  have hle2 := (nextS_in hs hn).2.2
  refine ⟨?_, by rw [e1, List.length_append]; omega, by rw [e1, List.length_append]; omega⟩
  rw [hn, e1, List.length_append, Int.natCast_add]
theorem frames_prefix : ∀ {l P : List (List UInt8)} {x : List UInt8}, (framesB P).length ≤ 9223372036854775807 → framesB l ++ x = framesB P → l = P.take l.length ∧ l.length ≤ P.length ∧ x = framesB (P.drop l.length)
  | [], P, x, _, h => by simpa [framesB] using h
  | p :: l, [], x, hs, h => by
    rw [framesB_cons, List.append_assoc] at h
    have := congrArg List.length h
    have := frameB_ge p
    simp only [framesB, List.map_nil, List.flatten_nil, List.length_nil, List.length_append] at *
    omega
  | p :: l, q :: P, x, hs, h => by
    rw [framesB_cons, framesB_cons, List.append_assoc] at h
    obtain ⟨hpq, h'⟩ := frameB_apart (by rw [h, ← framesB_cons]; exact hs) h
    subst hpq
    obtain ⟨h1, h2, h3⟩ := frames_prefix (by rw [framesB_cons, List.length_append] at hs; omega) h'
    refine ⟨by rw [List.length_cons, List.take_succ_cons, ← h1], by simp only [List.length_cons]; omega, by rw [List.length_cons, List.drop_succ_cons]; exact h3⟩
/-- Behind frames alone something else. -/
theorem nextS_shift {t m : List UInt8} (hs : (t ++ m).length ≤ 9223372036854775807) {k : Nat} (hk : k ≤ m.length) (h : nextS m k = none) : nextS (t ++ m) ((t.length + k : Nat) : Int) = none := by
  rw [List.length_append] at hs
  cases hx : nextS (t ++ m) ((t.length + k : Nat) : Int) with
  | none => rfl
  | some x =>
    exfalso
    obtain ⟨p, j⟩ := x
    obtain ⟨h1, rfl, r, hr⟩ := (nextS_iff (by rw [List.length_append]; exact hs) (by rw [List.length_append]; omega) p j).1 hx
    rw [← List.drop_drop, List.drop_left] at hr
    have := (nextS_iff (by omega) hk p ((k : Int) + (frameB p).length)).2 ⟨h1, rfl, r, hr⟩
    rw [h] at this
    cases this
theorem grow_way {t m : List UInt8} (hs : (t ++ m).length ≤ 9223372036854775807) : (∃ x, (wholeS (t ++ m)).1 = (wholeS t).1 ++ x) ∧ (wholeS t).2 ≤ (wholeS (t ++ m)).2 ∧
    ((wholeS t).2 = t.length → (wholeS (t ++ m)).1 = (wholeS t).1 ++ (wholeS m).1 ∧ (wholeS (t ++ m)).2 = (wholeS t).2 + (wholeS m).2) := by
  have hs' := hs
  rw [List.length_append] at hs'
  obtain ⟨e, h1, h2, h3, h4, h5, h6⟩ := whole_way (s := t) (by omega)
  have hd : (t ++ m).drop 0 = framesB (wholeS t).1 ++ (t.drop e ++ m) := by
    rw [List.drop_zero]
    conv => lhs; rw [h4]
    rw [List.append_assoc]
  have h := wholeR_of hs (wholeS t).1 0 _ (by omega) h5 hd
  rw [Int.natCast_zero, Int.zero_add, ← h3] at h
  have h' : wholeS (t ++ m) = ((wholeS t).1 ++ (wholeR (t ++ m) e).1, (wholeR (t ++ m) e).2) := h
  have hle : e ≤ (t ++ m).length := by rw [List.length_append]; omega
  obtain ⟨e2, g1, g2, g3, _⟩ := wholeR_way hs _ e (Nat.le_refl _) hle
  rw [h']
  refine ⟨⟨_, rfl⟩, by simp only [h1, g1]; omega, fun ht => ?_⟩
  have het : e = t.length := by omega
  obtain ⟨k, k1, k2, k3, k4, k5, k6⟩ := whole_way (s := m) (by omega)
  have hm : wholeR (t ++ m) e = ((wholeS m).1, ((e + k : Nat) : Int)) := by
    have hd2 : (t ++ m).drop e = framesB (wholeS m).1 ++ m.drop k := by rw [het, List.drop_left]; exact k4
    have g := wholeR_of hs (wholeS m).1 e _ hle k5 hd2
    rw [← k3] at g
    have hn := nextS_shift hs k2 k6
    rw [← het] at hn
    rw [← Int.natCast_add, wholeR_eq hs ((e + k : Nat) : Int) (by omega), hn] at g
    simpa using g
  rw [hm]
  simp only [h1, k1, true_and]
  omega
theorem drop_way {P : List (List UInt8)} (hs : (framesB P).length ≤ 9223372036854775807) (hp : ∀ p ∈ P, p.length ≤ maxFrame) (left : Nat) (hl : left ≤ (framesB P).length) :
    (wholeS ((framesB P).take left)).1 = P.take (wholeS ((framesB P).take left)).1.length ∧ (wholeS ((framesB P).take left)).1.length ≤ P.length ∧ (wholeS ((framesB P).take left)).2 ≤ left ∧ 0 ≤ (wholeS ((framesB P).take left)).2 ∧
    ((wholeS ((framesB P).take left)).1.length = P.length → (wholeS ((framesB P).take left)).2 = (framesB P).length) ∧
    ∀ p, P[(wholeS ((framesB P).take left)).1.length]? = some p → (left : Int) < (wholeS ((framesB P).take left)).2 + (frameB p).length := by
  have hsl : ((framesB P).take left).length = left := by rw [List.length_take]; omega
  have hss : ((framesB P).take left).length ≤ 9223372036854775807 := by omega
  obtain ⟨e, h1, h2, h3, h4, h5, h6⟩ := whole_way hss
  have hrow : framesB (wholeS ((framesB P).take left)).1 ++ (((framesB P).take left).drop e ++ (framesB P).drop left) = framesB P := by
    rw [← List.append_assoc, ← h4, List.take_append_drop]
  generalize (wholeS ((framesB P).take left)).1 = l at *
  obtain ⟨g1, g2, g3⟩ := frames_prefix hs hrow
  rw [h1]
  refine ⟨g1, g2, by omega, by omega, fun hq => ?_, fun p hpk => ?_⟩
  · have : l = P := by rw [g1, hq, List.take_length]
    rw [h3, this]
  · rcases Nat.lt_or_ge left (e + (frameB p).length) with hlt | hge
    · omega
    · exfalso
      obtain ⟨hkl, rfl⟩ := List.getElem?_eq_some_iff.1 hpk
      rw [List.drop_eq_getElem_cons hkl, framesB_cons] at g3
      have hlen : (frameB P[l.length]).length ≤ (((framesB P).take left).drop e).length := by rw [List.length_drop, hsl]; omega
      have ht := congrArg (List.take (((framesB P).take left).drop e).length) g3
      rw [List.take_left, List.take_append, List.take_of_length_le hlen] at ht
      have := (nextS_iff hss h2 P[l.length] _).2 ⟨hp _ (List.getElem_mem hkl), rfl, _, ht⟩
      rw [h6] at this
      cases this

/-! ### One frame -/
def count10 : List UInt8 → Nat
  | [] => 0
  | c :: l => (if c = 10 then 1 else 0) + count10 l
theorem count10_append : ∀ (a b : List UInt8), count10 (a ++ b) = count10 a + count10 b
  | [], b => by simp [count10]
  | c :: a, b => by simp only [List.cons_append, count10, count10_append a b]; omega
theorem count10_none : ∀ {l : List UInt8}, (10 : UInt8) ∉ l → count10 l = 0
  | [], _ => rfl
  | c :: l, h => by
    rw [List.mem_cons, not_or] at h
    unfold count10
    rw [if_neg (fun e => h.1 e.symm), count10_none h.2]
theorem putN_no10 (n : Int) (h : 0 ≤ n) : (10 : UInt8) ∉ putN n := by
  unfold putN
  rw [if_neg (by omega), List.mem_append, not_or]
  refine ⟨fun hm => ?_, by decide⟩
  have := itoa_bytes n h 10 hm
  have h10 : (10 : UInt8).toNat = 10 := rfl
  omega
theorem line_count (p : List UInt8) : count10 (frameB p) = count10 p + 1 := by
  unfold frameB putT tailB
  rw [count10_append, count10_append, count10_append, count10_none (putN_no10 _ (by omega)), count10_none (hex8_no _)]
  simp [count10]
theorem frame_last (p : List UInt8) : (frameB p)[(frameB p).length - 1]? = some 10 := by
  unfold frameB tailB
  rw [← List.append_assoc, List.length_append, List.length_singleton, Nat.add_sub_cancel, List.getElem?_append_right (Nat.le_refl _), Nat.sub_self]
  rfl
theorem frame_head (p : List UInt8) : (frameB p).take ((putN p.length).length + p.length) = putN p.length ++ p := by
  have : (putT p).length = (putN p.length).length + p.length := by unfold putT; rw [List.length_append]
  rw [← this]
  unfold frameB
  rw [List.take_left]; rfl
/-- A frame whose length tells one more, or one less. -/
theorem frame_more (p : List UInt8) (hp : p.length ≤ 20000) : nextS (putN ((p.length : Int) + 1) ++ (p ++ tailB p)) 0 = none := by
  cases h : nextS (putN ((p.length : Int) + 1) ++ (p ++ tailB p)) ((0 : Nat) : Int) with
  | none => rfl
  | some x =>
    exfalso
    obtain ⟨q, j⟩ := x
    have hl := putN_le ((p.length : Int) + 1) (by omega)
    have hs : (putN ((p.length : Int) + 1) ++ (p ++ tailB p)).length ≤ 9223372036854775807 := by simp only [List.length_append, tailB_len]; omega
    obtain ⟨h1, _, r, hr⟩ := (nextS_iff hs (by omega) q j).1 h
    rw [List.drop_zero] at hr
    unfold frameB putT at hr
    simp only [List.append_assoc] at hr
    have hq : (q.length : Int) ≤ 9223372036854775807 := by unfold maxFrame at h1; omega
    obtain ⟨e1, e2⟩ := putN_inj (by omega) (by omega) (by omega) hq hr
    have := congrArg List.length e2
    simp only [List.length_append, tailB_len] at this
    omega
theorem frame_less (p : List UInt8) (hp : p.length ≤ 20000) (h0 : 0 < p.length) : nextS (putN ((p.length : Int) - 1) ++ (p ++ tailB p)) 0 = none := by
  cases h : nextS (putN ((p.length : Int) - 1) ++ (p ++ tailB p)) ((0 : Nat) : Int) with
  | none => rfl
  | some x =>
    exfalso
    obtain ⟨q, j⟩ := x
    have hl := putN_le ((p.length : Int) - 1) (by omega)
    have hs : (putN ((p.length : Int) - 1) ++ (p ++ tailB p)).length ≤ 9223372036854775807 := by simp only [List.length_append, tailB_len]; omega
    obtain ⟨h1, _, r, hr⟩ := (nextS_iff hs (by omega) q j).1 h
    rw [List.drop_zero] at hr
    unfold frameB putT at hr
    simp only [List.append_assoc] at hr
    have hq : (q.length : Int) ≤ 9223372036854775807 := by unfold maxFrame at h1; omega
    obtain ⟨e1, e2⟩ := putN_inj (by omega) (by omega) (by omega) hq hr
    have hx : (p ++ tailB p)[p.length + 7]? = (q ++ (tailB q ++ r))[p.length + 7]? := by rw [e2]
    rw [List.getElem?_append_right (by omega), List.getElem?_append_right (by omega), List.getElem?_append_left (by rw [tailB_len]; omega), show p.length + 7 - p.length = 7 by omega, show p.length + 7 - q.length = 8 by omega] at hx
    have ha : (tailB p)[7]? = some (hexD (sumN p % 16)) := rfl
    have hb : (tailB q)[8]? = some 10 := rfl
    rw [ha, hb] at hx
    injection hx with hx
    exact hexD_ne _ (by omega) hx
/-- A byte of it that is another one, from its payload on. -/
theorem frame_turned (p : List UInt8) (hp : p.length ≤ 20000) (k : Nat) (c d : UInt8) (hk : (p ++ tailB p)[k]? = some c) (hd : d ≠ c) : nextS (putN p.length ++ (p ++ tailB p).set k d) 0 = none := by
  cases h : nextS (putN p.length ++ (p ++ tailB p).set k d) ((0 : Nat) : Int) with
  | none => rfl
  | some x =>
    exfalso
    obtain ⟨q, j⟩ := x
    have hl := putN_le (p.length : Int) (by omega)
    have hs : (putN p.length ++ (p ++ tailB p).set k d).length ≤ 9223372036854775807 := by simp only [List.length_append, List.length_set, tailB_len]; omega
    obtain ⟨h1, _, r, hr⟩ := (nextS_iff hs (by omega) q j).1 h
    rw [List.drop_zero] at hr
    unfold frameB putT at hr
    simp only [List.append_assoc] at hr
    have hq : (q.length : Int) ≤ 9223372036854775807 := by unfold maxFrame at h1; omega
    obtain ⟨e1, e2⟩ := putN_inj (by omega) (by omega) (by omega) hq hr
    have hqp : q.length = p.length := by omega
    have hrl := congrArg List.length e2
    simp only [List.length_append, List.length_set, tailB_len] at hrl
    have hr0 : r = [] := List.eq_nil_of_length_eq_zero (by omega)
    subst hr0
    rw [List.append_nil] at e2
    rcases Nat.lt_or_ge k p.length with hkp | hkp
    · rw [List.set_append_left _ _ hkp] at e2
      obtain ⟨e3, e4⟩ := List.append_inj e2 (by rw [List.length_set]; omega)
      rw [List.getElem?_append_left hkp] at hk
      have e5 : hex8 (sumN p) = hex8 (sumN q) := by
        unfold tailB at e4
        exact List.append_cancel_right e4
      have e6 := hex8_inj (sumN_lt p) (sumN_lt q) e5
      rw [← e3] at e6
      obtain ⟨hkl, rfl⟩ := List.getElem?_eq_some_iff.1 hk
      have hsp : p = p.take k ++ p[k] :: p.drop (k + 1) := by rw [← List.drop_eq_getElem_cons hkl, List.take_append_drop]
      have hst : p.set k d = p.take k ++ d :: p.drop (k + 1) := List.set_eq_take_append_cons_drop .. |>.trans (if_pos hkl)
      rw [hst] at e6
      have e7 : sumN p = sumN (p.take k ++ p[k] :: p.drop (k + 1)) := congrArg sumN hsp
      rw [e7] at e6
      exact sumN_turned _ _ _ _ (fun e => hd e.symm) e6
    · rw [List.set_append_right _ _ hkp] at e2
      obtain ⟨e3, e4⟩ := List.append_inj e2 hqp.symm
      subst e3
      rw [List.getElem?_append_right hkp] at hk
      have hx : ((tailB p).set (k - p.length) d)[k - p.length]? = some c := by rw [e4]; exact hk
      rw [List.getElem?_set_self (List.getElem?_eq_some_iff.1 hk).1] at hx
      injection hx with hx
      exact hd hx
end Go.Proofs.YtofllhipjaphfaaGreatDoor
