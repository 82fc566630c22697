/- Words' motions, in plain Lean (chapter 27). No program in sight. -/
import Derived.Lib.ItoaNum
set_option linter.unusedVariables false
set_option linter.unusedSimpArgs false
namespace Go.Proofs.YtopbpmcanhbklaaGreatDoor
open Go

/-- A place: a line's number less one, and how many bytes stand ahead. -/
abbrev Pl := Nat × Nat
def kindB (c : UInt8) (big : Bool) : Nat :=
  if c = 32 ∨ c = 9 then 0 else if big = true ∨ c = 95 ∨ (48 ≤ c ∧ c ≤ 57) ∨ (97 ≤ c ∧ c ≤ 122) ∨ (65 ≤ c ∧ c ≤ 90) then 1 else 2
def lnL (ls : List (List UInt8)) (i : Nat) : List UInt8 := ls.getD i []
def atK (ls : List (List UInt8)) (big : Bool) (p : Pl) : Nat := if lnL ls p.1 = [] then 0 else kindB ((lnL ls p.1).getD p.2 0) big
def onP (ls : List (List UInt8)) (p : Pl) : Pl × Bool :=
  if p.2 + 1 < (lnL ls p.1).length then ((p.1, p.2 + 1), true) else if p.1 + 1 < ls.length then ((p.1 + 1, 0), true) else (p, false)
def backP (ls : List (List UInt8)) (p : Pl) : Pl × Bool :=
  if 0 < p.2 then ((p.1, p.2 - 1), true) else if 0 < p.1 then ((p.1 - 1, (lnL ls (p.1 - 1)).length - 1), true) else (p, false)
/-- A place that is there. -/
def Okp (ls : List (List UInt8)) (p : Pl) : Prop := p.1 < ls.length ∧ (p.2 = 0 ∨ p.2 < (lnL ls p.1).length)
/-- How many places stand ahead of a line. -/
def aheadN : List (List UInt8) → Nat → Nat
  | [], _ => 0
  | _, 0 => 0
  | l :: ls, k + 1 => max l.length 1 + aheadN ls k
def idx (ls : List (List UInt8)) (p : Pl) : Nat := aheadN ls p.1 + p.2
theorem aheadN_next : ∀ (ls : List (List UInt8)) (k : Nat), k < ls.length → aheadN ls (k + 1) = aheadN ls k + max (lnL ls k).length 1
  | [], k, h => by simp at h
  | l :: ls, 0, _ => by
    cases ls <;> simp [aheadN, lnL]
  | l :: ls, k + 1, h => by
    have ih := aheadN_next ls k (by simpa using h)
    show max l.length 1 + aheadN ls (k + 1) = max l.length 1 + aheadN ls k + max (lnL (l :: ls) (k + 1)).length 1
    rw [ih]
    have e : lnL (l :: ls) (k + 1) = lnL ls k := by simp [lnL]
    rw [e]; omega
theorem aheadN_mono (ls : List (List UInt8)) : ∀ (a b : Nat), a ≤ b → b ≤ ls.length → aheadN ls a ≤ aheadN ls b
  | a, 0, h, _ => by
    have : a = 0 := by omega
    subst this; exact Nat.le_refl _
  | a, b + 1, h, hb => by
    by_cases e : a = b + 1
    · subst e; exact Nat.le_refl _
    · have := aheadN_mono ls a b (by omega) (by omega)
      have := aheadN_next ls b (by omega)
      omega
def allN (ls : List (List UInt8)) : Nat := aheadN ls ls.length
theorem idx_lt {ls : List (List UInt8)} {p : Pl} (h : Okp ls p) : idx ls p < allN ls := by
  have h1 := aheadN_next ls p.1 h.1
  have h2 := aheadN_mono ls (p.1 + 1) ls.length h.1 (Nat.le_refl _)
  have h3 := h.2
  unfold idx allN
  omega
theorem idx_inj {ls : List (List UInt8)} {p q : Pl} (hp : Okp ls p) (hq : Okp ls q) (h : idx ls p = idx ls q) : p = q := by
  have key : ∀ {p q : Pl}, Okp ls p → Okp ls q → p.1 < q.1 → idx ls p < idx ls q := by
    intro p q hp hq hlt
    have h1 := aheadN_next ls p.1 hp.1
    have h2 := aheadN_mono ls (p.1 + 1) q.1 hlt (by have := hq.1; omega)
    have h3 := hp.2
    unfold idx
    omega
  obtain ⟨a, b⟩ := p
  obtain ⟨c, d⟩ := q
  by_cases e : a = c
  · subst e
    unfold idx at h
    simp only at h
    have : b = d := by omega
    subst this; rfl
  · rcases Nat.lt_or_gt_of_ne e with h' | h'
    · have := key hp hq h'; omega
    · have := key hq hp h'; omega
theorem on_ok {ls : List (List UInt8)} {p : Pl} (h : Okp ls p) : Okp ls (onP ls p).1 ∧ ((onP ls p).2 = true → idx ls (onP ls p).1 = idx ls p + 1) ∧ ((onP ls p).2 = false → (onP ls p).1 = p ∧ idx ls p + 1 = allN ls) := by
  unfold onP
  by_cases h1 : p.2 + 1 < (lnL ls p.1).length
  · rw [if_pos h1]
    refine ⟨⟨h.1, .inr h1⟩, fun _ => ?_, fun e => by simp at e⟩
    unfold idx; simp only; omega
  · rw [if_neg h1]
    have h3 := aheadN_next ls p.1 h.1
    have h4 := h.2
    by_cases h2 : p.1 + 1 < ls.length
    · rw [if_pos h2]
      refine ⟨⟨h2, .inl rfl⟩, fun _ => ?_, fun e => by simp at e⟩
      unfold idx; simp only; omega
    · rw [if_neg h2]
      refine ⟨h, fun e => by simp at e, fun _ => ⟨rfl, ?_⟩⟩
      have e : ls.length = p.1 + 1 := by have := h.1; omega
      unfold idx allN
      rw [e]; omega
theorem back_ok {ls : List (List UInt8)} {p : Pl} (h : Okp ls p) : Okp ls (backP ls p).1 ∧ ((backP ls p).2 = true → idx ls (backP ls p).1 + 1 = idx ls p) ∧ ((backP ls p).2 = false → (backP ls p).1 = p ∧ idx ls p = 0 ∧ p = (0, 0)) := by
  unfold backP
  by_cases h1 : 0 < p.2
  · rw [if_pos h1]
    refine ⟨⟨h.1, ?_⟩, fun _ => ?_, fun e => by simp at e⟩
    · have := h.2; simp only; omega
    · unfold idx; simp only; omega
  · rw [if_neg h1]
    by_cases h2 : 0 < p.1
    · rw [if_pos h2]
      have h3 := aheadN_next ls (p.1 - 1) (by have := h.1; omega)
      rw [show p.1 - 1 + 1 = p.1 by omega] at h3
      refine ⟨⟨by have := h.1; simp only; omega, ?_⟩, fun _ => ?_, fun e => by simp at e⟩
      · simp only; omega
      · unfold idx; simp only; omega
    · rw [if_neg h2]
      have e : p = (0, 0) := by
        obtain ⟨a, b⟩ := p
        simp only at h1 h2
        have : a = 0 := by omega
        have : b = 0 := by omega
        subst_vars; rfl
      refine ⟨h, fun e => by simp at e, fun _ => ⟨rfl, ?_, e⟩⟩
      rw [e]
      unfold idx
      cases ls <;> rfl

/-! ### The loops, with fuel -/
/-- On, while the bytes are of the kind k, in the line. -/
def wd1 (ls : List (List UInt8)) (big : Bool) (k from_ : Nat) : Nat → Pl → Bool → Pl × Bool
  | 0, p, ok => (p, ok)
  | f + 1, p, ok => if ok = true ∧ 0 < k ∧ p.1 = from_ ∧ atK ls big p = k then (if (onP ls p).1.1 ≠ from_ then onP ls p else wd1 ls big k from_ f (onP ls p).1 (onP ls p).2) else (p, ok)
/-- On, while there are blanks; an empty line ends that, but the first one. -/
def wd2 (ls : List (List UInt8)) (big : Bool) (from_ : Nat) : Nat → Pl → Bool → Pl × Bool
  | 0, p, ok => (p, ok)
  | f + 1, p, ok => if ok = true ∧ atK ls big p = 0 ∧ (lnL ls p.1 ≠ [] ∨ p.1 = from_) then wd2 ls big from_ f (onP ls p).1 (onP ls p).2 else (p, ok)
def wordP (ls : List (List UInt8)) (big : Bool) (p : Pl) : Pl × Bool :=
  wd2 ls big p.1 (allN ls) (wd1 ls big (atK ls big p) p.1 (allN ls) p true).1 (wd1 ls big (atK ls big p) p.1 (allN ls) p true).2
/-- Back, while there are blanks. -/
def b1 (ls : List (List UInt8)) (big : Bool) : Nat → Pl → Bool → Pl × Bool
  | 0, p, ok => (p, ok)
  | f + 1, p, ok => if ok = true ∧ atK ls big p = 0 ∧ lnL ls p.1 ≠ [] then b1 ls big f (backP ls p).1 (backP ls p).2 else (p, ok)
/-- Back in the line, while the byte ahead is of the kind k. -/
def b2 (ls : List (List UInt8)) (big : Bool) (k i : Nat) : Nat → Nat
  | 0 => 0
  | c + 1 => if 0 < k ∧ kindB ((lnL ls i).getD c 0) big = k then b2 ls big k i c else c + 1
def aheadP (ls : List (List UInt8)) (big : Bool) (p : Pl) : Pl × Bool :=
  if (backP ls p).2 = false then backP ls p
  else
    let s := b1 ls big (allN ls) (backP ls p).1 true
    ((s.1.1, b2 ls big (atK ls big s.1) s.1.1 s.1.2), s.2)
/-- On, while there are blanks and empty lines. -/
def e1 (ls : List (List UInt8)) (big : Bool) : Nat → Pl → Bool → Pl × Bool
  | 0, p, ok => (p, ok)
  | f + 1, p, ok => if ok = true ∧ atK ls big p = 0 then e1 ls big f (onP ls p).1 (onP ls p).2 else (p, ok)
/-- On in the line, while the next byte is of the kind k. -/
def e2 (ls : List (List UInt8)) (big : Bool) (k i : Nat) : Nat → Nat → Nat
  | 0, c => c
  | f + 1, c => if 0 < k ∧ c + 1 < (lnL ls i).length ∧ kindB ((lnL ls i).getD (c + 1) 0) big = k then e2 ls big k i f (c + 1) else c
def endsP (ls : List (List UInt8)) (big : Bool) (p : Pl) : Pl × Bool :=
  if (onP ls p).2 = false then onP ls p
  else
    let s := e1 ls big (allN ls) (onP ls p).1 true
    ((s.1.1, e2 ls big (atK ls big s.1) s.1.1 (lnL ls s.1.1).length s.1.2), s.2)

theorem wd1_succ (ls : List (List UInt8)) (big : Bool) (k from_ f : Nat) (p : Pl) (ok : Bool) : wd1 ls big k from_ (f + 1) p ok = if ok = true ∧ 0 < k ∧ p.1 = from_ ∧ atK ls big p = k then (if (onP ls p).1.1 ≠ from_ then onP ls p else wd1 ls big k from_ f (onP ls p).1 (onP ls p).2) else (p, ok) := rfl
theorem wd2_succ (ls : List (List UInt8)) (big : Bool) (from_ f : Nat) (p : Pl) (ok : Bool) : wd2 ls big from_ (f + 1) p ok = if ok = true ∧ atK ls big p = 0 ∧ (lnL ls p.1 ≠ [] ∨ p.1 = from_) then wd2 ls big from_ f (onP ls p).1 (onP ls p).2 else (p, ok) := rfl
/-! ### What the loops lead to -/
theorem wd1_ok {ls : List (List UInt8)} {big : Bool} {k from_ : Nat} : ∀ (f : Nat) (p : Pl) (ok : Bool), Okp ls p → (ok = false → idx ls p + 1 = allN ls) →
    Okp ls (wd1 ls big k from_ f p ok).1 ∧ idx ls p ≤ idx ls (wd1 ls big k from_ f p ok).1 ∧ ((wd1 ls big k from_ f p ok).2 = false → idx ls (wd1 ls big k from_ f p ok).1 + 1 = allN ls)
  | 0, p, ok, h, ho => ⟨h, Nat.le_refl _, ho⟩
  | f + 1, p, ok, h, ho => by
    obtain ⟨h1, h2, h3⟩ := on_ok h
    have hle : idx ls p ≤ idx ls (onP ls p).1 := by
      cases hb : (onP ls p).2 with
      | true => have := h2 hb; omega
      | false => rw [(h3 hb).1]; exact Nat.le_refl _
    have hlast : (onP ls p).2 = false → idx ls (onP ls p).1 + 1 = allN ls := fun hb => by rw [(h3 hb).1]; exact (h3 hb).2
    unfold wd1
    split
    · split
      · exact ⟨h1, hle, hlast⟩
      · obtain ⟨a, b, c⟩ := wd1_ok f (onP ls p).1 (onP ls p).2 h1 hlast
        exact ⟨a, Nat.le_trans hle b, c⟩
    · exact ⟨h, Nat.le_refl _, ho⟩
theorem wd2_ok {ls : List (List UInt8)} {big : Bool} {from_ : Nat} : ∀ (f : Nat) (p : Pl) (ok : Bool), Okp ls p → (ok = false → idx ls p + 1 = allN ls) →
    Okp ls (wd2 ls big from_ f p ok).1 ∧ idx ls p ≤ idx ls (wd2 ls big from_ f p ok).1 ∧ ((wd2 ls big from_ f p ok).2 = false → idx ls (wd2 ls big from_ f p ok).1 + 1 = allN ls)
  | 0, p, ok, h, ho => ⟨h, Nat.le_refl _, ho⟩
  | f + 1, p, ok, h, ho => by
    obtain ⟨h1, h2, h3⟩ := on_ok h
    have hle : idx ls p ≤ idx ls (onP ls p).1 := by
      cases hb : (onP ls p).2 with
      | true => have := h2 hb; omega
      | false => rw [(h3 hb).1]; exact Nat.le_refl _
    have hlast : (onP ls p).2 = false → idx ls (onP ls p).1 + 1 = allN ls := fun hb => by rw [(h3 hb).1]; exact (h3 hb).2
    unfold wd2
    split
    · obtain ⟨a, b, c⟩ := wd2_ok f (onP ls p).1 (onP ls p).2 h1 hlast
      exact ⟨a, Nat.le_trans hle b, c⟩
    · exact ⟨h, Nat.le_refl _, ho⟩
theorem e1_ok {ls : List (List UInt8)} {big : Bool} : ∀ (f : Nat) (p : Pl) (ok : Bool), Okp ls p → (ok = false → idx ls p + 1 = allN ls ∧ atK ls big p = 0) →
    Okp ls (e1 ls big f p ok).1 ∧ idx ls p ≤ idx ls (e1 ls big f p ok).1 ∧ ((e1 ls big f p ok).2 = false → idx ls (e1 ls big f p ok).1 + 1 = allN ls ∧ atK ls big (e1 ls big f p ok).1 = 0)
  | 0, p, ok, h, ho => ⟨h, Nat.le_refl _, ho⟩
  | f + 1, p, ok, h, ho => by
    obtain ⟨h1, h2, h3⟩ := on_ok h
    have hle : idx ls p ≤ idx ls (onP ls p).1 := by
      cases hb : (onP ls p).2 with
      | true => have := h2 hb; omega
      | false => rw [(h3 hb).1]; exact Nat.le_refl _
    unfold e1
    split
    · rename_i hc
      have hlast : (onP ls p).2 = false → idx ls (onP ls p).1 + 1 = allN ls ∧ atK ls big (onP ls p).1 = 0 := fun hb => by rw [(h3 hb).1]; exact ⟨(h3 hb).2, hc.2⟩
      obtain ⟨a, b, c⟩ := e1_ok f (onP ls p).1 (onP ls p).2 h1 hlast
      exact ⟨a, Nat.le_trans hle b, c⟩
    · exact ⟨h, Nat.le_refl _, ho⟩
theorem b1_ok {ls : List (List UInt8)} {big : Bool} : ∀ (f : Nat) (p : Pl) (ok : Bool), Okp ls p → (ok = false → p = (0, 0) ∧ atK ls big p = 0) →
    Okp ls (b1 ls big f p ok).1 ∧ idx ls (b1 ls big f p ok).1 ≤ idx ls p ∧ ((b1 ls big f p ok).2 = false → (b1 ls big f p ok).1 = (0, 0) ∧ atK ls big (b1 ls big f p ok).1 = 0)
  | 0, p, ok, h, ho => ⟨h, Nat.le_refl _, ho⟩
  | f + 1, p, ok, h, ho => by
    obtain ⟨h1, h2, h3⟩ := back_ok h
    have hle : idx ls (backP ls p).1 ≤ idx ls p := by
      cases hb : (backP ls p).2 with
      | true => have := h2 hb; omega
      | false => rw [(h3 hb).1]; exact Nat.le_refl _
    unfold b1
    split
    · rename_i hc
      have hlast : (backP ls p).2 = false → (backP ls p).1 = (0, 0) ∧ atK ls big (backP ls p).1 = 0 := fun hb => by rw [(h3 hb).1]; exact ⟨(h3 hb).2.2, hc.2.1⟩
      obtain ⟨a, b, c⟩ := b1_ok f (backP ls p).1 (backP ls p).2 h1 hlast
      exact ⟨a, Nat.le_trans b hle, c⟩
    · exact ⟨h, Nat.le_refl _, ho⟩
theorem b2_le {ls : List (List UInt8)} {big : Bool} {k i : Nat} : ∀ c, b2 ls big k i c ≤ c
  | 0 => Nat.le_refl _
  | c + 1 => by
    unfold b2
    split
    · have := b2_le (ls := ls) (big := big) (k := k) (i := i) c; omega
    · exact Nat.le_refl _
theorem e2_ok {ls : List (List UInt8)} {big : Bool} {k i : Nat} : ∀ f c, c ≤ e2 ls big k i f c ∧ (c = 0 ∨ c < (lnL ls i).length → e2 ls big k i f c = 0 ∨ e2 ls big k i f c < (lnL ls i).length)
  | 0, c => ⟨Nat.le_refl _, fun h => h⟩
  | f + 1, c => by
    unfold e2
    split
    · rename_i h
      have := e2_ok (ls := ls) (big := big) (k := k) (i := i) f (c + 1)
      exact ⟨by omega, fun _ => this.2 (.inr h.2.1)⟩
    · exact ⟨Nat.le_refl _, fun h => h⟩

/-! ### A step's laws -/
structure StepLaw (ls : List (List UInt8)) (r : Pl → Nat) (step : Pl → Pl × Bool) : Prop where
  ok : ∀ p, Okp ls p → Okp ls (step p).1
  on : ∀ p, Okp ls p → (step p).2 = true → r p < r (step p).1
  off : ∀ p, Okp ls p → (step p).2 = false → (step (step p).1).1 = (step p).1
  le : ∀ p, Okp ls p → (step p).1 = p ∨ r p < r (step p).1
/-- At the last place nothing is further. -/
theorem on_last {ls : List (List UInt8)} {p : Pl} (h : Okp ls p) (hl : idx ls p + 1 = allN ls) : onP ls p = (p, false) := by
  obtain ⟨h1, h2, h3⟩ := on_ok h
  cases hb : (onP ls p).2 with
  | true =>
    have := h2 hb
    have := idx_lt h1
    omega
  | false =>
    have := (h3 hb).1
    exact Prod.ext this hb
theorem wd1_last {ls : List (List UInt8)} {big : Bool} {k : Nat} {p : Pl} (h : Okp ls p) (hl : idx ls p + 1 = allN ls) : ∀ f ok, (wd1 ls big k p.1 f p ok).1 = p
  | 0, _ => rfl
  | f + 1, ok => by
    unfold wd1
    rw [on_last h hl]
    split
    · split
      · rfl
      · exact wd1_last h hl f false
    · rfl
theorem wd2_last {ls : List (List UInt8)} {big : Bool} {from_ : Nat} {p : Pl} (h : Okp ls p) (hl : idx ls p + 1 = allN ls) : ∀ f ok, (wd2 ls big from_ f p ok).1 = p
  | 0, _ => rfl
  | f + 1, ok => by
    unfold wd2
    rw [on_last h hl]
    split
    · exact wd2_last h hl f false
    · rfl
theorem wd2_off {ls : List (List UInt8)} {big : Bool} {from_ : Nat} : ∀ f (p : Pl), wd2 ls big from_ f p false = (p, false)
  | 0, _ => rfl
  | f + 1, p => by unfold wd2; rw [if_neg (by simp)]
theorem wd1_off {ls : List (List UInt8)} {big : Bool} {k from_ : Nat} : ∀ f (p : Pl), wd1 ls big k from_ f p false = (p, false)
  | 0, _ => rfl
  | f + 1, p => by unfold wd1; rw [if_neg (by simp)]
theorem all_pos {ls : List (List UInt8)} {p : Pl} (h : Okp ls p) : ∃ n, allN ls = n + 1 := ⟨allN ls - 1, by have := idx_lt h; omega⟩
theorem word_law (ls : List (List UInt8)) (big : Bool) : StepLaw ls (idx ls) (wordP ls big) := by
  have base : ∀ p, Okp ls p → Okp ls (wordP ls big p).1 ∧ idx ls p ≤ idx ls (wordP ls big p).1 ∧ ((wordP ls big p).2 = false → idx ls (wordP ls big p).1 + 1 = allN ls) := by
    intro p h
    obtain ⟨a1, a2, a3⟩ := wd1_ok (big := big) (k := atK ls big p) (from_ := p.1) (allN ls) p true h (fun e => by simp at e)
    obtain ⟨c1, c2, c3⟩ := wd2_ok (big := big) (from_ := p.1) (allN ls) _ _ a1 a3
    exact ⟨c1, Nat.le_trans a2 c2, c3⟩
  have strict : ∀ p, Okp ls p → (wordP ls big p).2 = true → idx ls p < idx ls (wordP ls big p).1 := by
    intro p h hb
    obtain ⟨n, hn⟩ := all_pos h
    obtain ⟨h1, h2, h3⟩ := on_ok h
    unfold wordP at hb ⊢
    by_cases hk : atK ls big p = 0
    · -- blanks: the second loop goes on at once
      have e : wd1 ls big (atK ls big p) p.1 (allN ls) p true = (p, true) := by
        rw [hn]; unfold wd1; rw [if_neg (by omega)]
      rw [e] at hb ⊢
      simp only at hb ⊢
      rw [hn] at hb ⊢
      have e2 : wd2 ls big p.1 (n + 1) p true = wd2 ls big p.1 n (onP ls p).1 (onP ls p).2 := by
        rw [wd2_succ, if_pos ⟨rfl, hk, .inr rfl⟩]
      rw [e2] at hb ⊢
      cases ho : (onP ls p).2 with
      | false => rw [ho, wd2_off] at hb; simp at hb
      | true =>
        have hi := h2 ho
        obtain ⟨_, c2, _⟩ := wd2_ok (big := big) (from_ := p.1) n (onP ls p).1 true h1 (fun e => by simp at e)
        omega
    · have e1 : wd1 ls big (atK ls big p) p.1 (n + 1) p true = if (onP ls p).1.1 ≠ p.1 then onP ls p else wd1 ls big (atK ls big p) p.1 n (onP ls p).1 (onP ls p).2 := by
        rw [wd1_succ, if_pos ⟨rfl, by omega, rfl, rfl⟩]
      rw [hn, e1] at hb ⊢
      cases ho : (onP ls p).2 with
      | false =>
        exfalso
        have hp := (h3 ho).1
        have hp1 : ¬ (onP ls p).1.1 ≠ p.1 := by rw [hp]; simp
        rw [if_neg hp1, ho, wd1_off, wd2_off] at hb
        simp at hb
      | true =>
        have hi := h2 ho
        split
        · rename_i hne
          obtain ⟨_, c2, _⟩ := wd2_ok (big := big) (from_ := p.1) (n + 1) (onP ls p).1 (onP ls p).2 h1 (fun e => by rw [ho] at e; simp at e)
          omega
        · obtain ⟨a1, a2, a3⟩ := wd1_ok (big := big) (k := atK ls big p) (from_ := p.1) n (onP ls p).1 true h1 (fun e => by simp at e)
          obtain ⟨_, c2, _⟩ := wd2_ok (big := big) (from_ := p.1) (n + 1) _ _ a1 a3
          omega
  refine ⟨fun p h => (base p h).1, strict, fun p h hb => ?_, fun p h => ?_⟩
  · have hl := (base p h).2.2 hb
    have hq := (base p h).1
    generalize (wordP ls big p).1 = q at *
    unfold wordP
    have e : (wd1 ls big (atK ls big q) q.1 (allN ls) q true).1 = q := wd1_last hq hl _ _
    rw [e]
    exact wd2_last hq hl _ _
  · by_cases e : idx ls p = idx ls (wordP ls big p).1
    · exact .inl (idx_inj h (base p h).1 e).symm
    · exact .inr (by have := (base p h).2.1; omega)
theorem b2_zero {ls : List (List UInt8)} {big : Bool} {i c : Nat} : b2 ls big 0 i c = c := by
  cases c with
  | zero => rfl
  | succ c => unfold b2; rw [if_neg (by omega)]
theorem ahead_law (ls : List (List UInt8)) (big : Bool) : StepLaw ls (fun p => allN ls - idx ls p) (aheadP ls big) := by
  have base : ∀ p, Okp ls p → Okp ls (aheadP ls big p).1 ∧ idx ls (aheadP ls big p).1 ≤ idx ls p ∧ ((aheadP ls big p).2 = true → idx ls (aheadP ls big p).1 < idx ls p) ∧ ((aheadP ls big p).2 = false → (aheadP ls big p).1 = (0, 0)) := by
    intro p h
    obtain ⟨h1, h2, h3⟩ := back_ok h
    unfold aheadP
    cases hb : (backP ls p).2 with
    | false =>
      rw [if_pos rfl]
      exact ⟨h1, by rw [(h3 hb).1]; exact Nat.le_refl _, fun e => by rw [hb] at e; simp at e, fun _ => by rw [(h3 hb).1]; exact (h3 hb).2.2⟩
    | true =>
      rw [if_neg (by simp)]
      simp only
      have hi := h2 hb
      obtain ⟨a1, a2, a3⟩ := b1_ok (big := big) (allN ls) (backP ls p).1 true h1 (fun e => by simp at e)
      generalize b1 ls big (allN ls) (backP ls p).1 true = s at *
      have hle := b2_le (ls := ls) (big := big) (k := atK ls big s.1) (i := s.1.1) s.1.2
      have hidx : idx ls (s.1.1, b2 ls big (atK ls big s.1) s.1.1 s.1.2) ≤ idx ls s.1 := by unfold idx; simp only; omega
      refine ⟨⟨a1.1, ?_⟩, by omega, fun _ => by omega, fun hf => ?_⟩
      · have := a1.2; simp only; omega
      · obtain ⟨z1, z2⟩ := a3 hf
        rw [z2, b2_zero]
        rw [z1]
  refine ⟨fun p h => (base p h).1, fun p h hb => ?_, fun p h hb => ?_, fun p h => ?_⟩
  · have := (base p h).2.2.1 hb
    have := idx_lt h
    show allN ls - idx ls p < allN ls - idx ls (aheadP ls big p).1
    omega
  · rw [(base p h).2.2.2 hb]
    rfl
  · by_cases e : idx ls p = idx ls (aheadP ls big p).1
    · exact .inl (idx_inj h (base p h).1 e).symm
    · refine .inr ?_
      have := (base p h).2.1
      have := idx_lt h
      show allN ls - idx ls p < allN ls - idx ls (aheadP ls big p).1
      omega
theorem e2_zero {ls : List (List UInt8)} {big : Bool} {i : Nat} : ∀ f c, e2 ls big 0 i f c = c
  | 0, c => rfl
  | f + 1, c => by unfold e2; rw [if_neg (by omega)]
theorem ends_law (ls : List (List UInt8)) (big : Bool) : StepLaw ls (idx ls) (endsP ls big) := by
  have base : ∀ p, Okp ls p → Okp ls (endsP ls big p).1 ∧ idx ls p ≤ idx ls (endsP ls big p).1 ∧ ((endsP ls big p).2 = true → idx ls p < idx ls (endsP ls big p).1) ∧ ((endsP ls big p).2 = false → idx ls (endsP ls big p).1 + 1 = allN ls) := by
    intro p h
    obtain ⟨h1, h2, h3⟩ := on_ok h
    unfold endsP
    cases hb : (onP ls p).2 with
    | false =>
      rw [if_pos rfl]
      exact ⟨h1, by rw [(h3 hb).1]; exact Nat.le_refl _, fun e => by rw [hb] at e; simp at e, fun _ => by rw [(h3 hb).1]; exact (h3 hb).2⟩
    | true =>
      rw [if_neg (by simp)]
      simp only
      have hi := h2 hb
      obtain ⟨a1, a2, a3⟩ := e1_ok (big := big) (allN ls) (onP ls p).1 true h1 (fun e => by simp at e)
      generalize e1 ls big (allN ls) (onP ls p).1 true = s at *
      have hle := e2_ok (ls := ls) (big := big) (k := atK ls big s.1) (i := s.1.1) (lnL ls s.1.1).length s.1.2
      have hidx : idx ls s.1 ≤ idx ls (s.1.1, e2 ls big (atK ls big s.1) s.1.1 (lnL ls s.1.1).length s.1.2) := by unfold idx; simp only; omega
      refine ⟨⟨a1.1, hle.2 a1.2⟩, by omega, fun _ => by omega, fun hf => ?_⟩
      obtain ⟨z1, z2⟩ := a3 hf
      rw [z2, e2_zero]
      exact z1
  refine ⟨fun p h => (base p h).1, fun p h hb => (base p h).2.2.1 hb, fun p h hb => ?_, fun p h => ?_⟩
  · have hl := (base p h).2.2.2 hb
    have hq := (base p h).1
    generalize (endsP ls big p).1 = q at *
    unfold endsP
    rw [on_last hq hl]
    rfl
  · by_cases e : idx ls p = idx ls (endsP ls big p).1
    · exact .inl (idx_inj h (base p h).1 e).symm
    · exact .inr (by have := (base p h).2.1; omega)

/-! ### Many times -/
def manyP (step : Pl → Pl × Bool) : Nat → Pl → Pl × Bool
  | 0, p => (p, true)
  | n + 1, p => if (step p).2 = true then manyP step n (step p).1 else step p
def timesP (step : Pl → Pl × Bool) : Nat → Pl → Pl × Bool
  | 0, p => (p, false)
  | n + 1, p => if (step p).1 = p then (p, false) else ((timesP step n (step p).1).1, true)
theorem many_ok {ls : List (List UInt8)} {r : Pl → Nat} {step : Pl → Pl × Bool} (H : StepLaw ls r step) : ∀ n p, Okp ls p → Okp ls (manyP step n p).1 ∧ ((manyP step n p).1 = p ∨ r p < r (manyP step n p).1)
  | 0, p, h => ⟨h, .inl rfl⟩
  | n + 1, p, h => by
    unfold manyP
    split
    · rename_i hb
      obtain ⟨a, b⟩ := many_ok H n (step p).1 (H.ok p h)
      have := H.on p h hb
      refine ⟨a, .inr ?_⟩
      rcases b with b | b
      · rw [b]; exact this
      · omega
    · exact ⟨H.ok p h, H.le p h⟩
theorem times_fix {step : Pl → Pl × Bool} {q : Pl} (h : (step q).1 = q) : ∀ n, timesP step n q = (q, false)
  | 0 => rfl
  | n + 1 => by unfold timesP; rw [if_pos h]
/-- One behind the other, or all at once. -/
theorem times_law {ls : List (List UInt8)} {r : Pl → Nat} {step : Pl → Pl × Bool} (H : StepLaw ls r step) : ∀ n p, Okp ls p →
    (timesP step (n + 1) p).1 = (manyP step (n + 1) p).1 ∧ ((timesP step (n + 1) p).2 = true ↔ (manyP step (n + 1) p).1 ≠ p)
  | n, p, h => by
    have ht : timesP step (n + 1) p = if (step p).1 = p then (p, false) else ((timesP step n (step p).1).1, true) := rfl
    have hm0 : manyP step (n + 1) p = if (step p).2 = true then manyP step n (step p).1 else step p := rfl
    rw [ht, hm0]
    cases hb : (step p).2 with
    | true =>
      have hr := H.on p h hb
      have hne : (step p).1 ≠ p := fun e => by rw [e] at hr; omega
      rw [if_neg hne, if_pos rfl]
      cases n with
      | zero => exact ⟨rfl, by simp only [true_iff]; exact hne⟩
      | succ n =>
        have ih := times_law H n (step p).1 (H.ok p h)
        have hm := (many_ok H (n + 1) (step p).1 (H.ok p h)).2
        refine ⟨ih.1, by
          simp only [true_iff]
          intro e
          rcases hm with hm | hm
          · rw [hm] at e; exact hne e
          · rw [e] at hm; omega⟩
    | false =>
      rw [if_neg (show ¬ (false = true) by decide)]
      have hoff := H.off p h hb
      by_cases e : (step p).1 = p
      · rw [if_pos e]
        exact ⟨e.symm, by simp [e]⟩
      · rw [if_neg e, times_fix hoff]
        exact ⟨rfl, by simp only [true_iff]; exact e⟩
end Go.Proofs.YtopbpmcanhbklaaGreatDoor
