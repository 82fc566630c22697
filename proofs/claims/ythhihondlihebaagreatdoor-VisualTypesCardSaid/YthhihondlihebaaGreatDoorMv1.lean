/- Words' motions, in plain Lean (chapter 27). No program in sight. -/
import Derived.Lib.ItoaNum
import Derived.Test.YthhihondlihebaaGreatDoorBase
import Derived.Test.YthhihondlihebaaGreatDoorProg
import Derived.Deep.QuietTactic
import Derived.BigQuiet
import Derived.BigRegion
import Derived.WalkSmall
import Derived.Lib.QuietBelow
import Derived.Laws.Rows
import Derived.Deep.CutBlock
import Derived.Deep.CutRange
import Derived.Laws.StructEq
namespace Go.Proofs.YthhihondlihebaaGreatDoor
open Go

/-- A place: a line's number less one, and how many bytes stand ahead. -/
abbrev Pl := Nat × Nat
def kindB (c : UInt8) (big : Bool) : Nat :=
  if c = 32 ∨ c = 9 then 0 else if big = true ∨ c = 95 ∨ (48 ≤ c ∧ c ≤ 57) ∨ (97 ≤ c ∧ c ≤ 122) ∨ (65 ≤ c ∧ c ≤ 90) then 1 else 2
def lnL (ls : List (List UInt8)) (i : Nat) : List UInt8 := ls.getD i []
def atK (ls : List (List UInt8)) (big : Bool) (p : Pl) : Nat := if lnL ls p.1 = [] then 0 else kindB ((lnL ls p.1).getD p.2 0) big
def onP (ls : List (List UInt8)) (p : Pl) : Pl × Bool :=
  if p.2 + 1 < (lnL ls p.1).length then ((p.1, p.2 + 1), true) else if p.1 + 1 < ls.length then ((p.1 + 1, 0), true) else (p, false)
def backP (ls : List (List UInt8)) (p : Pl) : Pl × Bool :=
  if 0 < p.2 then ((p.1, p.2 - 1), true) else if 0 < p.1 then ((p.1 - 1, (lnL ls (p.1 - 1)).length - 1), true) else (p, false)
/-- A place that is there. -/
def Okp (ls : List (List UInt8)) (p : Pl) : Prop := p.1 < ls.length ∧ (p.2 = 0 ∨ p.2 < (lnL ls p.1).length)
/-- How many places stand ahead of a line. -/
def aheadN : List (List UInt8) → Nat → Nat
  | [], _ => 0
  | _, 0 => 0
  | l :: ls, k + 1 => max l.length 1 + aheadN ls k
def idx (ls : List (List UInt8)) (p : Pl) : Nat := aheadN ls p.1 + p.2
theorem aheadN_next : ∀ (ls : List (List UInt8)) (k : Nat), k < ls.length → aheadN ls (k + 1) = aheadN ls k + max (lnL ls k).length 1
  | [], k, h => by simp at h
  | l :: ls, 0, _ => by
    cases ls <;> simp [aheadN, lnL]
  | l :: ls, k + 1, h => by
    have ih := aheadN_next ls k (by simpa using h)
    show max l.length 1 + aheadN ls (k + 1) = max l.length 1 + aheadN ls k + max (lnL (l :: ls) (k + 1)).length 1
    rw [ih]
    have e : lnL (l :: ls) (k + 1) = lnL ls k := by simp [lnL]
    rw [e]; omega
theorem aheadN_mono (ls : List (List UInt8)) : ∀ (a b : Nat), a ≤ b → b ≤ ls.length → aheadN ls a ≤ aheadN ls b
  | a, 0, h, _ => by
    have : a = 0 := by omega
    subst this; exact Nat.le_refl _
  | a, b + 1, h, hb => by
    by_cases e : a = b + 1
    · subst e; exact Nat.le_refl _
    · have := aheadN_mono ls a b (by omega) (by omega)
      have := aheadN_next ls b (by omega)
      omega
def allN (ls : List (List UInt8)) : Nat := aheadN ls ls.length
theorem idx_lt {ls : List (List UInt8)} {p : Pl} (h : Okp ls p) : idx ls p < allN ls := by
  have h1 := aheadN_next ls p.1 h.1
  have h2 := aheadN_mono ls (p.1 + 1) ls.length h.1 (Nat.le_refl _)
  have h3 := h.2
  unfold idx allN
  omega
theorem idx_inj {ls : List (List UInt8)} {p q : Pl} (hp : Okp ls p) (hq : Okp ls q) (h : idx ls p = idx ls q) : p = q := by
  have key : ∀ {p q : Pl}, Okp ls p → Okp ls q → p.1 < q.1 → idx ls p < idx ls q := by
    intro p q hp hq hlt
    have h1 := aheadN_next ls p.1 hp.1
    have h2 := aheadN_mono ls (p.1 + 1) q.1 hlt (by have := hq.1; omega)
    have h3 := hp.2
    unfold idx
    omega
  obtain ⟨a, b⟩ := p
  obtain ⟨c, d⟩ := q
  by_cases e : a = c
  · subst e
    unfold idx at h
    simp only at h
    have : b = d := by omega
    subst this; rfl
  · rcases Nat.lt_or_gt_of_ne e with h' | h'
    · have := key hp hq h'; omega
    · have := key hq hp h'; omega
theorem on_ok {ls : List (List UInt8)} {p : Pl} (h : Okp ls p) : Okp ls (onP ls p).1 ∧ ((onP ls p).2 = true → idx ls (onP ls p).1 = idx ls p + 1) ∧ ((onP ls p).2 = false → (onP ls p).1 = p ∧ idx ls p + 1 = allN ls) := by
  unfold onP
  by_cases h1 : p.2 + 1 < (lnL ls p.1).length
  · rw [if_pos h1]
    refine ⟨⟨h.1, .inr h1⟩, fun _ => ?_, fun e => by simp at e⟩
    unfold idx; simp only; omega
  · rw [if_neg h1]
    have h3 := aheadN_next ls p.1 h.1
    have h4 := h.2
    by_cases h2 : p.1 + 1 < ls.length
    · rw [if_pos h2]
      refine ⟨⟨h2, .inl rfl⟩, fun _ => ?_, fun e => by simp at e⟩
      unfold idx; simp only; omega
    · rw [if_neg h2]
      refine ⟨h, fun e => by simp at e, fun _ => ⟨rfl, ?_⟩⟩
      have e : ls.length = p.1 + 1 := by have := h.1; omega
      unfold idx allN
      rw [e]; omega
theorem back_ok {ls : List (List UInt8)} {p : Pl} (h : Okp ls p) : Okp ls (backP ls p).1 ∧ ((backP ls p).2 = true → idx ls (backP ls p).1 + 1 = idx ls p) ∧ ((backP ls p).2 = false → (backP ls p).1 = p ∧ idx ls p = 0 ∧ p = (0, 0)) := by
  unfold backP
  by_cases h1 : 0 < p.2
  · rw [if_pos h1]
    refine ⟨⟨h.1, ?_⟩, fun _ => ?_, fun e => by simp at e⟩
    · have := h.2; simp only; omega
    · unfold idx; simp only; omega
  · rw [if_neg h1]
    by_cases h2 : 0 < p.1
    · rw [if_pos h2]
      have h3 := aheadN_next ls (p.1 - 1) (by have := h.1; omega)
      rw [show p.1 - 1 + 1 = p.1 by omega] at h3
      refine ⟨⟨by have := h.1; simp only; omega, ?_⟩, fun _ => ?_, fun e => by simp at e⟩
      · simp only; omega
      · unfold idx; simp only; omega
    · rw [if_neg h2]
      have e : p = (0, 0) := by
        obtain ⟨a, b⟩ := p
        simp only at h1 h2
        have : a = 0 := by omega
        have : b = 0 := by omega
        subst_vars; rfl
      refine ⟨h, fun e => by simp at e, fun _ => ⟨rfl, ?_, e⟩⟩
      rw [e]
      unfold idx
      cases ls <;> rfl

/-! ### The loops, with fuel -/
/-- On, while the bytes are of the kind k, in the line. -/
def wd1 (ls : List (List UInt8)) (big : Bool) (k from_ : Nat) : Nat → Pl → Bool → Pl × Bool
  | 0, p, ok => (p, ok)
  | f + 1, p, ok => if ok = true ∧ 0 < k ∧ p.1 = from_ ∧ atK ls big p = k then (if (onP ls p).1.1 ≠ from_ then onP ls p else wd1 ls big k from_ f (onP ls p).1 (onP ls p).2) else (p, ok)
/-- On, while there are blanks; an empty line ends that, but the first one. -/
def wd2 (ls : List (List UInt8)) (big : Bool) (from_ : Nat) : Nat → Pl → Bool → Pl × Bool
  | 0, p, ok => (p, ok)
  | f + 1, p, ok => if ok = true ∧ atK ls big p = 0 ∧ (lnL ls p.1 ≠ [] ∨ p.1 = from_) then wd2 ls big from_ f (onP ls p).1 (onP ls p).2 else (p, ok)
def wordP (ls : List (List UInt8)) (big : Bool) (p : Pl) : Pl × Bool :=
  wd2 ls big p.1 (allN ls) (wd1 ls big (atK ls big p) p.1 (allN ls) p true).1 (wd1 ls big (atK ls big p) p.1 (allN ls) p true).2
/-- Back, while there are blanks. -/
def b1 (ls : List (List UInt8)) (big : Bool) : Nat → Pl → Bool → Pl × Bool
  | 0, p, ok => (p, ok)
  | f + 1, p, ok => if ok = true ∧ atK ls big p = 0 ∧ lnL ls p.1 ≠ [] then b1 ls big f (backP ls p).1 (backP ls p).2 else (p, ok)
/-- Back in the line, while the byte ahead is of the kind k. -/
def b2 (ls : List (List UInt8)) (big : Bool) (k i : Nat) : Nat → Nat
  | 0 => 0
  | c + 1 => if 0 < k ∧ kindB ((lnL ls i).getD c 0) big = k then b2 ls big k i c else c + 1
def aheadP (ls : List (List UInt8)) (big : Bool) (p : Pl) : Pl × Bool :=
  if (backP ls p).2 = false then backP ls p
  else
    let s := b1 ls big (allN ls) (backP ls p).1 true
    ((s.1.1, b2 ls big (atK ls big s.1) s.1.1 s.1.2), s.2)
/-- On, while there are blanks and empty lines. -/
def e1 (ls : List (List UInt8)) (big : Bool) : Nat → Pl → Bool → Pl × Bool
  | 0, p, ok => (p, ok)
  | f + 1, p, ok => if ok = true ∧ atK ls big p = 0 then e1 ls big f (onP ls p).1 (onP ls p).2 else (p, ok)
/-- On in the line, while the next byte is of the kind k. -/
def e2 (ls : List (List UInt8)) (big : Bool) (k i : Nat) : Nat → Nat → Nat
  | 0, c => c
  | f + 1, c => if 0 < k ∧ c + 1 < (lnL ls i).length ∧ kindB ((lnL ls i).getD (c + 1) 0) big = k then e2 ls big k i f (c + 1) else c
def endsP (ls : List (List UInt8)) (big : Bool) (p : Pl) : Pl × Bool :=
  if (onP ls p).2 = false then onP ls p
  else
    let s := e1 ls big (allN ls) (onP ls p).1 true
    ((s.1.1, e2 ls big (atK ls big s.1) s.1.1 (lnL ls s.1.1).length s.1.2), s.2)

theorem wd1_succ (ls : List (List UInt8)) (big : Bool) (k from_ f : Nat) (p : Pl) (ok : Bool) : wd1 ls big k from_ (f + 1) p ok = if ok = true ∧ 0 < k ∧ p.1 = from_ ∧ atK ls big p = k then (if (onP ls p).1.1 ≠ from_ then onP ls p else wd1 ls big k from_ f (onP ls p).1 (onP ls p).2) else (p, ok) := rfl
theorem wd2_succ (ls : List (List UInt8)) (big : Bool) (from_ f : Nat) (p : Pl) (ok : Bool) : wd2 ls big from_ (f + 1) p ok = if ok = true ∧ atK ls big p = 0 ∧ (lnL ls p.1 ≠ [] ∨ p.1 = from_) then wd2 ls big from_ f (onP ls p).1 (onP ls p).2 else (p, ok) := rfl
/-! ### What the loops lead to -/
theorem wd1_ok {ls : List (List UInt8)} {big : Bool} {k from_ : Nat} : ∀ (f : Nat) (p : Pl) (ok : Bool), Okp ls p → (ok = false → idx ls p + 1 = allN ls) →
    Okp ls (wd1 ls big k from_ f p ok).1 ∧ idx ls p ≤ idx ls (wd1 ls big k from_ f p ok).1 ∧ ((wd1 ls big k from_ f p ok).2 = false → idx ls (wd1 ls big k from_ f p ok).1 + 1 = allN ls)
  | 0, p, ok, h, ho => ⟨h, Nat.le_refl _, ho⟩
  | f + 1, p, ok, h, ho => by
    obtain ⟨h1, h2, h3⟩ := on_ok h
    have hle : idx ls p ≤ idx ls (onP ls p).1 := by
      cases hb : (onP ls p).2 with
      | true => have := h2 hb; omega
      | false => rw [(h3 hb).1]; exact Nat.le_refl _
    have hlast : (onP ls p).2 = false → idx ls (onP ls p).1 + 1 = allN ls := fun hb => by rw [(h3 hb).1]; exact (h3 hb).2
    unfold wd1
    split
    · split
      · exact ⟨h1, hle, hlast⟩
      · obtain ⟨a, b, c⟩ := wd1_ok f (onP ls p).1 (onP ls p).2 h1 hlast
        exact ⟨a, Nat.le_trans hle b, c⟩
    · exact ⟨h, Nat.le_refl _, ho⟩
theorem wd2_ok {ls : List (List UInt8)} {big : Bool} {from_ : Nat} : ∀ (f : Nat) (p : Pl) (ok : Bool), Okp ls p → (ok = false → idx ls p + 1 = allN ls) →
    Okp ls (wd2 ls big from_ f p ok).1 ∧ idx ls p ≤ idx ls (wd2 ls big from_ f p ok).1 ∧ ((wd2 ls big from_ f p ok).2 = false → idx ls (wd2 ls big from_ f p ok).1 + 1 = allN ls)
  | 0, p, ok, h, ho => ⟨h, Nat.le_refl _, ho⟩
  | f + 1, p, ok, h, ho => by
    obtain ⟨h1, h2, h3⟩ := on_ok h
    have hle : idx ls p ≤ idx ls (onP ls p).1 := by
      cases hb : (onP ls p).2 with
      | true => have := h2 hb; omega
      | false => rw [(h3 hb).1]; exact Nat.le_refl _
    have hlast : (onP ls p).2 = false → idx ls (onP ls p).1 + 1 = allN ls := fun hb => by rw [(h3 hb).1]; exact (h3 hb).2
    unfold wd2
    split
    · obtain ⟨a, b, c⟩ := wd2_ok f (onP ls p).1 (onP ls p).2 h1 hlast
      exact ⟨a, Nat.le_trans hle b, c⟩
    · exact ⟨h, Nat.le_refl _, ho⟩
theorem e1_ok {ls : List (List UInt8)} {big : Bool} : ∀ (f : Nat) (p : Pl) (ok : Bool), Okp ls p → (ok = false → idx ls p + 1 = allN ls ∧ atK ls big p = 0) →
    Okp ls (e1 ls big f p ok).1 ∧ idx ls p ≤ idx ls (e1 ls big f p ok).1 ∧ ((e1 ls big f p ok).2 = false → idx ls (e1 ls big f p ok).1 + 1 = allN ls ∧ atK ls big (e1 ls big f p ok).1 = 0)
  | 0, p, ok, h, ho => ⟨h, Nat.le_refl _, ho⟩
  | f + 1, p, ok, h, ho => by
    obtain ⟨h1, h2, h3⟩ := on_ok h
    have hle : idx ls p ≤ idx ls (onP ls p).1 := by
      cases hb : (onP ls p).2 with
      | true => have := h2 hb; omega
      | false => rw [(h3 hb).1]; exact Nat.le_refl _
    unfold e1
    split
    · rename_i hc
      have hlast : (onP ls p).2 = false → idx ls (onP ls p).1 + 1 = allN ls ∧ atK ls big (onP ls p).1 = 0 := fun hb => by rw [(h3 hb).1]; exact ⟨(h3 hb).2, hc.2⟩
      obtain ⟨a, b, c⟩ := e1_ok f (onP ls p).1 (onP ls p).2 h1 hlast
      exact ⟨a, Nat.le_trans hle b, c⟩
    · exact ⟨h, Nat.le_refl _, ho⟩
theorem b1_ok {ls : List (List UInt8)} {big : Bool} : ∀ (f : Nat) (p : Pl) (ok : Bool), Okp ls p → (ok = false → p = (0, 0) ∧ atK ls big p = 0) →
    Okp ls (b1 ls big f p ok).1 ∧ idx ls (b1 ls big f p ok).1 ≤ idx ls p ∧ ((b1 ls big f p ok).2 = false → (b1 ls big f p ok).1 = (0, 0) ∧ atK ls big (b1 ls big f p ok).1 = 0)
  | 0, p, ok, h, ho => ⟨h, Nat.le_refl _, ho⟩
  | f + 1, p, ok, h, ho => by
    obtain ⟨h1, h2, h3⟩ := back_ok h
    have hle : idx ls (backP ls p).1 ≤ idx ls p := by
      cases hb : (backP ls p).2 with
      | true => have := h2 hb; omega
      | false => rw [(h3 hb).1]; exact Nat.le_refl _
    unfold b1
    split
    · rename_i hc
      have hlast : (backP ls p).2 = false → (backP ls p).1 = (0, 0) ∧ atK ls big (backP ls p).1 = 0 := fun hb => by rw [(h3 hb).1]; exact ⟨(h3 hb).2.2, hc.2.1⟩
      obtain ⟨a, b, c⟩ := b1_ok f (backP ls p).1 (backP ls p).2 h1 hlast
      exact ⟨a, Nat.le_trans b hle, c⟩
    · exact ⟨h, Nat.le_refl _, ho⟩
theorem b2_le {ls : List (List UInt8)} {big : Bool} {k i : Nat} : ∀ c, b2 ls big k i c ≤ c
  | 0 => Nat.le_refl _
  | c + 1 => by
    unfold b2
    split
    · have := b2_le (ls := ls) (big := big) (k := k) (i := i) c; omega
    · exact Nat.le_refl _
theorem e2_ok {ls : List (List UInt8)} {big : Bool} {k i : Nat} : ∀ f c, c ≤ e2 ls big k i f c ∧ (c = 0 ∨ c < (lnL ls i).length → e2 ls big k i f c = 0 ∨ e2 ls big k i f c < (lnL ls i).length)
  | 0, c => ⟨Nat.le_refl _, fun h => h⟩
  | f + 1, c => by
    unfold e2
    split
    · rename_i h
      have := e2_ok (ls := ls) (big := big) (k := k) (i := i) f (c + 1)
      exact ⟨by omega, fun _ => this.2 (.inr h.2.1)⟩
    · exact ⟨Nat.le_refl _, fun h => h⟩

/-! ### A step's laws -/
structure StepLaw (ls : List (List UInt8)) (r : Pl → Nat) (step : Pl → Pl × Bool) : Prop where
  ok : ∀ p, Okp ls p → Okp ls (step p).1
  on : ∀ p, Okp ls p → (step p).2 = true → r p < r (step p).1
  off : ∀ p, Okp ls p → (step p).2 = false → (step (step p).1).1 = (step p).1
  le : ∀ p, Okp ls p → (step p).1 = p ∨ r p < r (step p).1
/-- At the last place nothing is further. -/
theorem on_last {ls : List (List UInt8)} {p : Pl} (h : Okp ls p) (hl : idx ls p + 1 = allN ls) : onP ls p = (p, false) := by
  obtain ⟨h1, h2, h3⟩ := on_ok h
  cases hb : (onP ls p).2 with
  | true =>
    have := h2 hb
    have := idx_lt h1
    omega
  | false =>
    have := (h3 hb).1
    exact Prod.ext this hb
theorem wd1_last {ls : List (List UInt8)} {big : Bool} {k : Nat} {p : Pl} (h : Okp ls p) (hl : idx ls p + 1 = allN ls) : ∀ f ok, (wd1 ls big k p.1 f p ok).1 = p
  | 0, _ => rfl
  | f + 1, ok => by
    unfold wd1
    rw [on_last h hl]
    split
    · split
      · rfl
      · exact wd1_last h hl f false
    · rfl
theorem wd2_last {ls : List (List UInt8)} {big : Bool} {from_ : Nat} {p : Pl} (h : Okp ls p) (hl : idx ls p + 1 = allN ls) : ∀ f ok, (wd2 ls big from_ f p ok).1 = p
  | 0, _ => rfl
  | f + 1, ok => by
    unfold wd2
    rw [on_last h hl]
    split
    · exact wd2_last h hl f false
    · rfl
theorem wd2_off {ls : List (List UInt8)} {big : Bool} {from_ : Nat} : ∀ f (p : Pl), wd2 ls big from_ f p false = (p, false)
  | 0, _ => rfl
  | f + 1, p => by unfold wd2; rw [if_neg (by simp)]
theorem wd1_off {ls : List (List UInt8)} {big : Bool} {k from_ : Nat} : ∀ f (p : Pl), wd1 ls big k from_ f p false = (p, false)
  | 0, _ => rfl
  | f + 1, p => by unfold wd1; rw [if_neg (by simp)]
theorem all_pos {ls : List (List UInt8)} {p : Pl} (h : Okp ls p) : ∃ n, allN ls = n + 1 := ⟨allN ls - 1, by have := idx_lt h; omega⟩
theorem word_law (ls : List (List UInt8)) (big : Bool) : StepLaw ls (idx ls) (wordP ls big) := by
  have base : ∀ p, Okp ls p → Okp ls (wordP ls big p).1 ∧ idx ls p ≤ idx ls (wordP ls big p).1 ∧ ((wordP ls big p).2 = false → idx ls (wordP ls big p).1 + 1 = allN ls) := by
    intro p h
    obtain ⟨a1, a2, a3⟩ := wd1_ok (big := big) (k := atK ls big p) (from_ := p.1) (allN ls) p true h (fun e => by simp at e)
    obtain ⟨c1, c2, c3⟩ := wd2_ok (big := big) (from_ := p.1) (allN ls) _ _ a1 a3
    exact ⟨c1, Nat.le_trans a2 c2, c3⟩
  have strict : ∀ p, Okp ls p → (wordP ls big p).2 = true → idx ls p < idx ls (wordP ls big p).1 := by
    intro p h hb
    obtain ⟨n, hn⟩ := all_pos h
    obtain ⟨h1, h2, h3⟩ := on_ok h
    unfold wordP at hb ⊢
    by_cases hk : atK ls big p = 0
    · -- blanks: the second loop goes on at once
      have e : wd1 ls big (atK ls big p) p.1 (allN ls) p true = (p, true) := by
        rw [hn]; unfold wd1; rw [if_neg (by omega)]
      rw [e] at hb ⊢
      simp only at hb ⊢
      rw [hn] at hb ⊢
      have e2 : wd2 ls big p.1 (n + 1) p true = wd2 ls big p.1 n (onP ls p).1 (onP ls p).2 := by
        rw [wd2_succ, if_pos ⟨rfl, hk, .inr rfl⟩]
      rw [e2] at hb ⊢
      cases ho : (onP ls p).2 with
      | false => rw [ho, wd2_off] at hb; simp at hb
      | true =>
        have hi := h2 ho
        obtain ⟨_, c2, _⟩ := wd2_ok (big := big) (from_ := p.1) n (onP ls p).1 true h1 (fun e => by simp at e)
        omega
    · have e1 : wd1 ls big (atK ls big p) p.1 (n + 1) p true = if (onP ls p).1.1 ≠ p.1 then onP ls p else wd1 ls big (atK ls big p) p.1 n (onP ls p).1 (onP ls p).2 := by
        rw [wd1_succ, if_pos ⟨rfl, by omega, rfl, rfl⟩]
      rw [hn, e1] at hb ⊢
      cases ho : (onP ls p).2 with
      | false =>
        exfalso
        have hp := (h3 ho).1
        have hp1 : ¬ (onP ls p).1.1 ≠ p.1 := by rw [hp]; simp
        rw [if_neg hp1, ho, wd1_off, wd2_off] at hb
        simp at hb
      | true =>
        have hi := h2 ho
        split
        · rename_i hne
          obtain ⟨_, c2, _⟩ := wd2_ok (big := big) (from_ := p.1) (n + 1) (onP ls p).1 (onP ls p).2 h1 (fun e => by rw [ho] at e; simp at e)
          omega
        · obtain ⟨a1, a2, a3⟩ := wd1_ok (big := big) (k := atK ls big p) (from_ := p.1) n (onP ls p).1 true h1 (fun e => by simp at e)
          obtain ⟨_, c2, _⟩ := wd2_ok (big := big) (from_ := p.1) (n + 1) _ _ a1 a3
          omega
  refine ⟨fun p h => (base p h).1, strict, fun p h hb => ?_, fun p h => ?_⟩
  · have hl := (base p h).2.2 hb
    have hq := (base p h).1
    generalize (wordP ls big p).1 = q at *
    unfold wordP
    have e : (wd1 ls big (atK ls big q) q.1 (allN ls) q true).1 = q := wd1_last hq hl _ _
    rw [e]
    exact wd2_last hq hl _ _
  · by_cases e : idx ls p = idx ls (wordP ls big p).1
    · exact .inl (idx_inj h (base p h).1 e).symm
    · exact .inr (by have := (base p h).2.1; omega)
theorem b2_zero {ls : List (List UInt8)} {big : Bool} {i c : Nat} : b2 ls big 0 i c = c := by
  cases c with
  | zero => rfl
  | succ c => unfold b2; rw [if_neg (by omega)]
theorem ahead_law (ls : List (List UInt8)) (big : Bool) : StepLaw ls (fun p => allN ls - idx ls p) (aheadP ls big) := by
  have base : ∀ p, Okp ls p → Okp ls (aheadP ls big p).1 ∧ idx ls (aheadP ls big p).1 ≤ idx ls p ∧ ((aheadP ls big p).2 = true → idx ls (aheadP ls big p).1 < idx ls p) ∧ ((aheadP ls big p).2 = false → (aheadP ls big p).1 = (0, 0)) := by
    intro p h
    obtain ⟨h1, h2, h3⟩ := back_ok h
    unfold aheadP
    cases hb : (backP ls p).2 with
    | false =>
      rw [if_pos rfl]
      exact ⟨h1, by rw [(h3 hb).1]; exact Nat.le_refl _, fun e => by rw [hb] at e; simp at e, fun _ => by rw [(h3 hb).1]; exact (h3 hb).2.2⟩
    | true =>
      rw [if_neg (by simp)]
      simp only
      have hi := h2 hb
      obtain ⟨a1, a2, a3⟩ := b1_ok (big := big) (allN ls) (backP ls p).1 true h1 (fun e => by simp at e)
      generalize b1 ls big (allN ls) (backP ls p).1 true = s at *
      have hle := b2_le (ls := ls) (big := big) (k := atK ls big s.1) (i := s.1.1) s.1.2
      have hidx : idx ls (s.1.1, b2 ls big (atK ls big s.1) s.1.1 s.1.2) ≤ idx ls s.1 := by unfold idx; simp only; omega
      refine ⟨⟨a1.1, ?_⟩, by omega, fun _ => by omega, fun hf => ?_⟩
      · have := a1.2; simp only; omega
      · obtain ⟨z1, z2⟩ := a3 hf
        rw [z2, b2_zero]
        rw [z1]
  refine ⟨fun p h => (base p h).1, fun p h hb => ?_, fun p h hb => ?_, fun p h => ?_⟩
  · have := (base p h).2.2.1 hb
    have := idx_lt h
    show allN ls - idx ls p < allN ls - idx ls (aheadP ls big p).1
    omega
  · rw [(base p h).2.2.2 hb]
    rfl
  · by_cases e : idx ls p = idx ls (aheadP ls big p).1
    · exact .inl (idx_inj h (base p h).1 e).symm
    · refine .inr ?_
      have := (base p h).2.1
      have := idx_lt h
      show allN ls - idx ls p < allN ls - idx ls (aheadP ls big p).1
      omega
theorem e2_zero {ls : List (List UInt8)} {big : Bool} {i : Nat} : ∀ f c, e2 ls big 0 i f c = c
  | 0, c => rfl
  | f + 1, c => by unfold e2; rw [if_neg (by omega)]
theorem ends_law (ls : List (List UInt8)) (big : Bool) : StepLaw ls (idx ls) (endsP ls big) := by
  have base : ∀ p, Okp ls p → Okp ls (endsP ls big p).1 ∧ idx ls p ≤ idx ls (endsP ls big p).1 ∧ ((endsP ls big p).2 = true → idx ls p < idx ls (endsP ls big p).1) ∧ ((endsP ls big p).2 = false → idx ls (endsP ls big p).1 + 1 = allN ls) := by
    intro p h
    obtain ⟨h1, h2, h3⟩ := on_ok h
    unfold endsP
    cases hb : (onP ls p).2 with
    | false =>
      rw [if_pos rfl]
      exact ⟨h1, by rw [(h3 hb).1]; exact Nat.le_refl _, fun e => by rw [hb] at e; simp at e, fun _ => by rw [(h3 hb).1]; exact (h3 hb).2⟩
    | true =>
      rw [if_neg (by simp)]
      simp only
      have hi := h2 hb
      obtain ⟨a1, a2, a3⟩ := e1_ok (big := big) (allN ls) (onP ls p).1 true h1 (fun e => by simp at e)
      generalize e1 ls big (allN ls) (onP ls p).1 true = s at *
      have hle := e2_ok (ls := ls) (big := big) (k := atK ls big s.1) (i := s.1.1) (lnL ls s.1.1).length s.1.2
      have hidx : idx ls s.1 ≤ idx ls (s.1.1, e2 ls big (atK ls big s.1) s.1.1 (lnL ls s.1.1).length s.1.2) := by unfold idx; simp only; omega
      refine ⟨⟨a1.1, hle.2 a1.2⟩, by omega, fun _ => by omega, fun hf => ?_⟩
      obtain ⟨z1, z2⟩ := a3 hf
      rw [z2, e2_zero]
      exact z1
  refine ⟨fun p h => (base p h).1, fun p h hb => (base p h).2.2.1 hb, fun p h hb => ?_, fun p h => ?_⟩
  · have hl := (base p h).2.2.2 hb
    have hq := (base p h).1
    generalize (endsP ls big p).1 = q at *
    unfold endsP
    rw [on_last hq hl]
    rfl
  · by_cases e : idx ls p = idx ls (endsP ls big p).1
    · exact .inl (idx_inj h (base p h).1 e).symm
    · exact .inr (by have := (base p h).2.1; omega)

/-! ### Many times -/
def manyP (step : Pl → Pl × Bool) : Nat → Pl → Pl × Bool
  | 0, p => (p, true)
  | n + 1, p => if (step p).2 = true then manyP step n (step p).1 else step p
def timesP (step : Pl → Pl × Bool) : Nat → Pl → Pl × Bool
  | 0, p => (p, false)
  | n + 1, p => if (step p).1 = p then (p, false) else ((timesP step n (step p).1).1, true)
theorem many_ok {ls : List (List UInt8)} {r : Pl → Nat} {step : Pl → Pl × Bool} (H : StepLaw ls r step) : ∀ n p, Okp ls p → Okp ls (manyP step n p).1 ∧ ((manyP step n p).1 = p ∨ r p < r (manyP step n p).1)
  | 0, p, h => ⟨h, .inl rfl⟩
  | n + 1, p, h => by
    unfold manyP
    split
    · rename_i hb
      obtain ⟨a, b⟩ := many_ok H n (step p).1 (H.ok p h)
      have := H.on p h hb
      refine ⟨a, .inr ?_⟩
      rcases b with b | b
      · rw [b]; exact this
      · omega
    · exact ⟨H.ok p h, H.le p h⟩
theorem times_fix {step : Pl → Pl × Bool} {q : Pl} (h : (step q).1 = q) : ∀ n, timesP step n q = (q, false)
  | 0 => rfl
  | n + 1 => by unfold timesP; rw [if_pos h]
/-- One behind the other, or all at once. -/
theorem times_law {ls : List (List UInt8)} {r : Pl → Nat} {step : Pl → Pl × Bool} (H : StepLaw ls r step) : ∀ n p, Okp ls p →
    (timesP step (n + 1) p).1 = (manyP step (n + 1) p).1 ∧ ((timesP step (n + 1) p).2 = true ↔ (manyP step (n + 1) p).1 ≠ p)
  | n, p, h => by
    have ht : timesP step (n + 1) p = if (step p).1 = p then (p, false) else ((timesP step n (step p).1).1, true) := rfl
    have hm0 : manyP step (n + 1) p = if (step p).2 = true then manyP step n (step p).1 else step p := rfl
    rw [ht, hm0]
    cases hb : (step p).2 with
    | true =>
      have hr := H.on p h hb
      have hne : (step p).1 ≠ p := fun e => by rw [e] at hr; omega
      rw [if_neg hne, if_pos rfl]
      cases n with
      | zero => exact ⟨rfl, by simp only [true_iff]; exact hne⟩
      | succ n =>
        have ih := times_law H n (step p).1 (H.ok p h)
        have hm := (many_ok H (n + 1) (step p).1 (H.ok p h)).2
        refine ⟨ih.1, by
          simp only [true_iff]
          intro e
          rcases hm with hm | hm
          · rw [hm] at e; exact hne e
          · rw [e] at hm; omega⟩
    | false =>
      rw [if_neg (show ¬ (false = true) by decide)]
      have hoff := H.off p h hb
      by_cases e : (step p).1 = p
      · rw [if_pos e]
        exact ⟨e.symm, by simp [e]⟩
      · rw [if_neg e, times_fix hoff]
        exact ⟨rfl, by simp only [true_iff]; exact e⟩
end Go.Proofs.YthhihondlihebaaGreatDoor
/- The walks of moves: kind, line, empty, at, on, back. -/
namespace Go.Proofs.YthhihondlihebaaGreatDoor
open Go Go.Proofs Go.RowKit Go.Ink Go.Sort

theorem byte_eqI (c k : UInt8) : (((c.toNat : Int) == (k.toNat : Int)) = true ↔ c = k) := by
  rw [beq_iff_eq]
  constructor
  · intro h; exact UInt8.toNat_inj.1 (by omega)
  · rintro rfl; rfl
theorem blank_any (c : UInt8) (w : World) :
    Calls Tryz.prog 106 #[.int .u8 (c.toNat : Int)] w fun e w' => e = .returned (.bool (decide (c = 32 ∨ c = 9))) ∧ w' = w := by
  have h1 : (c = 32 ∨ c = 9) ↔ ((c.toNat : Int) == 32 || (c.toNat : Int) == 9) = true := by
    rw [Bool.or_eq_true]; exact (or_congr (byte_eqI c 32) (byte_eqI c 9)).symm
  have H1 := Lib.hid (show decide (c = 32 ∨ c = 9) = ((c.toNat : Int) == 32 || (c.toNat : Int) == 9) from by rw [Bool.eq_iff_iff]; simpa using h1)
  rw [H1.out]
  clear h1
  cases h32 : ((c.toNat : Int) == 32)
  · cases h9 : ((c.toNat : Int) == 9)
    · go_enter Tryz.func106, Tryz.ntmps106
      go_wp2_with fail
      go_returns
      exact ⟨rfl, rfl⟩
    · go_enter Tryz.func106, Tryz.ntmps106
      go_wp2_with fail
      go_returns
      exact ⟨rfl, rfl⟩
  · go_enter Tryz.func106, Tryz.ntmps106
    go_wp2_with fail
    go_returns
    exact ⟨rfl, rfl⟩
/-- What kind asks behind the blanks. -/
def kind1 (c : UInt8) (big : Bool) : Bool := big || decide (c = 95) || (decide (48 ≤ c) && decide (c ≤ 57)) || (decide (97 ≤ c) && decide (c ≤ 122)) || (decide (65 ≤ c) && decide (c ≤ 90))
theorem kindB_eq (c : UInt8) (big : Bool) : kindB c big = if c = 32 ∨ c = 9 then 0 else if kind1 c big = true then 1 else 2 := by
  unfold kindB kind1
  by_cases h : c = 32 ∨ c = 9
  · rw [if_pos h, if_pos h]
  · rw [if_neg h, if_neg h]
    congr 1
    simp only [Bool.or_eq_true, Bool.and_eq_true, decide_eq_true_eq, or_assoc]
set_option maxRecDepth 100000 in
set_option maxHeartbeats 1000000 in
theorem kind_any (c : UInt8) (big : Bool) (w : World) :
    Calls Tryz.prog 111 #[.int .u8 (c.toNat : Int), .bool big] w fun e w' => e = .returned (.int .i64 (kindB c big : Int)) ∧ w' = w := by
  have HK := Lib.hid (kindB_eq c big)
  by_cases hb : c = 32 ∨ c = 9
  · have hd : decide (c = 32 ∨ c = 9) = true := decide_eq_true hb
    have HR := Lib.hid (show kindB c big = 0 by rw [HK.out, if_pos hb])
    go_enter Tryz.func111, Tryz.ntmps111
    go_wp2_with fail
    refine (blank_any c _).mono ?_
    rintro e w1 ⟨rfl, hw⟩
    subst hw
    rw [hd]
    go_wp2_with fail
    go_returns
    exact ⟨by rw [HR.out]; rfl, rfl⟩
  · have hd : decide (c = 32 ∨ c = 9) = false := decide_eq_false hb
    have HD := Lib.hid hd
    have e95 : decide (c = 95) = ((c.toNat : Int) == 95) := by rw [Bool.eq_iff_iff, decide_eq_true_eq]; exact (byte_eqI c 95).symm
    have le : ∀ a : UInt8, decide (a ≤ c) = decide ((a.toNat : Int) ≤ (c.toNat : Int)) := fun a => by rw [decide_eq_decide, UInt8.le_iff_toNat_le]; omega
    have ge : ∀ a : UInt8, decide (c ≤ a) = decide ((c.toNat : Int) ≤ (a.toNat : Int)) := fun a => by rw [decide_eq_decide, UInt8.le_iff_toNat_le]; omega
    have hk1 : kind1 c big = (big || ((c.toNat : Int) == 95) || (decide ((48 : Int) ≤ (c.toNat : Int)) && decide ((c.toNat : Int) ≤ 57)) || (decide ((97 : Int) ≤ (c.toNat : Int)) && decide ((c.toNat : Int) ≤ 122)) || (decide ((65 : Int) ≤ (c.toNat : Int)) && decide ((c.toNat : Int) ≤ 90))) := by
      unfold kind1
      rw [e95, le 48, ge 57, le 97, ge 122, le 65, ge 90]; rfl
    have HR := Lib.hid (show kindB c big = if kind1 c big = true then 1 else 2 by rw [HK.out, if_neg hb])
    have HK1 := Lib.hid hk1
    clear hb hd e95 le ge hk1 HK
    generalize kindB c big = r at *
    generalize kind1 c big = q at *
    generalize hx95 : ((c.toNat : Int) == 95) = x95 at *
    generalize hx48 : decide ((48 : Int) ≤ (c.toNat : Int)) = x48 at *
    generalize hx57 : decide ((c.toNat : Int) ≤ 57) = x57 at *
    generalize hx97 : decide ((97 : Int) ≤ (c.toNat : Int)) = x97 at *
    generalize hx122 : decide ((c.toNat : Int) ≤ 122) = x122 at *
    generalize hx65 : decide ((65 : Int) ≤ (c.toNat : Int)) = x65 at *
    generalize hx90 : decide ((c.toNat : Int) ≤ 90) = x90 at *
    go_enter Tryz.func111, Tryz.ntmps111
    go_wp2_with fail
    refine (blank_any c _).mono ?_
    rintro e w1 ⟨rfl, hw⟩
    subst hw
    rw [HD.out]
    go_wp2_with fail
    all_goals
      go_returns
      refine ⟨?_, rfl⟩
      have hq := HK1.out
      have hr := HR.out
      simp_all
/-- A place's value. -/
def plV (i c : Nat) : Value := .agg #[.int .i64 ((i : Int) + 1), .int .i64 (c : Int)]
/-- A motion that is being done: its lines. -/
structure MvAt (w : World) (m : Nat) (ls : List (List UInt8)) (ao : Option Addr) (cap : Nat) : Prop where
  c0 : w.cell? ⟨m, 0, none⟩ = some (.slice ao ls.length cap)
  sl : SlOf IsStr w ao cap ls
  short : ∀ i, (lnL ls i).length ≤ 1000000
  few : ls.length ≤ 1000000
theorem MvAt.later {w w' : World} {m : Nat} {ls : List (List UInt8)} {ao : Option Addr} {cap : Nat} (h : MvAt w m ls ao cap) (hb : Below w.heap.size w w') : MvAt w' m ls ao cap :=
  ⟨(hb.cell (p := ⟨m, 0, none⟩) (lt_of_cell h.c0)).trans h.c0, h.sl.later lasts_str hb, h.short, h.few⟩
theorem MvAt.str {w : World} {m : Nat} {ls : List (List UInt8)} {ao : Option Addr} {cap : Nat} (h : MvAt w m ls ao cap) {i : Nat} (hi : i < ls.length) : ∃ b off, ao = some ⟨b, off, none⟩ ∧ w.cell? ⟨b, off + i, none⟩ = some (.string ⟨(lnL ls i).toArray⟩) := by
  have e : ls[i]? = some (lnL ls i) := by unfold lnL; rw [List.getD_eq_getElem?_getD, List.getElem?_eq_getElem hi]; rfl
  obtain ⟨b, off, u, ha, hc, hu⟩ := h.sl.2.2.2 i _ e
  exact ⟨b, off, ha, by rw [hc]; exact congrArg some hu⟩
theorem MvAt.len {w : World} {m : Nat} {ls : List (List UInt8)} {ao : Option Addr} {cap : Nat} (h : MvAt w m ls ao cap) : ls.length ≤ 9223372036854775807 := Nat.le_trans h.sl.1 h.sl.2.1
set_option maxRecDepth 100000 in
set_option maxHeartbeats 1000000 in
theorem line_any {w : World} {m : Nat} {ls : List (List UInt8)} {ao : Option Addr} {cap : Nat} (h : MvAt w m ls ao cap) (i : Nat) (c : Int) (hi : i < ls.length) :
    Calls Tryz.prog 82 #[.pointer (some ⟨m, 0, none⟩), .agg #[.int .i64 ((i : Int) + 1), .int .i64 c]] w fun e w' => e = .returned (.string ⟨(lnL ls i).toArray⟩) ∧ Below w.heap.size w w' := by
  have hlen := h.len
  have hal := (Below.refl w.heap.size w).alloc (Nat.le_refl _) (.cells #[.int .i64 ((i : Int) + 1), .int .i64 c] 49)
  have h1 := h.later hal
  obtain ⟨b, off, rfl, hc⟩ := h1.str hi
  have c0 := h1.c0
  have HB := Lib.hid hal
  have hii : (i : Int) < (ls.length : Int) := by omega
  have hml := lt_of_cell h.c0
  clear h h1 hal
  go_enter Tryz.func82, Tryz.ntmps82
  go_wp2_with fail
  go_region
  go_wp2_with fail
  go_returns
  exact ⟨rfl, HB.out.drew⟩
theorem kind_below (c : UInt8) (big : Bool) (w : World) : Calls Tryz.prog 111 #[.int .u8 (c.toNat : Int), .bool big] w fun e w' => e = .returned (.int .i64 (kindB c big : Int)) ∧ Below w.heap.size w w' :=
  (kind_any c big w).mono fun _ _ h => ⟨h.1, h.2 ▸ Below.refl _ _⟩
set_option maxRecDepth 100000 in
set_option maxHeartbeats 1000000 in
theorem empty_any {w : World} {m : Nat} {ls : List (List UInt8)} {ao : Option Addr} {cap : Nat} (h : MvAt w m ls ao cap) (i : Nat) (c : Int) (hi : i < ls.length) :
    Calls Tryz.prog 110 #[.pointer (some ⟨m, 0, none⟩), .agg #[.int .i64 ((i : Int) + 1), .int .i64 c]] w fun e w' => e = .returned (.bool (lnL ls i).isEmpty) ∧ Below w.heap.size w w' := by
  have hal := (Below.refl w.heap.size w).alloc (Nat.le_refl _) (.cells #[.int .i64 ((i : Int) + 1), .int .i64 c] 49)
  have HL := Lib.hid (line_any (h.later hal) i c hi)
  have HB := Lib.hid hal
  clear h hal
  go_enter Tryz.func110, Tryz.ntmps110
  go_wp2_with fail
  refine HL.out.mono ?_
  rintro e w1 ⟨rfl, hb⟩
  have HB1 := Lib.hid (HB.out.trans (hb.mono HB.out.size))
  clear hb HL
  go_wp2_with fail
  go_returns
  exact ⟨rfl, HB1.out⟩
set_option maxRecDepth 100000 in
set_option maxHeartbeats 1000000 in
theorem at_any {w : World} {m : Nat} {ls : List (List UInt8)} {ao : Option Addr} {cap : Nat} (h : MvAt w m ls ao cap) (p : Pl) (hp : Okp ls p) (big : Bool) :
    Calls Tryz.prog 109 #[.pointer (some ⟨m, 0, none⟩), plV p.1 p.2, .bool big] w fun e w' => e = .returned (.int .i64 (atK ls big p : Int)) ∧ Below w.heap.size w w' := by
  obtain ⟨i, c⟩ := p
  obtain ⟨hi, hc⟩ := hp
  simp only at hi hc
  unfold plV
  simp only
  have hal := (Below.refl w.heap.size w).alloc (Nat.le_refl _) (.cells #[.int .i64 ((i : Int) + 1), .int .i64 (c : Int)] 49)
  obtain ⟨w1, hw1⟩ : ∃ w1, w.alloc (.cells #[.int .i64 ((i : Int) + 1), .int .i64 (c : Int)] 49) = w1 := ⟨_, rfl⟩
  have hx : w1.heap[w.heap.size]? = some (.cells #[.int .i64 ((i : Int) + 1), .int .i64 (c : Int)] 49 (0, 0)) := by rw [← hw1]; exact heap_alloc_new w _
  rw [hw1] at hal
  have HM := Lib.hid (h.later hal)
  have HB := Lib.hid hal
  have HX := Lib.hid hx
  have x0 := Lib.cell_of_heap hx 0
  have x1 := Lib.cell_of_heap hx 1
  simp at x0 x1
  clear h hal hx
  go_enter Tryz.func109, Tryz.ntmps109
  go_wp2_with fail
  refine (empty_any HM.out i c hi).mono ?_
  rintro e w2 ⟨rfl, hb⟩
  have HM2 := Lib.hid (HM.out.later hb)
  have HX2 := Lib.hid ((hb.block _ (lt_of_heap HX.out)).trans HX.out)
  have HB2 := Lib.hid (HB.out.trans (hb.mono HB.out.size))
  clear hb x0 x1
  by_cases he : lnL ls i = []
  · have HR := Lib.hid (show atK ls big (i, c) = 0 by unfold atK; rw [if_pos he])
    rw [List.isEmpty_iff.2 he]
    go_wp2_with fail
    go_returns
    exact ⟨by rw [HR.out]; rfl, HB2.out⟩
  · have hcl : c < (lnL ls i).length := by
      rcases hc with hc | hc
      · have : 0 < (lnL ls i).length := List.length_pos_iff.2 he
        omega
      · exact hc
    have HR := Lib.hid (show atK ls big (i, c) = kindB ((lnL ls i).getD c 0) big by unfold atK; rw [if_neg he])
    rw [show (lnL ls i).isEmpty = false from by rw [Bool.eq_false_iff]; exact fun e => he (List.isEmpty_iff.1 e)]
    obtain ⟨l, hl⟩ : ∃ l, lnL ls i = l := ⟨_, rfl⟩
    rw [hl] at hcl HR
    have hgd : l.getD c 0 = l[c]'hcl := by rw [List.getD_eq_getElem?_getD, List.getElem?_eq_getElem hcl]; rfl
    rw [hgd] at HR
    have hby : ∀ h, (⟨l.toArray⟩ : ByteArray)[c]'h = l[c]'hcl := fun h => rfl
    have HSZ := size_mk l
    have hci : (c : Int) < (l.length : Int) := by omega
    have x0 := Lib.cell_of_heap HX2.out 0
    have x1 := Lib.cell_of_heap HX2.out 1
    simp at x0 x1
    have X0 := fun d os => cell_regrown x0 d os
    have X1 := fun d os => cell_regrown x1 d os
    have HLN := Lib.hid (fun d os => by have := line_any (HM2.out.later (below_regrown w2 d os)) i c hi; rw [hl] at this; exact this)
    have HKD := Lib.hid (fun d os => kind_below (l[c]'hcl) big (grow (redrawn w2 d) os))
    clear he hl hc x0 x1 hgd
    go_wp2_with fail
    refine wp_region_quiet_below (by kernel_rfl) (by kernel_rfl) ?_
    repeat (quiet_step (first | (with_reducible exact Calls.regrown_of (HLN.out _ _)) | (with_reducible exact Calls.regrown_of (HKD.out _ _))))
    refine wpQuiet_nil ?_
    intro _ hw'
    obtain ⟨⟨dq1, osq1⟩, hw''⟩ := hw'
    subst hw''
    have HB3 := Lib.hid (HB2.out.trans ((below_regrown w2 dq1 osq1).mono HB2.out.size))
    go_wp2_with fail
    go_returns
    exact ⟨by rw [HR.out]; rfl, HB3.out⟩
theorem two_cells {w : World} {b : Nat} {u0 u1 : Value} {T : TypeId} (h : w.heap[b]? = some (.cells #[u0, u1] T (0, 0))) (v0 v1 : Value) :
    ((w.setCell ⟨b, 0, none⟩ v0).setCell ⟨b, 1, none⟩ v1).cell? ⟨b, 0, none⟩ = some v0 ∧ ((w.setCell ⟨b, 0, none⟩ v0).setCell ⟨b, 1, none⟩ v1).cell? ⟨b, 1, none⟩ = some v1 := by
  have h1 := heap_set (j := 1) (heap_set (j := 0) h v0) v1
  have hc := Lib.cell_of_heap h1
  exact ⟨by rw [hc]; rfl, by rw [hc]; rfl⟩
/-- What a place's motion leaves in memory. -/
structure TwoBox (w wq : World) (i c : Nat) : Prop where
  x : wq.heap[w.heap.size]? = some (.cells #[.int .i64 ((i : Int) + 1), .int .i64 (c : Int)] 49 (0, 0))
  y : wq.heap[w.heap.size + 1]? = some (.cells #[.int .i64 0, .int .i64 0] 49 (0, 0))
  b : Below w.heap.size w wq
theorem TwoBox.later {w wq w' : World} {i c : Nat} (h : TwoBox w wq i c) (hb : Below wq.heap.size wq w') : TwoBox w w' i c :=
  ⟨(hb.block _ (lt_of_heap h.x)).trans h.x, (hb.block _ (lt_of_heap h.y)).trans h.y, h.b.trans (hb.mono h.b.size)⟩
theorem TwoBox.drewN {w wq : World} {i c : Nat} (h : TwoBox w wq i c) (n : Nat) : TwoBox w (wq.drewN n) i c := h.later (below_drewN (Below.refl _ _) n)
/-- The result's cells are laid. -/
theorem fin_two {w V : World} {u0 u1 : Value} (hy : V.heap[w.heap.size + 1]? = some (.cells #[u0, u1] 49 (0, 0))) (hb : Below w.heap.size w V) (a b : Value) :
    ((V.setCell ⟨w.heap.size + 1, 0, none⟩ a).setCell ⟨w.heap.size + 1, 1, none⟩ b).cell? ⟨w.heap.size + 1, 0, none⟩ = some a ∧ ((V.setCell ⟨w.heap.size + 1, 0, none⟩ a).setCell ⟨w.heap.size + 1, 1, none⟩ b).cell? ⟨w.heap.size + 1, 1, none⟩ = some b ∧
    Below w.heap.size w ((V.setCell ⟨w.heap.size + 1, 0, none⟩ a).setCell ⟨w.heap.size + 1, 1, none⟩ b) := by
  obtain ⟨h0, h1⟩ := two_cells hy a b
  exact ⟨h0, h1, (hb.setCell (p := ⟨w.heap.size + 1, 0, none⟩) (by show w.heap.size ≤ w.heap.size + 1; omega) _).setCell (p := ⟨w.heap.size + 1, 1, none⟩) (by show w.heap.size ≤ w.heap.size + 1; omega) _⟩
theorem TwoBox.x1 {w wq : World} {i c : Nat} (h : TwoBox w wq i c) (v : Value) : (wq.setCell ⟨w.heap.size, 1, none⟩ v).heap[w.heap.size + 1]? = some (.cells #[.int .i64 0, .int .i64 0] 49 (0, 0)) ∧ Below w.heap.size w (wq.setCell ⟨w.heap.size, 1, none⟩ v) :=
  ⟨(Below.heap_setCell _ _ _ _ (fun e => by have e' : w.heap.size + 1 = w.heap.size := e; omega)).trans h.y, h.b.setCell (p := ⟨w.heap.size, 1, none⟩) (Nat.le_refl _) _⟩
theorem TwoBox.x01 {w wq : World} {i c : Nat} (h : TwoBox w wq i c) (u v : Value) : ((wq.setCell ⟨w.heap.size, 0, none⟩ u).setCell ⟨w.heap.size, 1, none⟩ v).heap[w.heap.size + 1]? = some (.cells #[.int .i64 0, .int .i64 0] 49 (0, 0)) ∧ Below w.heap.size w ((wq.setCell ⟨w.heap.size, 0, none⟩ u).setCell ⟨w.heap.size, 1, none⟩ v) :=
  ⟨(Below.heap_setCell _ _ _ _ (fun e => by have e' : w.heap.size + 1 = w.heap.size := e; omega)).trans ((Below.heap_setCell _ _ _ _ (fun e => by have e' : w.heap.size + 1 = w.heap.size := e; omega)).trans h.y), (h.b.setCell (p := ⟨w.heap.size, 0, none⟩) (Nat.le_refl _) _).setCell (p := ⟨w.heap.size, 1, none⟩) (Nat.le_refl _) _⟩
theorem two_new (w : World) (i c : Nat) : TwoBox w ((w.alloc (.cells #[.int .i64 ((i : Int) + 1), .int .i64 (c : Int)] 49)).alloc (.cells #[.int .i64 0, .int .i64 0] 49)) i c := by
  refine ⟨?_, ?_, ((Below.refl _ _).alloc (Nat.le_refl _) _).alloc (by simp) _⟩
  · show ((w.heap.push _).push _)[w.heap.size]? = _
    rw [Array.getElem?_push, if_neg (by simp), Array.getElem?_push, if_pos rfl]
  · show ((w.heap.push _).push _)[w.heap.size + 1]? = _
    rw [Array.getElem?_push, if_pos (by simp)]
set_option maxRecDepth 100000 in
set_option maxHeartbeats 1000000 in
theorem on_any {w : World} {m : Nat} {ls : List (List UInt8)} {ao : Option Addr} {cap : Nat} (h : MvAt w m ls ao cap) (p : Pl) (hp : Okp ls p) :
    Calls Tryz.prog 112 #[.pointer (some ⟨m, 0, none⟩), plV p.1 p.2] w fun e w' => e = .returned (.tuple #[plV (onP ls p).1.1 (onP ls p).1.2, .bool (onP ls p).2]) ∧ Below w.heap.size w w' := by
  obtain ⟨i, c⟩ := p
  obtain ⟨hi, hc⟩ := hp
  simp only at hi hc
  unfold plV
  simp only
  obtain ⟨w2, hw2⟩ : ∃ w2, (w.alloc (.cells #[.int .i64 ((i : Int) + 1), .int .i64 (c : Int)] 49)).alloc (.cells #[.int .i64 0, .int .i64 0] 49) = w2 := ⟨_, rfl⟩
  have ht := two_new w i c
  rw [hw2] at ht
  have HT := Lib.hid ht
  have HM := Lib.hid (h.later ht.b)
  have x0 := Lib.cell_of_heap ht.x 0
  have x1 := Lib.cell_of_heap ht.x 1
  simp at x0 x1
  have hlen := h.len
  have X0 := fun d os => cell_regrown x0 d os
  have X1 := fun d os => cell_regrown x1 d os
  obtain ⟨l, hl⟩ : ∃ l, lnL ls i = l := ⟨_, rfl⟩
  have HLN := Lib.hid (fun d os => by have := line_any (HM.out.later (below_regrown w2 d os)) i c hi; rw [hl] at this; exact this)
  have HSZ := size_mk l
  have hcl : c ≤ l.length := by rw [hl] at hc; omega
  have hll := h.short i
  rw [hl] at hll
  have hfew := h.few
  have hwc : IntKind.i64.wrap ((c : Int) + 1) = (c : Int) + 1 := IntWalk.i64_in _ (by omega)
  have HWC := Lib.hid hwc
  clear hwc
  have HON := Lib.hid (show onP ls (i, c) = if c + 1 < l.length then ((i, c + 1), true) else if i + 1 < ls.length then ((i + 1, 0), true) else ((i, c), false) from by unfold onP; rw [hl])
  clear h ht x0 x1 hl hc
  go_enter Tryz.func112, Tryz.ntmps112
  go_wp2_with fail
  refine wp_region_quiet_below (by kernel_rfl) (by kernel_rfl) ?_
  repeat (quiet_step (with_reducible exact Calls.regrown_of (HLN.out _ _)))
  refine wpQuiet_nil ?_
  intro _ hw'
  obtain ⟨⟨dq1, osq1⟩, hw''⟩ := hw'
  subst hw''
  have HT3 := Lib.hid (HT.out.later (below_regrown w2 dq1 osq1))
  have HM3 := Lib.hid (HM.out.later (below_regrown w2 dq1 osq1))
  generalize grow (redrawn w2 dq1) osq1 = w3 at *
  clear X0 X1 HLN hw2 HT HM
  rw [HWC.out]
  have y0 := Lib.cell_of_heap HT3.out.y 0
  have y1 := Lib.cell_of_heap HT3.out.y 1
  have g0 := Lib.frozen_of_heap HT3.out.y 0
  have g1 := Lib.frozen_of_heap HT3.out.y 1
  have x0 := Lib.cell_of_heap HT3.out.x 0
  have x1 := Lib.cell_of_heap HT3.out.x 1
  have f0 := Lib.frozen_of_heap HT3.out.x 0
  have f1 := Lib.frozen_of_heap HT3.out.x 1
  have m0 := HM3.out.c0
  simp at x0 x1 y0 y1
  by_cases h1 : c + 1 < l.length
  · have HR := Lib.hid (show onP ls (i, c) = ((i, c + 1), true) by rw [HON.out, if_pos h1])
    have h1i : (c : Int) + 1 < (l.length : Int) := by omega
    go_wp2_with fail
    obtain ⟨t0, t1, hb⟩ := fin_two (HT3.out.x1 (.int .i64 ((c : Int) + 1))).1 (HT3.out.x1 (.int .i64 ((c : Int) + 1))).2 (.int .i64 ((i : Int) + 1)) (.int .i64 ((c : Int) + 1))
    refine bodyPost_ret (v := .tuple #[plV (onP ls (i, c)).1.1 (onP ls (i, c)).1.2, .bool (onP ls (i, c)).2]) ?_ rfl ?_
    · rw [HR.out]; unfold plV
      simp [results, Tryz.results112, go_sem, t0, t1]
    · exact ⟨rfl, hb⟩
  · have h1i : ¬ (c : Int) + 1 < (l.length : Int) := by omega
    by_cases h2 : i + 1 < ls.length
    · have HR := Lib.hid (show onP ls (i, c) = ((i + 1, 0), true) by rw [HON.out, if_neg h1, if_pos h2])
      have h2i : (i : Int) + 1 < (ls.length : Int) := by omega
      go_wp2_with fail
      go_quiet (fail)
      go_wp2_with fail
      obtain ⟨t0, t1, hb⟩ := fin_two ((HT3.out.drewN nq).x01 (.int .i64 ((i : Int) + 1 + 1)) (.int .i64 0)).1 ((HT3.out.drewN nq).x01 (.int .i64 ((i : Int) + 1 + 1)) (.int .i64 0)).2 (.int .i64 ((i : Int) + 1 + 1)) (.int .i64 0)
      refine bodyPost_ret (v := .tuple #[plV (onP ls (i, c)).1.1 (onP ls (i, c)).1.2, .bool (onP ls (i, c)).2]) ?_ rfl ?_
      · rw [HR.out]; unfold plV
        simp [results, Tryz.results112, go_sem, t0, t1]
      · exact ⟨rfl, hb⟩
    · have HR := Lib.hid (show onP ls (i, c) = ((i, c), false) by rw [HON.out, if_neg h1, if_neg h2])
      have h2i : ¬ (i : Int) + 1 < (ls.length : Int) := by omega
      go_wp2_with fail
      go_quiet (fail)
      go_wp2_with fail
      obtain ⟨t0, t1, hb⟩ := fin_two (HT3.out.drewN nq).y (HT3.out.drewN nq).b (.int .i64 ((i : Int) + 1)) (.int .i64 (c : Int))
      refine bodyPost_ret (v := .tuple #[plV (onP ls (i, c)).1.1 (onP ls (i, c)).1.2, .bool (onP ls (i, c)).2]) ?_ rfl ?_
      · rw [HR.out]; unfold plV
        simp [results, Tryz.results112, go_sem, t0, t1]
      · exact ⟨rfl, hb⟩
end Go.Proofs.YthhihondlihebaaGreatDoor
/- The walks of moves: back. -/
namespace Go.Proofs.YthhihondlihebaaGreatDoor
open Go Go.Proofs Go.RowKit Go.Ink Go.Sort

set_option maxRecDepth 100000 in
set_option maxHeartbeats 1000000 in
theorem back_col {w : World} {m : Nat} (i c : Nat) (hc : c ≤ 1000000) (hi : i ≤ 1000000) :
    Calls Tryz.prog 108 #[.pointer (some ⟨m, 0, none⟩), .agg #[.int .i64 ((i : Int) + 1), .int .i64 ((c : Int) + 1)]] w fun e w' => e = .returned (.tuple #[plV i c, .bool true]) ∧ Below w.heap.size w w' := by
  obtain ⟨w2, hw2⟩ : ∃ w2, (w.alloc (.cells #[.int .i64 ((i : Int) + 1), .int .i64 ((c : Int) + 1)] 49)).alloc (.cells #[.int .i64 0, .int .i64 0] 49) = w2 := ⟨_, rfl⟩
  have ht := two_new w i (c + 1)
  rw [show (((c + 1 : Nat)) : Int) = (c : Int) + 1 from by omega] at ht
  rw [hw2] at ht
  have HT := Lib.hid ht
  have x0 := Lib.cell_of_heap ht.x 0
  have x1 := Lib.cell_of_heap ht.x 1
  have f0 := Lib.frozen_of_heap ht.x 0
  have f1 := Lib.frozen_of_heap ht.x 1
  have y0 := Lib.cell_of_heap ht.y 0
  have y1 := Lib.cell_of_heap ht.y 1
  have g0 := Lib.frozen_of_heap ht.y 0
  have g1 := Lib.frozen_of_heap ht.y 1
  simp at x0 x1 y0 y1
  clear ht
  go_enter Tryz.func108, Tryz.ntmps108
  go_wp2_with fail
  obtain ⟨t0, t1, hb⟩ := fin_two (HT.out.x1 (.int .i64 (c : Int))).1 (HT.out.x1 (.int .i64 (c : Int))).2 (.int .i64 ((i : Int) + 1)) (.int .i64 (c : Int))
  refine bodyPost_ret (v := .tuple #[plV i c, .bool true]) ?_ rfl ?_
  · unfold plV
    simp [results, Tryz.results108, go_sem, t0, t1]
  · exact ⟨rfl, hb⟩
set_option maxRecDepth 100000 in
set_option maxHeartbeats 1000000 in
theorem back_none {w : World} {m : Nat} :
    Calls Tryz.prog 108 #[.pointer (some ⟨m, 0, none⟩), .agg #[.int .i64 1, .int .i64 0]] w fun e w' => e = .returned (.tuple #[plV 0 0, .bool false]) ∧ Below w.heap.size w w' := by
  obtain ⟨w2, hw2⟩ : ∃ w2, (w.alloc (.cells #[.int .i64 1, .int .i64 0] 49)).alloc (.cells #[.int .i64 0, .int .i64 0] 49) = w2 := ⟨_, rfl⟩
  have ht : TwoBox w ((w.alloc (.cells #[.int .i64 1, .int .i64 0] 49)).alloc (.cells #[.int .i64 0, .int .i64 0] 49)) 0 0 := two_new w 0 0
  rw [hw2] at ht
  have HT := Lib.hid ht
  have x0 := Lib.cell_of_heap ht.x 0
  have x1 := Lib.cell_of_heap ht.x 1
  have f0 := Lib.frozen_of_heap ht.x 0
  have f1 := Lib.frozen_of_heap ht.x 1
  have y0 := Lib.cell_of_heap ht.y 0
  have y1 := Lib.cell_of_heap ht.y 1
  have g0 := Lib.frozen_of_heap ht.y 0
  have g1 := Lib.frozen_of_heap ht.y 1
  simp at x0 x1 y0 y1
  clear ht
  go_enter Tryz.func108, Tryz.ntmps108
  go_wp2_with fail
  obtain ⟨t0, t1, hb⟩ := fin_two HT.out.y HT.out.b (.int .i64 1) (.int .i64 0)
  refine bodyPost_ret (v := .tuple #[plV 0 0, .bool false]) ?_ rfl ?_
  · unfold plV
    simp [results, Tryz.results108, go_sem, t0, t1]
  · exact ⟨rfl, hb⟩
set_option maxRecDepth 100000 in
set_option maxHeartbeats 1000000 in
theorem back_row {w : World} {m : Nat} {ls : List (List UInt8)} {ao : Option Addr} {cap : Nat} (h : MvAt w m ls ao cap) (k : Nat) (hk : k + 1 < ls.length) :
    Calls Tryz.prog 108 #[.pointer (some ⟨m, 0, none⟩), .agg #[.int .i64 ((k : Int) + 1 + 1), .int .i64 0]] w fun e w' => e = .returned (.tuple #[plV k ((lnL ls k).length - 1), .bool true]) ∧ Below w.heap.size w w' := by
  obtain ⟨w2, hw2⟩ : ∃ w2, (w.alloc (.cells #[.int .i64 ((k : Int) + 1 + 1), .int .i64 0] 49)).alloc (.cells #[.int .i64 0, .int .i64 0] 49) = w2 := ⟨_, rfl⟩
  have ht : TwoBox w ((w.alloc (.cells #[.int .i64 ((k : Int) + 1 + 1), .int .i64 0] 49)).alloc (.cells #[.int .i64 0, .int .i64 0] 49)) (k + 1) 0 := two_new w (k + 1) 0
  rw [hw2] at ht
  have HT := Lib.hid ht
  have x0 := Lib.cell_of_heap ht.x 0
  have x1 := Lib.cell_of_heap ht.x 1
  have f0 := Lib.frozen_of_heap ht.x 0
  have f1 := Lib.frozen_of_heap ht.x 1
  have y0 := Lib.cell_of_heap ht.y 0
  have y1 := Lib.cell_of_heap ht.y 1
  have g0 := Lib.frozen_of_heap ht.y 0
  have g1 := Lib.frozen_of_heap ht.y 1
  simp at x0 x1 y0 y1
  have hkl : k ≤ 1000000 := by have := h.few; omega
  have HB := Lib.hid (ht.b.setCell (p := ⟨w.heap.size, 0, none⟩) (Nat.le_refl _) (.int .i64 ((k : Int) + 1)))
  have HM := Lib.hid (h.later HB.out)
  have hsh := h.short k
  have hx := heap_set (j := 0) ht.x (.int .i64 ((k : Int) + 1))
  have HX := Lib.hid hx
  have HY := Lib.hid ((Below.heap_setCell w2 ⟨w.heap.size, 0, none⟩ (.int .i64 ((k : Int) + 1)) (w.heap.size + 1) (fun e => by have e' : w.heap.size + 1 = w.heap.size := e; omega)).trans ht.y)
  clear ht h hx
  go_enter Tryz.func108, Tryz.ntmps108
  go_wp2_with fail
  refine (line_any HM.out k 0 (by omega)).mono ?_
  rintro e w3 ⟨rfl, hb3⟩
  have hx3 := (hb3.block _ (lt_of_heap HX.out)).trans HX.out
  have hy3 := (hb3.block _ (lt_of_heap HY.out)).trans HY.out
  have HX3 := Lib.hid hx3
  have HY3 := Lib.hid hy3
  have HB3 := Lib.hid (HB.out.trans (hb3.mono HB.out.size))
  have HSZ := size_mk (lnL ls k)
  have hmx : max ((lnL ls k).length - 1 : Int) 0 = (((lnL ls k).length - 1 : Nat) : Int) := by omega
  have HMX := Lib.hid hmx
  clear hb3 hx3 hy3 x0 x1 y0 y1 f0 f1 g0 g1 hmx HB HM HX HY HT hw2
  generalize hlk : lnL ls k = l at *
  have HLK := Lib.hid hlk
  clear hlk
  have x0 := Lib.cell_of_heap HX3.out 0
  have x1 := Lib.cell_of_heap HX3.out 1
  have f0 := Lib.frozen_of_heap HX3.out 0
  have f1 := Lib.frozen_of_heap HX3.out 1
  have y0 := Lib.cell_of_heap HY3.out 0
  have y1 := Lib.cell_of_heap HY3.out 1
  have g0 := Lib.frozen_of_heap HY3.out 0
  have g1 := Lib.frozen_of_heap HY3.out 1
  simp at x0 x1 y0 y1
  go_wp2_with fail
  all_goals first
  | (have hv : (((l.length - 1 : Nat)) : Int) = (l.length : Int) - 1 := by omega
     have hx1 : (w3.setCell ⟨w.heap.size, 1, none⟩ (.int .i64 ((l.length : Int) - 1))).heap[w.heap.size + 1]? = some (.cells #[.int .i64 0, .int .i64 0] 49 (0, 0)) := (Below.heap_setCell _ _ _ _ (fun e => by have e' : w.heap.size + 1 = w.heap.size := e; omega)).trans HY3.out
     obtain ⟨t0, t1, hb⟩ := fin_two hx1 (HB3.out.setCell (p := ⟨w.heap.size, 1, none⟩) (Nat.le_refl _) _) (.int .i64 ((k : Int) + 1)) (.int .i64 ((l.length : Int) - 1))
     have t0' := cell_set hx1 (j := 0) (by simp) (.int .i64 ((k : Int) + 1))
     refine bodyPost_ret (v := .tuple #[plV k ((lnL ls k).length - 1), .bool true]) ?_ rfl ?_
     · unfold plV
       rw [HLK.out, hv]
       simp [results, Tryz.results108, go_sem, t0, t0', t1]
     · exact ⟨rfl, hb⟩)
  | (have hv : (((l.length - 1 : Nat)) : Int) = 0 := by omega
     have hx1 : (w3.setCell ⟨w.heap.size, 1, none⟩ (.int .i64 (0))).heap[w.heap.size + 1]? = some (.cells #[.int .i64 0, .int .i64 0] 49 (0, 0)) := (Below.heap_setCell _ _ _ _ (fun e => by have e' : w.heap.size + 1 = w.heap.size := e; omega)).trans HY3.out
     obtain ⟨t0, t1, hb⟩ := fin_two hx1 (HB3.out.setCell (p := ⟨w.heap.size, 1, none⟩) (Nat.le_refl _) _) (.int .i64 ((k : Int) + 1)) (.int .i64 (0))
     have t0' := cell_set hx1 (j := 0) (by simp) (.int .i64 ((k : Int) + 1))
     refine bodyPost_ret (v := .tuple #[plV k ((lnL ls k).length - 1), .bool true]) ?_ rfl ?_
     · unfold plV
       rw [HLK.out, hv]
       simp [results, Tryz.results108, go_sem, t0, t0', t1]
     · exact ⟨rfl, hb⟩)
theorem back_any {w : World} {m : Nat} {ls : List (List UInt8)} {ao : Option Addr} {cap : Nat} (h : MvAt w m ls ao cap) (p : Pl) (hp : Okp ls p) :
    Calls Tryz.prog 108 #[.pointer (some ⟨m, 0, none⟩), plV p.1 p.2] w fun e w' => e = .returned (.tuple #[plV (backP ls p).1.1 (backP ls p).1.2, .bool (backP ls p).2]) ∧ Below w.heap.size w w' := by
  obtain ⟨i, c⟩ := p
  obtain ⟨hi, hc⟩ := hp
  simp only at hi hc
  have hsh := h.short i
  have hfew := h.few
  match c with
  | c + 1 =>
    have e : backP ls (i, c + 1) = ((i, c), true) := by unfold backP; rw [if_pos (by simp)]; rfl
    rw [e]
    have := @back_col w m i c (by omega) (by omega)
    have e2 : plV i (c + 1) = .agg #[.int .i64 ((i : Int) + 1), .int .i64 ((c : Int) + 1)] := by unfold plV; rw [show (((c + 1 : Nat)) : Int) = (c : Int) + 1 from by omega]
    show Calls _ _ #[_, plV i (c + 1)] _ _
    rw [e2]; exact this
  | 0 =>
    match i with
    | 0 =>
      have e : backP ls (0, 0) = ((0, 0), false) := by unfold backP; rw [if_neg (by simp), if_neg (by simp)]
      rw [e]
      exact back_none
    | k + 1 =>
      have e : backP ls (k + 1, 0) = ((k, (lnL ls k).length - 1), true) := by unfold backP; rw [if_neg (by simp), if_pos (by simp)]; rfl
      rw [e]
      have := back_row h k hi
      have e2 : plV (k + 1) 0 = .agg #[.int .i64 ((k : Int) + 1 + 1), .int .i64 0] := by unfold plV; rw [show (((k + 1 : Nat)) : Int) = (k : Int) + 1 from by omega]; rfl
      show Calls _ _ #[_, plV (k + 1) 0] _ _
      rw [e2]; exact this
end Go.Proofs.YthhihondlihebaaGreatDoor
/- The walks of moves: word. -/
namespace Go.Proofs.YthhihondlihebaaGreatDoor
open Go Go.Proofs Go.RowKit Go.Ink Go.Sort

/-- The place that lies in a box. -/
def plOf (w : World) (x : Nat) : Pl := match w.cell? ⟨x, 0, none⟩, w.cell? ⟨x, 1, none⟩ with
  | some (.int _ a), some (.int _ b) => ((a - 1).toNat, b.toNat)
  | _, _ => (0, 0)
theorem plOf_eq {w : World} {x i c : Nat} (h0 : w.cell? ⟨x, 0, none⟩ = some (.int .i64 ((i : Int) + 1))) (h1 : w.cell? ⟨x, 1, none⟩ = some (.int .i64 (c : Int))) : plOf w x = (i, c) := by
  unfold plOf
  rw [h0, h1]
  simp
/-- A place in a box, made by the call that began in w; the motion stands. -/
structure PlAt (w wr : World) (x : Nat) (p : Pl) : Prop where
  box : wr.heap[x]? = some (.cells #[.int .i64 ((p.1 : Int) + 1), .int .i64 (p.2 : Int)] 49 (0, 0))
  new : w.heap.size ≤ x
  below : Below w.heap.size w wr
theorem PlAt.later {w wr w' : World} {x : Nat} {p : Pl} (h : PlAt w wr x p) (hb : Below wr.heap.size wr w') : PlAt w w' x p :=
  ⟨(hb.block _ (lt_of_heap h.box)).trans h.box, h.new, h.below.trans (hb.mono h.below.size)⟩
theorem PlAt.cells {w wr : World} {x : Nat} {p : Pl} (h : PlAt w wr x p) : wr.cell? ⟨x, 0, none⟩ = some (.int .i64 ((p.1 : Int) + 1)) ∧ wr.cell? ⟨x, 1, none⟩ = some (.int .i64 (p.2 : Int)) ∧ wr.frozen? ⟨x, 0, none⟩ = false ∧ wr.frozen? ⟨x, 1, none⟩ = false := by
  have hc := Lib.cell_of_heap h.box
  exact ⟨by rw [hc]; rfl, by rw [hc]; rfl, Lib.frozen_of_heap h.box 0, Lib.frozen_of_heap h.box 1⟩
/-- Another place is stored. -/
theorem PlAt.set {w wr : World} {x : Nat} {p : Pl} (h : PlAt w wr x p) (q : Pl) : PlAt w ((wr.setCell ⟨x, 0, none⟩ (.int .i64 ((q.1 : Int) + 1))).setCell ⟨x, 1, none⟩ (.int .i64 (q.2 : Int))) x q := by
  refine ⟨?_, h.new, (h.below.setCell (p := ⟨x, 0, none⟩) h.new _).setCell (p := ⟨x, 1, none⟩) h.new _⟩
  rw [heap_set (j := 1) (heap_set (j := 0) h.box _) _]; rfl
theorem PlAt.of {w wr : World} {x : Nat} {p : Pl} (h : PlAt w wr x p) : plOf wr x = p := by
  obtain ⟨h0, h1, _, _⟩ := h.cells
  rw [plOf_eq h0 h1]
/-- How far a walk on has to go. -/
def tv : Value → Nat
  | .bool true => 1
  | _ => 0
def leftP (ls : List (List UInt8)) (p : Pl) (ok : Value) : Nat := 2 * (allN ls - idx ls p) + tv ok
theorem left_on {ls : List (List UInt8)} {q : Pl} (h : Okp ls q) : leftP ls (onP ls q).1 (.bool (onP ls q).2) < leftP ls q (.bool true) := by
  obtain ⟨h1, h2, h3⟩ := on_ok h
  have h4 := idx_lt h
  unfold leftP
  cases hb : (onP ls q).2 with
  | true => have := h2 hb; simp only [tv]; omega
  | false => rw [(h3 hb).1]; simp only [tv]; omega
/-- What stands behind the first loop, and the second one. -/
structure WdAt (w wr : World) (ls : List (List UInt8)) (x : Nat) (q : Pl) : Prop where
  pl : PlAt w wr x q
  y : wr.heap[x + 1]? = some (.cells #[.int .i64 0, .int .i64 0] 49 (0, 0))
  ok : Okp ls q
theorem WdAt.later {w wr w' : World} {ls : List (List UInt8)} {x : Nat} {q : Pl} (h : WdAt w wr ls x q) (hb : Below wr.heap.size wr w') : WdAt w w' ls x q :=
  ⟨h.pl.later hb, (hb.block _ (lt_of_heap h.y)).trans h.y, h.ok⟩
theorem WdAt.set {w wr : World} {ls : List (List UInt8)} {x : Nat} {q : Pl} (h : WdAt w wr ls x q) {r : Pl} (hr : Okp ls r) : WdAt w ((wr.setCell ⟨x, 0, none⟩ (.int .i64 ((r.1 : Int) + 1))).setCell ⟨x, 1, none⟩ (.int .i64 (r.2 : Int))) ls x r := by
  refine ⟨h.pl.set r, ?_, hr⟩
  rw [Below.heap_setCell _ _ _ _ (fun e => by have e' : x + 1 = x := e; omega), Below.heap_setCell _ _ _ _ (fun e => by have e' : x + 1 = x := e; omega)]
  exact h.y
theorem fin_x {w V : World} {x : Nat} {u0 u1 : Value} (hy : V.heap[x + 1]? = some (.cells #[u0, u1] 49 (0, 0))) (hx : w.heap.size ≤ x) (hb : Below w.heap.size w V) (a b : Value) :
    ((V.setCell ⟨x + 1, 0, none⟩ a).setCell ⟨x + 1, 1, none⟩ b).cell? ⟨x + 1, 0, none⟩ = some a ∧ ((V.setCell ⟨x + 1, 0, none⟩ a).setCell ⟨x + 1, 1, none⟩ b).cell? ⟨x + 1, 1, none⟩ = some b ∧
    Below w.heap.size w ((V.setCell ⟨x + 1, 0, none⟩ a).setCell ⟨x + 1, 1, none⟩ b) ∧ (V.setCell ⟨x + 1, 0, none⟩ a).cell? ⟨x + 1, 0, none⟩ = some a := by
  obtain ⟨h0, h1⟩ := two_cells hy a b
  exact ⟨h0, h1, (hb.setCell (p := ⟨x + 1, 0, none⟩) (by show w.heap.size ≤ x + 1; omega) _).setCell (p := ⟨x + 1, 1, none⟩) (by show w.heap.size ≤ x + 1; omega) _, cell_set hy (by simp) _⟩
set_option maxRecDepth 100000 in
set_option maxHeartbeats 4000000 in
theorem word_any {w : World} {m : Nat} {ls : List (List UInt8)} {ao : Option Addr} {cap : Nat} (h : MvAt w m ls ao cap) (p : Pl) (hp : Okp ls p) (big : Bool) :
    Calls Tryz.prog 107 #[.pointer (some ⟨m, 0, none⟩), plV p.1 p.2, .bool big] w fun e w' => e = .returned (.tuple #[plV (wordP ls big p).1.1 (wordP ls big p).1.2, .bool (wordP ls big p).2]) ∧ Below w.heap.size w w' := by
  obtain ⟨w2, hw2⟩ : ∃ w2, (w.alloc (.cells #[.int .i64 ((p.1 : Int) + 1), .int .i64 (p.2 : Int)] 49)).alloc (.cells #[.int .i64 0, .int .i64 0] 49) = w2 := ⟨_, rfl⟩
  have ht := two_new w p.1 p.2
  rw [hw2] at ht
  have HT := Lib.hid ht
  have HH := Lib.hid h
  have HP := Lib.hid hp
  have x0 := Lib.cell_of_heap ht.x 0
  have x1 := Lib.cell_of_heap ht.x 1
  simp at x0 x1
  have X0 := fun d os => cell_regrown x0 d os
  have X1 := fun d os => cell_regrown x1 d os
  have HAT := Lib.hid (fun d os => at_any ((h.later ht.b).later (below_regrown w2 d os)) p hp big)
  clear h ht x0 x1 hp
  unfold plV at HAT ⊢
  go_enter Tryz.func107, Tryz.ntmps107
  go_wp2_with fail
  refine wp_region_quiet_below (by kernel_rfl) (by kernel_rfl) ?_
  repeat (quiet_step (with_reducible exact Calls.regrown_of (HAT.out _ _)))
  refine wpQuiet_nil ?_
  intro _ hw'
  obtain ⟨⟨dq1, osq1⟩, hw''⟩ := hw'
  subst hw''
  have HT3 := Lib.hid (HT.out.later (below_regrown w2 dq1 osq1))
  generalize grow (redrawn w2 dq1) osq1 = w3 at *
  have HX3 := Lib.hid (show PlAt w w3 w.heap.size p from ⟨HT3.out.x, Nat.le_refl _, HT3.out.b⟩)
  have HY3 := Lib.hid HT3.out.y
  obtain ⟨k, hk⟩ : ∃ k, atK ls big p = k := ⟨_, rfl⟩
  rw [hk]
  have HK := Lib.hid hk
  clear X0 X1 HAT hw2 HT HT3 hk
  generalize hxx : w.heap.size = x at HX3 HY3 ⊢
  have HXX := Lib.hid hxx
  clear hxx
  have HW3 := Lib.hid (show WdAt w w3 ls x p from ⟨HX3.out, HY3.out, HP.out⟩)
  clear HX3 HY3
  go_upto_block 0 with fail
  go_cut [10] from 17 to 45 (fun okv wx => ∃ (q : Pl) (ok : Bool), okv = .bool ok ∧ Hid (WdAt w wx ls x q) ∧ Hid (wd1 ls big k p.1 (allN ls) p true = (q, ok)) ∧ Hid (ok = false → idx ls q + 1 = allN ls))
  case first =>
    go_wp2_with fail
    go_loopw [10] (fun okv wr => ∃ (q : Pl) (ok : Bool) (f : Nat), okv = .bool ok ∧ Hid (WdAt w wr ls x q) ∧ Hid (wd1 ls big k p.1 (allN ls) p true = wd1 ls big k p.1 f q ok) ∧ Hid (ok = false → idx ls q + 1 = allN ls) ∧ Hid (ok = true → allN ls ≤ f + idx ls q)) (fun okv wr => leftP ls (plOf wr x) okv)
    case atStart => exact ⟨p, true, allN ls, rfl, HW3, Lib.hid rfl, Lib.hid (fun e => by simp at e), Lib.hid (fun _ => by omega)⟩
    case round =>
      obtain ⟨q, ok, f, rfl, HWQ, HE, HO, HF⟩ := hrel
      clear HW3
      cases ok
      · go_wp2_with fail
        go_meet
        case rel => exact ⟨q, false, rfl, HWQ, Lib.hid (by rw [HE.out, wd1_off]), Lib.hid (fun _ => HO.out (by trivial))⟩
      · obtain ⟨f, rfl⟩ : ∃ f', f = f' + 1 := ⟨f - 1, by have a1 := HF.out rfl; have a2 := idx_lt HWQ.out.ok; omega⟩
        have HS := Lib.hid (wd1_succ ls big k p.1 f q true)
        obtain ⟨x0, x1, f0, f1⟩ := HWQ.out.pl.cells
        have HMQ := Lib.hid (HH.out.later HWQ.out.pl.below)
        by_cases hk0 : 0 < k
        case neg =>
          have hk0i : ¬ (0 : Int) < (k : Int) := by omega
          go_wp2_with fail
          go_meet
          case rel => exact ⟨q, true, rfl, HWQ, Lib.hid (by rw [HE.out, HS.out, if_neg (by rintro ⟨_, h, _⟩; exact hk0 h)]), Lib.hid (fun e => by simp at e)⟩
        have hk0i : (0 : Int) < (k : Int) := by omega
        by_cases hl : q.1 = p.1
        case neg =>
          have hlb : (((q.1 : Int) + 1) == ((p.1 : Int) + 1)) = false := by rw [beq_eq_false_iff_ne]; omega
          have HNL := Lib.hid hl
          clear hl
          go_wp2_with fail
          go_meet
          case rel => exact ⟨q, true, rfl, HWQ, Lib.hid (by rw [HE.out, HS.out, if_neg (by rintro ⟨_, _, h, _⟩; exact HNL.out h)]), Lib.hid (fun e => by simp at e)⟩
        have HLQ := Lib.hid hl
        have hlb : (((q.1 : Int) + 1) == ((p.1 : Int) + 1)) = true := by rw [beq_iff_eq]; omega
        clear hl
        go_wp2_with fail
        have hat := at_any HMQ.out q HWQ.out.ok big
        unfold plV at hat
        refine hat.mono ?_
        rintro e w4 ⟨rfl, hb4⟩
        have HW4 := Lib.hid (HWQ.out.later hb4)
        have HM4 := Lib.hid (HMQ.out.later hb4)
        clear hat hb4 x0 x1 f0 f1
        obtain ⟨x0, x1, f0, f1⟩ := HW4.out.pl.cells
        by_cases ha : atK ls big q = k
        case neg =>
          have hab : ((atK ls big q : Int) == (k : Int)) = false := by rw [beq_eq_false_iff_ne]; omega
          have HNA := Lib.hid ha
          clear ha
          go_wp2_with fail
          go_meet
          case rel => exact ⟨q, true, rfl, HW4, Lib.hid (by rw [HE.out, HS.out, if_neg (by rintro ⟨_, _, _, h⟩; exact HNA.out h)]), Lib.hid (fun e => by simp at e)⟩
        have hab : ((atK ls big q : Int) == (k : Int)) = true := by rw [beq_iff_eq]; omega
        have HAQ := Lib.hid ha
        clear ha
        go_wp2_with fail
        have hon := on_any HM4.out q HW4.out.ok
        unfold plV at hon
        refine hon.mono ?_
        rintro e w5 ⟨rfl, hb5⟩
        have HW5 := Lib.hid (HW4.out.later hb5)
        obtain ⟨ho1, ho2, ho3⟩ := on_ok HW4.out.ok
        have HW6 := Lib.hid (HW5.out.set ho1)
        have HO3 : Hid ((onP ls q).2 = false → idx ls (onP ls q).1 + 1 = allN ls) := Lib.hid (fun hb => by rw [(ho3 hb).1]; exact (ho3 hb).2)
        have HF6 : Hid ((onP ls q).2 = true → allN ls ≤ f + idx ls (onP ls q).1) := Lib.hid (fun hb => by have a1 := ho2 hb; have a2 := HF.out (by trivial); omega)
        have HLT := Lib.hid (left_on HW4.out.ok)
        have HPQ := Lib.hid HW4.out.pl.of
        clear hon hb5 ho1 ho2 ho3 x0 x1 f0 f1
        obtain ⟨x0, x1, f0, f1⟩ := HW5.out.pl.cells
        by_cases hn : (onP ls q).1.1 = p.1
        case neg =>
          have hnb : ((((onP ls q).1.1 : Int) + 1) == ((p.1 : Int) + 1)) = false := by rw [beq_eq_false_iff_ne]; omega
          have HE6 : Hid (wd1 ls big k p.1 (allN ls) p true = ((onP ls q).1, (onP ls q).2)) := Lib.hid (by rw [HE.out, HS.out, if_pos ⟨by trivial, hk0, HLQ.out, HAQ.out⟩, if_pos hn])
          clear hn
          go_wp2_with fail
          go_meet
          case rel => exact ⟨(onP ls q).1, (onP ls q).2, rfl, HW6, HE6, HO3⟩
        have hnb : ((((onP ls q).1.1 : Int) + 1) == ((p.1 : Int) + 1)) = true := by rw [beq_iff_eq]; omega
        have HE6 : Hid (wd1 ls big k p.1 (allN ls) p true = wd1 ls big k p.1 f (onP ls q).1 (onP ls q).2) := Lib.hid (by rw [HE.out, HS.out, if_pos ⟨by trivial, hk0, HLQ.out, HAQ.out⟩, if_neg (by simp [hn])])
        clear hn
        go_wp2_with fail
        go_roundw
        case rel => exact ⟨(onP ls q).1, (onP ls q).2, f, rfl, HW6, HE6, HO3, HF6⟩
        case measure =>
          rw [HW6.out.pl.of, HWQ.out.pl.of]
          exact left_on HWQ.out.ok
  case rest =>
    obtain ⟨q0, ok0, rfl, HW0, HE, HO⟩ := hcut
    have HWP := Lib.hid (show wordP ls big p = wd2 ls big p.1 (allN ls) q0 ok0 from by unfold wordP; rw [HK.out, HE.out])
    clear HE HO HW3
    go_upto_block 2 with fail
    go_cut [10] from 46 to 71 (fun okv wx => ∃ (q : Pl) (ok : Bool), okv = .bool ok ∧ Hid (WdAt w wx ls x q) ∧ Hid (wd2 ls big p.1 (allN ls) q0 ok0 = (q, ok)))
    case first =>
      go_wp2_with fail
      go_loopw [10] (fun okv wr => ∃ (q : Pl) (ok : Bool) (f : Nat), okv = .bool ok ∧ Hid (WdAt w wr ls x q) ∧ Hid (wd2 ls big p.1 (allN ls) q0 ok0 = wd2 ls big p.1 f q ok) ∧ Hid (ok = true → allN ls ≤ f + idx ls q)) (fun okv wr => leftP ls (plOf wr x) okv)
      case atStart => exact ⟨q0, ok0, allN ls, rfl, HW0, Lib.hid rfl, Lib.hid (fun _ => by omega)⟩
      case round =>
        obtain ⟨q, ok, f, rfl, HWQ, HE2, HF⟩ := hrel
        clear HW0
        cases ok
        · go_wp2_with fail
          go_meet
          case rel => exact ⟨q, false, rfl, HWQ, Lib.hid (by rw [HE2.out, wd2_off])⟩
        obtain ⟨f, rfl⟩ : ∃ f', f = f' + 1 := ⟨f - 1, by have a1 := HF.out (by trivial); have a2 := idx_lt HWQ.out.ok; omega⟩
        have HS := Lib.hid (wd2_succ ls big p.1 f q true)
        obtain ⟨x0, x1, f0, f1⟩ := HWQ.out.pl.cells
        have HMQ := Lib.hid (HH.out.later HWQ.out.pl.below)
        go_wp2_with fail
        have hat := at_any HMQ.out q HWQ.out.ok big
        unfold plV at hat
        refine hat.mono ?_
        rintro e w4 ⟨rfl, hb4⟩
        have HW4 := Lib.hid (HWQ.out.later hb4)
        have HM4 := Lib.hid (HMQ.out.later hb4)
        clear hat hb4 x0 x1 f0 f1
        obtain ⟨x0, x1, f0, f1⟩ := HW4.out.pl.cells
        by_cases ha : atK ls big q = 0
        case neg =>
          have hab : ((atK ls big q : Int) == 0) = false := by rw [beq_eq_false_iff_ne]; omega
          have HNA := Lib.hid ha
          clear ha
          go_wp2_with fail
          go_meet
          case rel => exact ⟨q, true, rfl, HW4, Lib.hid (by rw [HE2.out, HS.out, if_neg (by rintro ⟨_, h, _⟩; exact HNA.out h)])⟩
        have hab : ((atK ls big q : Int) == 0) = true := by rw [beq_iff_eq]; omega
        have HAQ := Lib.hid ha
        clear ha
        go_wp2_with fail
        refine (empty_any HM4.out q.1 q.2 HW4.out.ok.1).mono ?_
        rintro e w5 ⟨rfl, hb5⟩
        have HW5 := Lib.hid (HW4.out.later hb5)
        have HM5 := Lib.hid (HM4.out.later hb5)
        clear hb5 x0 x1 f0 f1
        obtain ⟨x0, x1, f0, f1⟩ := HW5.out.pl.cells
        by_cases he : lnL ls q.1 = []
        · have HEQ := Lib.hid he
          rw [List.isEmpty_iff.2 he]
          clear he
          by_cases hl : q.1 = p.1
          case neg =>
            have hlb : (((q.1 : Int) + 1) == ((p.1 : Int) + 1)) = false := by rw [beq_eq_false_iff_ne]; omega
            have HNL := Lib.hid hl
            clear hl
            go_wp2_with fail
            go_meet
            case rel => exact ⟨q, true, rfl, HW5, Lib.hid (by rw [HE2.out, HS.out, if_neg (by rintro ⟨_, _, h⟩; rcases h with h | h; exact h HEQ.out; exact HNL.out h)])⟩
          have HLQ := Lib.hid hl
          have hlb : (((q.1 : Int) + 1) == ((p.1 : Int) + 1)) = true := by rw [beq_iff_eq]; omega
          clear hl
          go_wp2_with fail
          have hon := on_any HM5.out q HW5.out.ok
          unfold plV at hon
          refine hon.mono ?_
          rintro e w6 ⟨rfl, hb6⟩
          have HW6 := Lib.hid (HW5.out.later hb6)
          obtain ⟨ho1, ho2, ho3⟩ := on_ok HW5.out.ok
          have HW7 := Lib.hid (HW6.out.set ho1)
          have HF7 : Hid ((onP ls q).2 = true → allN ls ≤ f + idx ls (onP ls q).1) := Lib.hid (fun hb => by have a1 := ho2 hb; have a2 := HF.out (by trivial); omega)
          have HE7 : Hid (wd2 ls big p.1 (allN ls) q0 ok0 = wd2 ls big p.1 f (onP ls q).1 (onP ls q).2) := Lib.hid (by rw [HE2.out, HS.out, if_pos ⟨by trivial, HAQ.out, .inr HLQ.out⟩])
          clear hon hb6 ho1 ho2 ho3 x0 x1 f0 f1
          obtain ⟨x0, x1, f0, f1⟩ := HW6.out.pl.cells
          go_wp2_with fail
          go_roundw
          case rel => exact ⟨(onP ls q).1, (onP ls q).2, f, rfl, HW7, HE7, HF7⟩
          case measure =>
            rw [HW7.out.pl.of, HWQ.out.pl.of]
            exact left_on HWQ.out.ok
        · have HEQ := Lib.hid he
          rw [show (lnL ls q.1).isEmpty = false from by rw [Bool.eq_false_iff]; exact fun e => he (List.isEmpty_iff.1 e)]
          clear he
          go_wp2_with fail
          have hon := on_any HM5.out q HW5.out.ok
          unfold plV at hon
          refine hon.mono ?_
          rintro e w6 ⟨rfl, hb6⟩
          have HW6 := Lib.hid (HW5.out.later hb6)
          obtain ⟨ho1, ho2, ho3⟩ := on_ok HW5.out.ok
          have HW7 := Lib.hid (HW6.out.set ho1)
          have HF7 : Hid ((onP ls q).2 = true → allN ls ≤ f + idx ls (onP ls q).1) := Lib.hid (fun hb => by have a1 := ho2 hb; have a2 := HF.out (by trivial); omega)
          have HE7 : Hid (wd2 ls big p.1 (allN ls) q0 ok0 = wd2 ls big p.1 f (onP ls q).1 (onP ls q).2) := Lib.hid (by rw [HE2.out, HS.out, if_pos ⟨by trivial, HAQ.out, .inl HEQ.out⟩])
          clear hon hb6 ho1 ho2 ho3 x0 x1 f0 f1
          obtain ⟨x0, x1, f0, f1⟩ := HW6.out.pl.cells
          go_wp2_with fail
          go_roundw
          case rel => exact ⟨(onP ls q).1, (onP ls q).2, f, rfl, HW7, HE7, HF7⟩
          case measure =>
            rw [HW7.out.pl.of, HWQ.out.pl.of]
            exact left_on HWQ.out.ok
    case rest =>
      obtain ⟨q, ok, rfl, HWQ, HE2⟩ := hcut
      have HR := Lib.hid (show wordP ls big p = (q, ok) from by rw [HWP.out, HE2.out])
      obtain ⟨x0, x1, f0, f1⟩ := HWQ.out.pl.cells
      have y0 := Lib.cell_of_heap HWQ.out.y 0
      have y1 := Lib.cell_of_heap HWQ.out.y 1
      have g0 := Lib.frozen_of_heap HWQ.out.y 0
      have g1 := Lib.frozen_of_heap HWQ.out.y 1
      simp at y0 y1
      clear HWP HE2 HW0
      go_wp2_with fail
      obtain ⟨t0, t1, hb, t0'⟩ := fin_x HWQ.out.y HWQ.out.pl.new HWQ.out.pl.below (.int .i64 ((q.1 : Int) + 1)) (.int .i64 (q.2 : Int))
      refine bodyPost_ret (v := .tuple #[plV (wordP ls big p).1.1 (wordP ls big p).1.2, .bool (wordP ls big p).2]) ?_ rfl ?_
      · rw [HR.out]; unfold plV
        simp [results, Tryz.results107, go_sem, t0, t0', t1]
      · exact ⟨rfl, hb⟩
end Go.Proofs.YthhihondlihebaaGreatDoor
/- The walks of moves: words. -/
namespace Go.Proofs.YthhihondlihebaaGreatDoor
open Go Go.Proofs Go.RowKit Go.Ink Go.Sort

/-- A motion that is being done: its lines, its place, its count. -/
structure MwAt (w : World) (m : Nat) (ls : List (List UInt8)) (ao : Option Addr) (cap : Nat) (p : Pl) (n : Nat) : Prop where
  mv : MvAt w m ls ao cap
  c1 : w.cell? ⟨m, 1, none⟩ = some (.int .i64 ((p.1 : Int) + 1))
  c2 : w.cell? ⟨m, 2, none⟩ = some (.int .i64 (p.2 : Int))
  cn : w.cell? ⟨m, 36, none⟩ = some (.int .i64 (n : Int))
  small : n ≤ 1000000
  ok : Okp ls p
theorem MwAt.later {w w' : World} {m : Nat} {ls : List (List UInt8)} {ao : Option Addr} {cap : Nat} {p : Pl} {n : Nat} (h : MwAt w m ls ao cap p n) (hb : Below w.heap.size w w') : MwAt w' m ls ao cap p n :=
  ⟨h.mv.later hb, (hb.cell (p := ⟨m, 1, none⟩) (lt_of_cell h.c1)).trans h.c1, (hb.cell (p := ⟨m, 2, none⟩) (lt_of_cell h.c2)).trans h.c2, (hb.cell (p := ⟨m, 36, none⟩) (lt_of_cell h.cn)).trans h.cn, h.small, h.ok⟩
/-- Where a motion leads, as a value. -/
def toV (q : Pl) (whole incl : Bool) : Value := .agg #[.int .i64 ((q.1 : Int) + 1), .int .i64 (q.2 : Int), .bool whole, .bool incl]
/-- The result's cells, and the place's, in a motion. -/
structure StAt (w wr : World) (ls : List (List UInt8)) (y : Nat) (q : Pl) : Prop where
  pl : PlAt w wr (y + 1) q
  ry : wr.heap[y]? = some (.cells #[.int .i64 0, .int .i64 0, .bool false, .bool false] 109 (0, 0))
  new : w.heap.size ≤ y
  ok : Okp ls q
theorem StAt.later {w wr w' : World} {ls : List (List UInt8)} {y : Nat} {q : Pl} (h : StAt w wr ls y q) (hb : Below wr.heap.size wr w') : StAt w w' ls y q :=
  ⟨h.pl.later hb, (hb.block _ (lt_of_heap h.ry)).trans h.ry, h.new, h.ok⟩
theorem StAt.set {w wr : World} {ls : List (List UInt8)} {y : Nat} {q : Pl} (h : StAt w wr ls y q) {r : Pl} (hr : Okp ls r) : StAt w ((wr.setCell ⟨y + 1, 0, none⟩ (.int .i64 ((r.1 : Int) + 1))).setCell ⟨y + 1, 1, none⟩ (.int .i64 (r.2 : Int))) ls y r := by
  refine ⟨h.pl.set r, ?_, h.new, hr⟩
  rw [Below.heap_setCell _ _ _ _ (fun e => by have e' : y = y + 1 := e; omega), Below.heap_setCell _ _ _ _ (fun e => by have e' : y = y + 1 := e; omega)]
  exact h.ry
theorem StAt.drewN {w wr : World} {ls : List (List UInt8)} {y : Nat} {q : Pl} (h : StAt w wr ls y q) (n : Nat) : StAt w (wr.drewN n) ls y q := h.later (below_drewN (Below.refl _ _) n)
theorem st_new {w : World} {ls : List (List UInt8)} {p : Pl} (hp : Okp ls p) : StAt w ((w.alloc (.cells #[.int .i64 0, .int .i64 0, .bool false, .bool false] 109)).alloc (.cells #[.int .i64 ((p.1 : Int) + 1), .int .i64 (p.2 : Int)] 49)) ls w.heap.size p := by
  refine ⟨⟨?_, by omega, ((Below.refl _ _).alloc (Nat.le_refl _) _).alloc (by simp) _⟩, ?_, Nat.le_refl _, hp⟩
  · show ((w.heap.push _).push _)[w.heap.size + 1]? = _
    rw [Array.getElem?_push, if_pos (by simp)]
  · show ((w.heap.push _).push _)[w.heap.size]? = _
    rw [Array.getElem?_push, if_neg (by simp), Array.getElem?_push, if_pos rfl]
/-- The result's four cells are laid. -/
theorem fin_four {w V : World} {y : Nat} {u0 u1 u2 u3 : Value} {T : TypeId} (hy : V.heap[y]? = some (.cells #[u0, u1, u2, u3] T (0, 0))) (hn : w.heap.size ≤ y) (hb : Below w.heap.size w V) (a b c d : Value) :
    (V.setCell ⟨y, 0, none⟩ a).cell? ⟨y, 0, none⟩ = some a ∧ ((V.setCell ⟨y, 0, none⟩ a).setCell ⟨y, 1, none⟩ b).cell? ⟨y, 1, none⟩ = some b ∧ (((V.setCell ⟨y, 0, none⟩ a).setCell ⟨y, 1, none⟩ b).setCell ⟨y, 2, none⟩ c).cell? ⟨y, 2, none⟩ = some c ∧
    ((((V.setCell ⟨y, 0, none⟩ a).setCell ⟨y, 1, none⟩ b).setCell ⟨y, 2, none⟩ c).setCell ⟨y, 3, none⟩ d).cell? ⟨y, 3, none⟩ = some d ∧ Below w.heap.size w ((((V.setCell ⟨y, 0, none⟩ a).setCell ⟨y, 1, none⟩ b).setCell ⟨y, 2, none⟩ c).setCell ⟨y, 3, none⟩ d) := by
  have h0 := heap_set (j := 0) hy a
  have h1 := heap_set (j := 1) h0 b
  have h2 := heap_set (j := 2) h1 c
  exact ⟨cell_set hy (by simp) _, cell_set h0 (by simp) _, cell_set h1 (by simp) _, cell_set h2 (by simp) _, (((hb.setCell (p := ⟨y, 0, none⟩) hn _).setCell (p := ⟨y, 1, none⟩) hn _).setCell (p := ⟨y, 2, none⟩) hn _).setCell (p := ⟨y, 3, none⟩) hn _⟩
theorem many_next (step : Pl → Pl × Bool) (n : Nat) (q : Pl) : manyP step (n + 1) q = if (step q).2 = true then manyP step n (step q).1 else ((step q).1, false) := by
  show (if (step q).2 = true then _ else step q) = _
  cases hb : (step q).2 with
  | true => rfl
  | false => rw [if_neg (by simp), if_neg (by simp)]; exact Prod.ext rfl hb
/-- Two places, as they are compared. -/
theorem pos_eq (a b c d : Int) (w : World) : Sem.run Tryz.prog (Op.equalIn 10000 49 (.agg #[.int .i64 a, .int .i64 b]) (.agg #[.int .i64 c, .int .i64 d])) w = .ok (a == c && b == d) w := by
  have u3 := Tryz.underlying3
  have a3 := Tryz.isAgg3
  have z3 := Tryz.sizeOf3
  have hS : Tryz.prog.underlying 49 = some (.struct (Tryz.prog.fieldsOf 49)) := by kernel_rfl
  have hp : Tryz.prog.stoodInHeld 49 = false := by kernel_rfl
  rw [show (10000 : Nat) = 9999 + 1 from rfl, run_equalIn_agg w 9999 49 _ _ hS hp]
  simp only [Program.fieldsOf, Tryz.underlying49]
  go_simp
  by_cases h1 : a = c <;> by_cases h2 : b = d <;> simp [h1, h2]
theorem pl_ne (q p : Pl) : ((!((q.1 : Int) + 1 == (p.1 : Int) + 1)) || (!((q.2 : Int) == (p.2 : Int)))) = decide (q ≠ p) := by
  obtain ⟨a, b⟩ := q
  obtain ⟨c, d⟩ := p
  rw [Bool.eq_iff_iff]
  simp only [Bool.or_eq_true, Bool.not_eq_true', beq_eq_false_iff_ne, ne_eq, decide_eq_true_eq, Prod.mk.injEq]
  omega
set_option maxRecDepth 100000 in
set_option maxHeartbeats 4000000 in
theorem words_any {w : World} {m : Nat} {ls : List (List UInt8)} {ao : Option Addr} {cap : Nat} {p : Pl} {n : Nat} (h : MwAt w m ls ao cap p n) (big : Bool) :
    Calls Tryz.prog 84 #[.pointer (some ⟨m, 0, none⟩), .bool big] w fun e w' => e = .returned (.tuple #[toV (manyP (wordP ls big) n p).1 false (!(manyP (wordP ls big) n p).2), .bool (decide ((manyP (wordP ls big) n p).1 ≠ p))]) ∧ Below w.heap.size w w' := by
  obtain ⟨w2, hw2⟩ : ∃ w2, (w.alloc (.cells #[.int .i64 0, .int .i64 0, .bool false, .bool false] 109)).alloc (.cells #[.int .i64 ((p.1 : Int) + 1), .int .i64 (p.2 : Int)] 49) = w2 := ⟨_, rfl⟩
  have hst := @st_new w ls p h.ok
  rw [hw2] at hst
  have HS2 := Lib.hid hst
  have HM := Lib.hid h
  have hn := h.small
  have m1 := (((Below.refl w.heap.size w).alloc (Nat.le_refl _) (.cells #[.int .i64 0, .int .i64 0, .bool false, .bool false] 109)).cell (p := ⟨m, 1, none⟩) (lt_of_cell h.c1)).trans h.c1
  have m2 := (((Below.refl w.heap.size w).alloc (Nat.le_refl _) (.cells #[.int .i64 0, .int .i64 0, .bool false, .bool false] 109)).cell (p := ⟨m, 2, none⟩) (lt_of_cell h.c2)).trans h.c2
  clear h hst
  go_enter Tryz.func84, Tryz.ntmps84
  go_upto_block 0 with fail
  clear m1 m2
  generalize hyy : w.heap.size = y at *
  have HYY := Lib.hid hyy
  clear hyy
  have HM2 := Lib.hid (HM.out.later HS2.out.pl.below)
  obtain ⟨d0, d1, d2, dn⟩ : w2.cell? ⟨m, 0, none⟩ = _ ∧ w2.cell? ⟨m, 1, none⟩ = _ ∧ w2.cell? ⟨m, 2, none⟩ = _ ∧ w2.cell? ⟨m, 36, none⟩ = _ := ⟨HM2.out.mv.c0, HM2.out.c1, HM2.out.c2, HM2.out.cn⟩
  clear d0 d1 d2 dn hw2
  go_cut [7] from 14 to 31 (fun okv wx => ∃ (q : Pl) (ok : Bool), okv = .bool ok ∧ Hid (StAt w wx ls y q) ∧ Hid (manyP (wordP ls big) n p = (q, ok)))
  case first =>
    go_wp2_with fail
    go_loopw [7, 8] (fun okv iv wr => ∃ (k : Nat) (q : Pl) (ok : Bool), iv = .int .i64 (k : Int) ∧ okv = .bool ok ∧ k ≤ n ∧ Hid (StAt w wr ls y q) ∧ Hid (manyP (wordP ls big) n p = if ok = true then manyP (wordP ls big) (n - k) q else (q, false))) (fun _ iv _ => n - (intOf iv).toNat)
    case atStart => exact ⟨0, p, true, rfl, rfl, by omega, HS2, Lib.hid (by simp)⟩
    case round =>
      obtain ⟨k, q, ok, rfl, rfl, hk, HQ, HE⟩ := hrel
      clear HS2
      have HMQ := Lib.hid (HM.out.later HQ.out.pl.below)
      have dn := HMQ.out.cn
      obtain ⟨x0, x1, f0, f1⟩ := HQ.out.pl.cells
      by_cases hlt : k < n
      case neg =>
        have hlti : ¬ (k : Int) < (n : Int) := by omega
        have hk0 : n - k = 0 := by omega
        go_wp2_with fail
        go_meet
        case rel => 
          refine ⟨q, ok, rfl, HQ, Lib.hid ?_⟩
          rw [HE.out, hk0]
          cases ok <;> rfl
      have hlti : (k : Int) < (n : Int) := by omega
      cases ok
      · go_wp2_with fail
        go_meet
        case rel => exact ⟨q, false, rfl, HQ, Lib.hid (by rw [HE.out]; rfl)⟩
      go_wp2_with fail
      have hwd := word_any HMQ.out.mv q HQ.out.ok big
      unfold plV at hwd
      refine hwd.mono ?_
      rintro e w5 ⟨rfl, hb5⟩
      have HW5 := Lib.hid (HQ.out.later hb5)
      have HW6 := Lib.hid (HW5.out.set ((word_law ls big).ok q HQ.out.ok))
      have HE6 : Hid (manyP (wordP ls big) n p = if (wordP ls big q).2 = true then manyP (wordP ls big) (n - (k + 1)) (wordP ls big q).1 else ((wordP ls big q).1, false)) := Lib.hid (by
        rw [HE.out, if_pos (by trivial), show n - k = n - (k + 1) + 1 by omega, many_next])
      clear hwd hb5 x0 x1 f0 f1 dn
      obtain ⟨x0, x1, f0, f1⟩ := HW5.out.pl.cells
      go_wp2_with fail
      go_roundw
      case rel => exact ⟨k + 1, (wordP ls big q).1, (wordP ls big q).2, by go_num, rfl, by omega, HW6, HE6⟩
      case measure => simp [intOf]; omega
  case rest =>
    obtain ⟨q, ok, rfl, HQ, HE⟩ := hcut
    clear HS2
    have HMQ := Lib.hid (HM.out.later HQ.out.pl.below)
    have d1 := HMQ.out.c1
    have d2 := HMQ.out.c2
    obtain ⟨x0, x1, f0, f1⟩ := HQ.out.pl.cells
    have y0 := Lib.cell_of_heap HQ.out.ry 0
    have y1 := Lib.cell_of_heap HQ.out.ry 1
    have y2 := Lib.cell_of_heap HQ.out.ry 2
    have y3 := Lib.cell_of_heap HQ.out.ry 3
    have g0 := Lib.frozen_of_heap HQ.out.ry 0
    have g1 := Lib.frozen_of_heap HQ.out.ry 1
    have g2 := Lib.frozen_of_heap HQ.out.ry 2
    have g3 := Lib.frozen_of_heap HQ.out.ry 3
    simp at y0 y1 y2 y3
    have hpe := fun W => pos_eq ((q.1 : Int) + 1) (q.2 : Int) ((p.1 : Int) + 1) (p.2 : Int) W
    have HNE := Lib.hid (pl_ne q p)
    have hmw : m < w.heap.size := lt_of_cell HM.out.c1
    have hmy : ¬ m = y := by have := HQ.out.new; omega
    have hmy' : ¬ y = m := by omega
    clear hmw
    go_upto_region 6 with fail
    go_region
    go_wp2_with fail
    obtain ⟨t0, t1, t2, t3, hb⟩ := fin_four HQ.out.ry HQ.out.new HQ.out.pl.below (.int .i64 ((q.1 : Int) + 1)) (.int .i64 (q.2 : Int)) (.bool false) (.bool (!ok))
    refine bodyPost_ret (v := .tuple #[toV q false (!ok), .bool (decide (q ≠ p))]) ?_ rfl ?_
    · rw [← HNE.out]
      unfold toV
      simp [results, Tryz.results84, go_sem, t0, t1, t2, t3]
    · exact ⟨by rw [HE.out], hb.drew⟩
end Go.Proofs.YthhihondlihebaaGreatDoor
