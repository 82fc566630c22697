/- One motion of a word, whichever: plain (chapter 27, MovesTimes). -/
import Derived.Test.YtopbpmcanhbklaaGreatDoorMv12
import Derived.Test.YtopbpmcanhbklaaGreatDoorMv10
set_option linter.unusedVariables false
set_option linter.unusedSimpArgs false
namespace Go.Proofs.YtopbpmcanhbklaaGreatDoor
open Go Go.Proofs Go.RowKit Go.Ink Go.Sort

def stepOf (ls : List (List UInt8)) : Nat → Pl → Pl × Bool
  | 0 => wordP ls false
  | 1 => aheadP ls false
  | 2 => endsP ls false
  | 3 => wordP ls true
  | 4 => aheadP ls true
  | _ => endsP ls true
def nameOf : Nat → Int
  | 0 => 119
  | 1 => 98
  | 2 => 101
  | 3 => 87
  | 4 => 66
  | _ => 69
theorem stepOf_law (ls : List (List UInt8)) (k : Nat) : ∃ r, StepLaw ls r (stepOf ls k) := by
  match k with
  | 0 => exact ⟨_, word_law ls false⟩
  | 1 => exact ⟨_, ahead_law ls false⟩
  | 2 => exact ⟨_, ends_law ls false⟩
  | 3 => exact ⟨_, word_law ls true⟩
  | 4 => exact ⟨_, ahead_law ls true⟩
  | _ + 5 => exact ⟨_, ends_law ls true⟩
theorem move_of {w : World} {ls : List (List UInt8)} {ao : Option Addr} {cap : Nat} (h : SlOf IsStr w ao cap ls) (hsh : ∀ i, (lnL ls i).length ≤ 1000000) (hfew : ls.length ≤ 1000000) (p : Pl) (hp : Okp ls p) (count : Nat) (hc1 : 1 ≤ count) (hc2 : count ≤ 9999) (k : Nat) :
    Calls Tryz.prog 6 #[.agg (askA (.slice ao ls.length cap) ((p.1 : Int) + 1) (p.2 : Int) (nameOf k) (count : Int) 0)] w fun e w' => ∃ inc, e = .returned (.tuple #[toV (manyP (stepOf ls k) count p).1 false inc, .bool (decide ((manyP (stepOf ls k) count p).1 ≠ p))]) ∧ Below w.heap.size w w' := by
  match k with
  | 0 => exact (move_w h hsh hfew p hp count hc1 hc2).mono fun e w' ⟨h1, h2⟩ => ⟨_, h1, h2⟩
  | 1 => exact (move_b h hsh hfew p hp count hc1 hc2).mono fun e w' ⟨h1, h2⟩ => ⟨_, h1, h2⟩
  | 2 => exact (move_e h hsh hfew p hp count hc1 hc2).mono fun e w' ⟨h1, h2⟩ => ⟨_, h1, h2⟩
  | 3 => exact (move_W h hsh hfew p hp count hc1 hc2).mono fun e w' ⟨h1, h2⟩ => ⟨_, h1, h2⟩
  | 4 => exact (move_B h hsh hfew p hp count hc1 hc2).mono fun e w' ⟨h1, h2⟩ => ⟨_, h1, h2⟩
  | _ + 5 => exact (move_E h hsh hfew p hp count hc1 hc2).mono fun e w' ⟨h1, h2⟩ => ⟨_, h1, h2⟩
/-- A place is there, or it is not. -/
theorem place_cases (ls : List (List UInt8)) (line col : Int) : (∃ p : Pl, Okp ls p ∧ line = (p.1 : Int) + 1 ∧ col = (p.2 : Int)) ∨ (ls.length = 0 ∨ fitI ls line col ≠ (line, col)) := by
  by_cases h0 : ls.length = 0
  · exact .inr (.inl h0)
  · by_cases hf : fitI ls line col = (line, col)
    · left
      unfold fitI at hf
      rw [if_neg h0] at hf
      injection hf with h1 h2
      rw [h1] at h2
      refine ⟨((line - 1).toNat, col.toNat), ⟨?_, ?_⟩, ?_, ?_⟩
      · show (line - 1).toNat < ls.length
        omega
      · show col.toNat = 0 ∨ col.toNat < (lnL ls (line - 1).toNat).length
        omega
      · show line = ((line - 1).toNat : Int) + 1
        omega
      · show col = (col.toNat : Int)
        omega
    · exact .inr (.inr hf)
theorem many_one (step : Pl → Pl × Bool) (q : Pl) : (manyP step 1 q).1 = (step q).1 := by
  rw [many_next]
  split <;> rfl
open Classical in
/-- Where a motion leads, from whatever place. -/
noncomputable def moveF (l : List (List UInt8)) (k : Nat) (line col : Int) (n : Nat) : Int × Int × Bool :=
  if h : ∃ p : Pl, Okp l p ∧ line = (p.1 : Int) + 1 ∧ col = (p.2 : Int) then
    (((manyP (stepOf l k) n h.choose).1.1 : Int) + 1, ((manyP (stepOf l k) n h.choose).1.2 : Int), decide ((manyP (stepOf l k) n h.choose).1 ≠ h.choose))
  else (0, 0, false)
theorem moveF_at {l : List (List UInt8)} {p : Pl} (hp : Okp l p) (k n : Nat) : moveF l k ((p.1 : Int) + 1) (p.2 : Int) n = (((manyP (stepOf l k) n p).1.1 : Int) + 1, ((manyP (stepOf l k) n p).1.2 : Int), decide ((manyP (stepOf l k) n p).1 ≠ p)) := by
  have h : ∃ q : Pl, Okp l q ∧ (p.1 : Int) + 1 = (q.1 : Int) + 1 ∧ (p.2 : Int) = (q.2 : Int) := ⟨p, hp, rfl, rfl⟩
  have e : h.choose = p := by
    have hs := h.choose_spec
    apply Prod.ext <;> omega
  unfold moveF
  rw [dif_pos h, e]
theorem moveF_none {l : List (List UInt8)} {line col : Int} (h : ¬ ∃ p : Pl, Okp l p ∧ line = (p.1 : Int) + 1 ∧ col = (p.2 : Int)) (k n : Nat) : moveF l k line col n = (0, 0, false) := by
  unfold moveF
  rw [dif_neg h]
theorem move_F {w : World} {ls : List (List UInt8)} {ao : Option Addr} {cap : Nat} (h : SlOf IsStr w ao cap ls) (hsh : ∀ i, (lnL ls i).length ≤ 1000000) (hfew : ls.length ≤ 1000000) (line col : Int) (count : Nat) (hc1 : 1 ≤ count) (hc2 : count ≤ 9999) (k : Nat) :
    Calls Tryz.prog 6 #[.agg (askA (.slice ao ls.length cap) line col (nameOf k) (count : Int) 0)] w fun e w' => ∃ inc, e = .returned (.tuple #[.agg #[.int .i64 (moveF ls k line col count).1, .int .i64 (moveF ls k line col count).2.1, .bool false, .bool inc], .bool (moveF ls k line col count).2.2]) ∧ Below w.heap.size w w' := by
  by_cases hex : ∃ p : Pl, Okp ls p ∧ line = (p.1 : Int) + 1 ∧ col = (p.2 : Int)
  · obtain ⟨p, hp, rfl, rfl⟩ := hex
    rw [moveF_at hp]
    exact (move_of h hsh hfew p hp count hc1 hc2 k).mono fun e w' ⟨inc, h1, h2⟩ => ⟨inc, h1, h2⟩
  · rw [moveF_none hex]
    exact (move_none h hsh hfew line col (nameOf k) (count : Int) 0 ((place_cases ls line col).resolve_left hex)).mono fun e w' ⟨h1, h2⟩ => ⟨false, h1, h2⟩
/-- One by one. -/
noncomputable def loopF (l : List (List UInt8)) (k : Nat) : Nat → Int → Int → Bool → Int × Int × Bool
  | 0, x, y, mv => (x, y, mv)
  | m + 1, x, y, mv => if (moveF l k x y 1).2.2 = true then loopF l k m (moveF l k x y 1).1 (moveF l k x y 1).2.1 true else (x, y, mv)
theorem loopF_at {l : List (List UInt8)} {k : Nat} {r : Pl → Nat} (H : StepLaw l r (stepOf l k)) : ∀ (m : Nat) (p : Pl) (mv : Bool), Okp l p →
    loopF l k m ((p.1 : Int) + 1) (p.2 : Int) mv = (((timesP (stepOf l k) m p).1.1 : Int) + 1, ((timesP (stepOf l k) m p).1.2 : Int), mv || (timesP (stepOf l k) m p).2)
  | 0, p, mv, _ => by simp [loopF, timesP]
  | m + 1, p, mv, hp => by
    unfold loopF timesP
    rw [moveF_at hp, many_one]
    by_cases e : (stepOf l k p).1 = p
    · simp [e]
    · simp only [e, ne_eq, not_false_eq_true, decide_true, if_true, if_false]
      rw [loopF_at H m _ true (H.ok p hp)]
      simp
theorem loop_law (l : List (List UInt8)) (k n : Nat) (line col : Int) :
    (loopF l k (n + 1) line col false).2.2 = (moveF l k line col (n + 1)).2.2 ∧
      ((moveF l k line col (n + 1)).2.2 = true → (moveF l k line col (n + 1)).1 = (loopF l k (n + 1) line col false).1 ∧ (moveF l k line col (n + 1)).2.1 = (loopF l k (n + 1) line col false).2.1) := by
  by_cases hex : ∃ p : Pl, Okp l p ∧ line = (p.1 : Int) + 1 ∧ col = (p.2 : Int)
  · obtain ⟨p, hp, rfl, rfl⟩ := hex
    obtain ⟨r, H⟩ := stepOf_law l k
    obtain ⟨h1, h2⟩ := times_law H n p hp
    rw [loopF_at H _ _ _ hp, moveF_at hp, h1, Bool.false_or]
    refine ⟨?_, fun _ => ⟨rfl, rfl⟩⟩
    show (timesP (stepOf l k) (n + 1) p).2 = decide _
    rw [Bool.eq_iff_iff, h2, decide_eq_true_eq]
  · rw [moveF_none hex]
    unfold loopF
    rw [moveF_none hex]
    exact ⟨rfl, fun h => by cases h⟩
theorem few_of {l : List (List UInt8)} (h : beyondT l 8 = false) : l.length ≤ 8 ∧ ∀ i, (lnL l i).length ≤ 20 := by
  unfold beyondT at h
  rw [Bool.or_eq_false_iff] at h
  obtain ⟨h1, h2⟩ := h
  have h1 := of_decide_eq_false h1
  refine ⟨by omega, fun i => ?_⟩
  unfold lnL
  rw [List.getD_eq_getElem?_getD]
  cases hi : l[i]? with
  | none => simp
  | some x =>
    have := List.any_eq_false.1 h2 x (List.mem_of_getElem? hi)
    simp at this
    simpa using this
/-- The name of the motion, out of the text. -/
theorem name_byte (k : Nat) (hk : k < 6) : (⟨#[119, 98, 101, 87, 66, 69]⟩ : ByteArray)[k]? = some (UInt8.ofNat (nameOf k).toNat) := by
  match k, hk with
  | 0, _ => rfl
  | 1, _ => rfl
  | 2, _ => rfl
  | 3, _ => rfl
  | 4, _ => rfl
  | 5, _ => rfl
end Go.Proofs.YtopbpmcanhbklaaGreatDoor
