/- A splice's bytes, in plain Lean. No program in sight. -/
import Derived.Test.YtgcncmhaihgldaaGreatDoorSpl1
import Derived.Test.YtgcncmhaihgldaaGreatDoorNums1
namespace Go.Proofs.YtgcncmhaihgldaaGreatDoor
open Go

def encB (s : Spl) : List UInt8 := putN s.pos ++ putN s.del ++ putL s.ins
def encS (s : Spl) : List UInt8 × Int := if checkS s ≠ 0 then ([], checkS s) else (encB s, 0)
def decO (b : List UInt8) : Option Spl :=
  match getAt b 0 with
  | none => none
  | some (a, j) => match getAt b j with
    | none => none
    | some (d, k) => match getLAt b k with
      | none => none
      | some (l, q) => if q < b.length ∨ checkS ⟨a, d, l⟩ ≠ 0 then none else some ⟨a, d, l⟩
def decS (b : List UInt8) : Spl × Int := match decO b with
  | none => (noSpl, 40)
  | some s => (s, 0)

/-- Numbers that an int holds. -/
def Spl.fits (s : Spl) : Prop := s.pos ≤ 9223372036854775807 ∧ s.del ≤ 9223372036854775807

theorem decO_iff (b : List UInt8) (s : Spl) (hb : b.length ≤ 9223372036854775807) : decO b = some s ↔ s.fits ∧ checkS s = 0 ∧ b = encB s := by
  constructor
  · intro h
    unfold decO at h
    split at h
    · cases h
    · rename_i a j ha
      have h1 := getAt_some ha
      split at h
      · cases h
      · rename_i d k hd
        have h2 := getAt_some hd
        split at h
        · cases h
        · rename_i l q hl
          obtain ⟨_, _, _, hkq, hq, hqp, hql⟩ := getLAt_way hb hl
          split at h
          · cases h
          · rename_i hk
            rw [not_or, Decidable.not_not] at hk
            injection h with h
            subst h
            refine ⟨⟨h1.2.2.1, h2.2.2.1⟩, hk.2, ?_⟩
            have e3 : b.drop k.toNat = putL l := by
              rw [← hql, List.take_of_length_le (by rw [List.length_drop]; omega)]
            have e1 := h1.2.2.2.2.2.2
            have e2 := h2.2.2.2.2.2.2
            rw [show (0 : Int).toNat = 0 from rfl, List.drop_zero] at e1
            unfold encB
            rw [List.append_assoc]
            rw [← e3, ← e2, ← e1]
  · rintro ⟨⟨f1, f2⟩, hc, rfl⟩
    obtain ⟨k1, k2, _⟩ := checkS_ok hc
    have e1 := getAt_back [] (putN s.del ++ putL s.ins) s.pos k1 f1
    have e2 := getAt_back (putN s.pos) (putL s.ins) s.del k2 f2
    have e3 := getLAt_back (putN s.pos ++ putN s.del) [] s.ins (by unfold encB at hb; simpa using hb)
    simp only [List.nil_append, List.length_nil, Int.natCast_zero, Int.zero_add] at e1
    rw [← List.append_assoc] at e1
    rw [List.append_nil, List.length_append, Int.natCast_add] at e3
    unfold decO encB
    simp only [e1, e2, e3]
    rw [if_neg]
    rw [not_or, Decidable.not_not]
    refine ⟨?_, hc⟩
    simp only [List.length_append]
    omega
theorem encB_apart {s t : Spl} {x y : List UInt8} (hs : s.fits) (ht : t.fits) (cs : checkS s = 0) (ct : checkS t = 0) (hl : (encB s ++ x).length ≤ 9223372036854775807) (h : encB s ++ x = encB t ++ y) : s = t ∧ x = y := by
  obtain ⟨a1, a2, _⟩ := checkS_ok cs
  obtain ⟨b1, b2, _⟩ := checkS_ok ct
  unfold encB at h hl
  simp only [List.append_assoc] at h hl
  obtain ⟨e1, h⟩ := putN_inj a1 hs.1 b1 ht.1 h
  obtain ⟨e2, h⟩ := putN_inj a2 hs.2 b2 ht.2 h
  obtain ⟨e3, e4⟩ := putL_apart _ _ _ _ (by simp only [List.length_append] at hl ⊢; omega) h
  refine ⟨?_, e4⟩
  cases s; cases t
  simp only at e1 e2 e3
  rw [e1, e2, e3]
theorem dec_enc {s : Spl} (hf : s.fits) (hc : checkS s = 0) (hl : (encB s).length ≤ 9223372036854775807) : decO (encB s) = some s := (decO_iff _ s hl).2 ⟨hf, hc, rfl⟩
theorem dec_cut {s : Spl} (hf : s.fits) (hc : checkS s = 0) (hl : (encB s).length ≤ 9223372036854775807) (i : Nat) (hi : i < (encB s).length) : decO ((encB s).take i) = none := by
  cases h : decO ((encB s).take i) with
  | none => rfl
  | some t =>
    exfalso
    obtain ⟨tf, tc, te⟩ := (decO_iff _ t (by rw [List.length_take]; omega)).1 h
    have e : encB s ++ [] = encB t ++ (encB s).drop i := by rw [List.append_nil, ← te, List.take_append_drop]
    have := (encB_apart hf tf hc tc (by simpa using hl) e).2
    have := congrArg List.length this
    rw [List.length_drop, List.length_nil] at this
    omega
theorem dec_more {s : Spl} (hf : s.fits) (hc : checkS s = 0) (b : List UInt8) (hl : (encB s ++ b).length ≤ 9223372036854775807) : (decS (encB s ++ b)).2 = 0 ↔ b = [] := by
  constructor
  · intro h
    unfold decS at h
    split at h
    · cases h
    · rename_i t ht
      obtain ⟨tf, tc, te⟩ := (decO_iff _ t hl).1 ht
      exact (encB_apart (y := []) hf tf hc tc hl (by rw [te, List.append_nil])).2
  · rintro rfl
    rw [List.append_nil] at hl ⊢
    unfold decS
    rw [dec_enc hf hc hl]
theorem encB_len {s : Spl} (hf : s.fits) (hi : (totalT s.ins : Int) ≤ 9223372036854775807) (hl : (s.ins.length : Int) ≤ 9223372036854775807) : (encB s).length ≤ totalT s.ins + 20 * s.ins.length + 60 := by
  have h1 := putN_le s.pos hf.1
  have h2 := putN_le s.del hf.2
  have h3 := putL_le s.ins hi hl
  unfold encB
  simp only [List.length_append]; omega
theorem encB_ne {s : Spl} (hc : checkS s = 0) : encB s ≠ [] := by
  obtain ⟨k1, _, _⟩ := checkS_ok hc
  have := putN_pos s.pos k1
  intro h
  have := congrArg List.length h
  unfold encB at this
  simp only [List.length_append, List.length_nil] at this
  omega
end Go.Proofs.YtgcncmhaihgldaaGreatDoor
