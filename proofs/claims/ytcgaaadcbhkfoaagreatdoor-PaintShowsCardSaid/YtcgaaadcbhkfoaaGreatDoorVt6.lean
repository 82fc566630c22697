/- The library's words for the stretches of an escape's parameters, in plain Lean (chapter 13). No program in sight. -/
import Derived.Test.YtcgaaadcbhkfoaaGreatDoorVt2
import Derived.Lib.SlTrimSet
import Derived.Lib.IndexBytes
namespace Go.Proofs.YtcgaaadcbhkfoaaGreatDoor
open Go

theorem segs_no : ∀ {a : List UInt8}, (59 : UInt8) ∉ a → segs a = [a]
  | [], _ => rfl
  | c :: a, h => by
    rw [List.mem_cons, not_or] at h
    unfold segs
    rw [if_neg (fun e => h.1 e.symm), segs_no h.2]
theorem segs_cut : ∀ {a : List UInt8} (b : List UInt8), (59 : UInt8) ∉ a → segs (a ++ 59 :: b) = a :: segs b
  | [], b, _ => by rw [List.nil_append, segs, if_pos rfl]
  | c :: a, b, h => by
    rw [List.mem_cons, not_or] at h
    rw [List.cons_append, segs, if_neg (fun e => h.1 e.symm), segs_cut b h.2]
theorem indexByte_semi : ∀ l : List UInt8, (59 ∈ l → Lib.indexByte l 59 = ((l.takeWhile (· != 59)).length : Int)) ∧ (59 ∉ l → Lib.indexByte l 59 = -1)
  | [] => by simp [Lib.indexByte]
  | c :: l => by
    obtain ⟨h1, h2⟩ := indexByte_semi l
    by_cases hc : c = 59
    · subst hc; simp [Lib.indexByte]
    · have hc' : ¬ (59 : UInt8) = c := fun e => hc e.symm
      constructor
      · intro h
        rw [List.mem_cons] at h
        have h := h.resolve_left hc'
        have := h1 h
        simp [Lib.indexByte, hc, this]
      · intro h
        rw [List.mem_cons, not_or] at h
        have := h2 h.2
        simp [Lib.indexByte, hc, this]
theorem semi_split : ∀ (l : List UInt8), 59 ∈ l → ∃ b, l = l.takeWhile (· != 59) ++ 59 :: b ∧ (59 : UInt8) ∉ l.takeWhile (· != 59)
  | [], h => by simp at h
  | c :: l, h => by
    by_cases hc : c = 59
    · subst hc; exact ⟨l, by simp, by simp⟩
    · have hc' : ¬ (59 : UInt8) = c := fun e => hc e.symm
      rw [List.mem_cons] at h
      obtain ⟨b, h1, h2⟩ := semi_split l (h.resolve_left hc')
      have e : (c :: l).takeWhile (· != 59) = c :: l.takeWhile (· != 59) := by rw [List.takeWhile_cons, if_pos (by simpa using hc)]
      rw [e]
      refine ⟨b, by rw [List.cons_append, ← h1], ?_⟩
      rw [List.mem_cons, not_or]
      exact ⟨hc', h2⟩
theorem splitK_segs : ∀ (n : Nat) (s : List UInt8), s.count 59 = n → Lib.splitK [59] 0 n s = segs s
  | 0, s, h => by
    have hn : (59 : UInt8) ∉ s := List.count_eq_zero.1 h
    rw [segs_no hn]; rfl
  | n + 1, s, h => by
    have hm : (59 : UInt8) ∈ s := List.count_pos_iff.1 (by omega)
    obtain ⟨h1, _⟩ := indexByte_semi s
    have hi := h1 hm
    obtain ⟨b, hb, hno⟩ := semi_split s hm
    unfold Lib.splitK
    rw [Lib.index_one, hi]
    generalize s.takeWhile (· != 59) = a at *
    subst hb
    rw [if_neg (by simp), segs_cut b hno, Int.toNat_natCast, Nat.add_zero, List.take_left]
    have hd : (a ++ 59 :: b).drop (a.length + ([59] : List UInt8).length) = b := by
      rw [← List.drop_drop, List.drop_left]
      first | done | rfl
    have hc : b.count 59 = n := by
      rw [List.count_append, List.count_cons_self, List.count_eq_zero.2 hno] at h; omega
    rw [hd, splitK_segs n b hc]
theorem split_segs (s : List UInt8) : Lib.split s [59] = segs s := by
  unfold Lib.split
  rw [Lib.count_one]
  exact splitK_segs _ s rfl
/-- Ten digits. -/
def tenD : List UInt8 := [48, 49, 50, 51, 52, 53, 54, 55, 56, 57]
theorem tenD_iff (c : UInt8) : tenD.contains c = digB c := by
  rw [Bool.eq_iff_iff, digB_iff]
  unfold tenD
  simp only [List.contains_iff_mem, List.mem_cons, List.not_mem_nil, or_false]
  constructor
  · rintro (rfl | rfl | rfl | rfl | rfl | rfl | rfl | rfl | rfl | rfl) <;> decide
  · intro h
    have : c.toNat = 48 ∨ c.toNat = 49 ∨ c.toNat = 50 ∨ c.toNat = 51 ∨ c.toNat = 52 ∨ c.toNat = 53 ∨ c.toNat = 54 ∨ c.toNat = 55 ∨ c.toNat = 56 ∨ c.toNat = 57 := by omega
    rcases this with h | h | h | h | h | h | h | h | h | h
    · exact .inl (UInt8.toNat_inj.1 h)
    · exact .inr (.inl (UInt8.toNat_inj.1 h))
    · exact .inr (.inr (.inl (UInt8.toNat_inj.1 h)))
    · exact .inr (.inr (.inr (.inl (UInt8.toNat_inj.1 h))))
    · exact .inr (.inr (.inr (.inr (.inl (UInt8.toNat_inj.1 h)))))
    · exact .inr (.inr (.inr (.inr (.inr (.inl (UInt8.toNat_inj.1 h))))))
    · exact .inr (.inr (.inr (.inr (.inr (.inr (.inl (UInt8.toNat_inj.1 h)))))))
    · exact .inr (.inr (.inr (.inr (.inr (.inr (.inr (.inl (UInt8.toNat_inj.1 h))))))))
    · exact .inr (.inr (.inr (.inr (.inr (.inr (.inr (.inr (.inl (UInt8.toNat_inj.1 h)))))))))
    · exact .inr (.inr (.inr (.inr (.inr (.inr (.inr (.inr (.inr (UInt8.toNat_inj.1 h)))))))))
theorem trim_digits (d : List UInt8) : Lib.trimLeftS d tenD = [] ↔ d.all digB = true := by
  unfold Lib.trimLeftS
  have e : ∀ l : List UInt8, l.dropWhile (tenD.contains ·) = [] ↔ l.all digB = true := by
    intro l
    induction l with
    | nil => simp
    | cons c l ih =>
      rw [List.dropWhile_cons, tenD_iff, List.all_cons]
      cases hc : digB c with
      | true => simpa using ih
      | false => simp
  exact e d
theorem trim_zeros (d : List UInt8) : Lib.trimLeftS d [48] = noZero d := by
  unfold Lib.trimLeftS noZero
  congr 1
  funext x
  rw [Bool.eq_iff_iff]; simp
end Go.Proofs.YtcgaaadcbhkfoaaGreatDoor
