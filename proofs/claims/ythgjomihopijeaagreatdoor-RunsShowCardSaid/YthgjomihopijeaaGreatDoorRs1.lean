/- Lines as they are told, and shifted (chapter 23), in plain Lean. No program in sight. -/
import Derived.Lib.ItoaNum
namespace Go.Proofs.YthgjomihopijeaaGreatDoor
open Go

def octD (k : Nat) : UInt8 := UInt8.ofNat (48 + k)
def showC (c : UInt8) : List UInt8 :=
  if c = 92 ∨ c = 36 then [92, c] else if c = 9 then [92, 116] else if c.toNat < 32 ∨ 126 < c.toNat then [92, octD (c.toNat / 64), octD (c.toNat / 8 % 8), octD (c.toNat % 8)] else [c]
def showL : List UInt8 → List UInt8
  | [] => []
  | c :: l => showC c ++ showL l
theorem showL_append : ∀ (a b : List UInt8), showL (a ++ b) = showL a ++ showL b
  | [], b => rfl
  | c :: a, b => by simp only [List.cons_append, showL, showL_append a b, List.append_assoc]
theorem showL_snoc {l : List UInt8} {k : Nat} {c : UInt8} (h : l[k]? = some c) : showL (l.take (k + 1)) = showL (l.take k) ++ showC c := by
  obtain ⟨hk, rfl⟩ := List.getElem?_eq_some_iff.1 h
  rw [List.take_succ_eq_append_getElem hk, showL_append]
  simp [showL]
theorem showC_len (c : UInt8) : (showC c).length ≤ 4 := by
  unfold showC
  split
  · simp
  · split
    · simp
    · split <;> simp
theorem showL_len : ∀ (l : List UInt8), (showL l).length ≤ 4 * l.length
  | [] => by simp [showL]
  | c :: l => by
    have := showC_len c
    have := showL_len l
    simp only [showL, List.length_append, List.length_cons]
    omega
/-- Blanks ahead, at most so many. -/
def blanks : Nat → List UInt8 → Nat
  | 0, _ => 0
  | _ + 1, [] => 0
  | n + 1, c :: l => if c = 32 then blanks n l + 1 else 0
end Go.Proofs.YthgjomihopijeaaGreatDoor
