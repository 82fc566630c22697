/- inkhornlaw01's Great and Same, in plain Lean. No program in sight. -/
import Derived.Lib.ItoaNum
set_option linter.unusedVariables false
set_option linter.unusedSimpArgs false
namespace Go.Proofs.YtlcjjcmfpmflcaaGreatDoor
open Go

/-- Great's loop: what is left of the bytes. -/
def greatL : Int → List (List UInt8) → Bool
  | _, [] => false
  | b, t :: l => if b - min (t.length : Int) 1099511627776 < 0 then true else greatL (b - min (t.length : Int) 1099511627776) l

def greatS (l : List (List UInt8)) (many bytes : Int) : Bool := if many < l.length then true else greatL bytes l

def total : List (List UInt8) → Nat
  | [] => 0
  | t :: l => t.length + total l

theorem greatL_false : ∀ (l : List (List UInt8)) (b : Int), b < 1099511627776 → greatL b l = false → 0 ≤ b → (total l : Int) ≤ b
  | [], b, _, _, h0 => by simpa [total] using h0
  | t :: l, b, hb, h, h0 => by
    unfold greatL at h
    split at h
    · cases h
    · rename_i hn
      have := greatL_false l _ (by omega) h (by omega)
      unfold total
      omega

theorem greatS_false {l : List (List UInt8)} {many bytes : Int} (h : greatS l many bytes = false) (hb : bytes < 1099511627776) (h0 : 0 ≤ bytes) : (l.length : Int) ≤ many ∧ (total l : Int) ≤ bytes := by
  unfold greatS at h
  split at h
  · cases h
  · exact ⟨by omega, greatL_false l _ hb h h0⟩

theorem mem_le_total {t : List UInt8} : ∀ {l : List (List UInt8)}, t ∈ l → t.length ≤ total l
  | [], h => by simp at h
  | u :: l, h => by
    rw [List.mem_cons] at h
    unfold total
    rcases h with rfl | h
    · omega
    · have := mem_le_total h; omega

/-- Same's loop from i on. -/
def sameL : List (List UInt8) → List (List UInt8) → Bool
  | [], _ => true
  | _, [] => true
  | a :: l, b :: m => if a ≠ b then false else sameL l m

def sameS (a b : List (List UInt8)) : Bool := if a.length ≠ b.length then false else sameL a b

theorem sameL_iff : ∀ (a b : List (List UInt8)), a.length = b.length → (sameL a b = true ↔ a = b)
  | [], [], _ => by simp [sameL]
  | [], b :: m, h => by simp at h
  | a :: l, [], h => by simp at h
  | a :: l, b :: m, h => by
    unfold sameL
    split
    · rename_i hn
      simp only [Bool.false_eq_true, List.cons.injEq, false_iff, not_and]
      intro e; exact absurd e hn
    · rename_i hn
      rw [Decidable.not_not] at hn
      rw [sameL_iff l m (by simpa using h)]
      simp [hn]

theorem sameS_iff (a b : List (List UInt8)) : sameS a b = true ↔ a = b := by
  unfold sameS
  split
  · rename_i h
    simp only [Bool.false_eq_true, false_iff]
    rintro rfl
    exact h rfl
  · rename_i h
    rw [Decidable.not_not] at h
    exact sameL_iff a b h

theorem sameS_self (a : List (List UInt8)) : sameS a a = true := (sameS_iff a a).2 rfl

end Go.Proofs.YtlcjjcmfpmflcaaGreatDoor
