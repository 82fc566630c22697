/- What moved lines come to, in plain Lean. No program in sight. -/
import Derived.Test.YtjibimocplkfiaaGreatDoorSpl2
namespace Go.Proofs.YtjibimocplkfiaaGreatDoor
open Go

def moveL (l : List Line) (a b : Nat) : List Line := (l.drop (a - 1)).take (b - (a - 1))
def moveR (l : List Line) (a b : Nat) : List Line := l.take (a - 1) ++ l.drop b
def moveK (a b d : Nat) : Nat := if b ≤ d then d - (b - a + 1) else d
def moveW (l : List Line) (a b d : Nat) : List Line := (moveR l a b).take (moveK a b d) ++ moveL l a b ++ (moveR l a b).drop (moveK a b d)
theorem moveL_len {l : List Line} {a b : Nat} (h1 : 1 ≤ a) (h2 : a ≤ b) (h3 : b ≤ l.length) : (moveL l a b).length = b - a + 1 := by
  unfold moveL
  rw [List.length_take, List.length_drop]; omega
theorem moveR_len {l : List Line} {a b : Nat} (h1 : 1 ≤ a) (h2 : a ≤ b) (h3 : b ≤ l.length) : (moveR l a b).length = l.length - (b - a + 1) := by
  unfold moveR
  rw [List.length_append, List.length_take, List.length_drop]; omega
theorem checkL_sub {l m : List Line} (h : checkL l = 0) (hs : ∀ t ∈ m, t ∈ l) (hl : m.length ≤ l.length) : checkL m = 0 := by
  rw [checkL_ok] at h ⊢
  exact ⟨fun t ht => h.1 t (hs t ht), by omega, fun t ht => h.2.2 t (hs t ht)⟩
theorem checkL_nil : checkL [] = 0 := by decide
theorem move_check {l : List Line} {a b : Nat} (h : checkL l = 0) (h1 : 1 ≤ a) (h2 : a ≤ b) (h3 : b ≤ l.length) : checkL (moveL l a b) = 0 :=
  checkL_sub h (fun t ht => List.mem_of_mem_drop (List.mem_of_mem_take ht)) (by rw [moveL_len h1 h2 h3]; omega)
theorem move_cut {l : List Line} {a b : Nat} (h : checkL l = 0) (h1 : 1 ≤ a) (h2 : a ≤ b) (h3 : b ≤ l.length) : doneS l ⟨((a - 1 : Nat) : Int), ((b - a + 1 : Nat) : Int), []⟩ = (moveR l a b, 0) := by
  have hl := (checkL_ok.1 h).2.1
  rw [doneS_of (by unfold checkS; rw [if_neg (by simp only; omega)]; exact checkL_nil) (by simp only [Int.toNat_natCast]; omega) (by simp only [Int.toNat_natCast, List.length_nil]; omega)]
  simp only [Int.toNat_natCast, List.append_nil]
  unfold moveR
  rw [show a - 1 + (b - a + 1) = b by omega]
theorem move_lay {l : List Line} {a b d : Nat} (h : checkL l = 0) (h1 : 1 ≤ a) (h2 : a ≤ b) (h3 : b ≤ l.length) (h4 : d ≤ l.length) (h5 : ¬ (a ≤ d ∧ d < b)) : doneS (moveR l a b) ⟨(moveK a b d : Int), 0, moveL l a b⟩ = (moveW l a b d, 0) := by
  have hl := (checkL_ok.1 h).2.1
  have hr := moveR_len h1 h2 h3
  have hm := moveL_len h1 h2 h3
  have hk : moveK a b d ≤ (moveR l a b).length := by unfold moveK; split <;> omega
  rw [doneS_of (by unfold checkS; rw [if_neg (by simp only; omega)]; exact move_check h h1 h2 h3) (by simp only [Int.toNat_natCast, Int.toNat_zero]; omega) (by simp only [Int.toNat_zero]; omega)]
  simp only [Int.toNat_natCast, Int.toNat_zero, Nat.add_zero]
  rfl
/-- Nothing moves. -/
theorem move_same {l : List Line} {a b d : Nat} (h1 : 1 ≤ a) (h2 : a ≤ b) (h3 : b ≤ l.length) (h : d = b ∨ d = a - 1) : moveW l a b d = l ∧ moveK a b d + (b - a + 1) = b := by
  have hk : moveK a b d = a - 1 := by unfold moveK; rcases h with rfl | rfl; · rw [if_pos (Nat.le_refl _)]; omega
                                      · rw [if_neg (by omega)]
  refine ⟨?_, by rw [hk]; omega⟩
  unfold moveW moveR moveL
  rw [hk, List.take_left' (by rw [List.length_take]; omega), List.drop_left' (by rw [List.length_take]; omega)]
  have e : l.drop b = (l.drop (a - 1)).drop (b - (a - 1)) := by rw [List.drop_drop]; congr 1; omega
  rw [e, List.append_assoc, List.take_append_drop, List.take_append_drop]
end Go.Proofs.YtjibimocplkfiaaGreatDoor
