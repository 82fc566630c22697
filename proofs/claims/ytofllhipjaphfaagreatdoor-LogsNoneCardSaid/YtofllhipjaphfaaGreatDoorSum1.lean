/- What a text weighs, in plain Lean (chapter 03's sums). No program in sight. -/
import Derived.Lib.ItoaNum
namespace Go.Proofs.YtofllhipjaphfaaGreatDoor
open Go

/-- All bytes together. -/
def sumA : List UInt8 → Nat
  | [] => 0
  | c :: l => c.toNat + sumA l
/-- Each byte as often as there are bytes from it on. -/
def sumB : List UInt8 → Nat
  | [] => 0
  | c :: l => (l.length + 1) * c.toNat + sumB l
def sumN (l : List UInt8) : Nat := 65536 * (sumB l % 65535) + sumA l % 65535
theorem sumA_append : ∀ (p q : List UInt8), sumA (p ++ q) = sumA p + sumA q
  | [], q => by simp [sumA]
  | c :: p, q => by simp only [List.cons_append, sumA, sumA_append p q]; omega
theorem sumB_append : ∀ (p q : List UInt8), sumB (p ++ q) = sumB p + sumA p * q.length + sumB q
  | [], q => by simp [sumB, sumA]
  | c :: p, q => by
    simp only [List.cons_append, sumB, sumA, sumB_append p q, List.length_append]
    rw [Nat.add_mul c.toNat, show p.length + q.length + 1 = (p.length + 1) + q.length by omega, Nat.add_mul (p.length + 1), Nat.mul_comm q.length]
    omega
theorem sumN_lt (l : List UInt8) : sumN l < 4294967296 := by unfold sumN; omega
theorem sumA_le : ∀ (l : List UInt8), sumA l ≤ 255 * l.length
  | [] => by simp [sumA]
  | c :: l => by
    have := sumA_le l
    have := c.toNat_lt
    simp only [sumA, List.length_cons]; omega
theorem sumB_le : ∀ (l : List UInt8), sumB l ≤ 255 * (l.length * l.length)
  | [] => by simp [sumB]
  | c :: l => by
    have h1 := sumB_le l
    have h2 := c.toNat_lt
    have h3 : (l.length + 1) * c.toNat ≤ (l.length + 1) * 255 := Nat.mul_le_mul_left _ (by omega)
    have h4 : (l.length + 1) * (l.length + 1) = l.length * l.length + l.length + l.length + 1 := by rw [Nat.add_mul, Nat.mul_add]; omega
    simp only [sumB, List.length_cons]
    rw [h4]
    omega
/-- A step of the halves that are added. -/
theorem fold_step (n : Nat) : (n / 65536 + n % 65536) % 65535 = n % 65535 := by omega
theorem fold_less (n : Nat) (h : 65535 < n) : n / 65536 + n % 65536 < n := by omega
/-- A weight, and one more chunk behind it. -/
theorem behind_first (p c : List UInt8) : (sumA p % 65535 + sumA c) % 65535 = sumA (p ++ c) % 65535 := by rw [sumA_append]; omega
theorem behind_second (p c : List UInt8) : (sumB p % 65535 + sumB c + sumA p % 65535 % 65535 * c.length % 65535) % 65535 = sumB (p ++ c) % 65535 := by
  rw [sumB_append]
  have h : sumA p % 65535 % 65535 * c.length % 65535 = sumA p * c.length % 65535 := by rw [Nat.mod_mod, Nat.mul_mod, Nat.mod_mod, ← Nat.mul_mod]
  rw [h]
  omega

/-! ### The digits -/
def hexD (k : Nat) : UInt8 := UInt8.ofNat (if k < 10 then 48 + k else 87 + k)
def hex8 (n : Nat) : List UInt8 := [hexD (n / 268435456 % 16), hexD (n / 16777216 % 16), hexD (n / 1048576 % 16), hexD (n / 65536 % 16), hexD (n / 4096 % 16), hexD (n / 256 % 16), hexD (n / 16 % 16), hexD (n % 16)]
theorem hexD_toNat (k : Nat) (h : k < 16) : (hexD k).toNat = if k < 10 then 48 + k else 87 + k := by
  unfold hexD
  rw [UInt8.toNat_ofNat', Nat.mod_eq_of_lt]
  split <;> omega
theorem hexD_inj {a b : Nat} (ha : a < 16) (hb : b < 16) (h : hexD a = hexD b) : a = b := by
  have := congrArg UInt8.toNat h
  rw [hexD_toNat a ha, hexD_toNat b hb] at this
  split at this <;> split at this <;> omega
theorem hexD_ne (k : Nat) (h : k < 16) : hexD k ≠ 10 := by
  intro e
  have := congrArg UInt8.toNat e
  rw [hexD_toNat k h] at this
  have h10 : (10 : UInt8).toNat = 10 := rfl
  rw [h10] at this
  split at this <;> omega
theorem hex8_len (n : Nat) : (hex8 n).length = 8 := rfl
theorem hex8_inj {n m : Nat} (hn : n < 4294967296) (hm : m < 4294967296) (h : hex8 n = hex8 m) : n = m := by
  unfold hex8 at h
  simp only [List.cons.injEq, and_true] at h
  obtain ⟨h1, h2, h3, h4, h5, h6, h7, h8⟩ := h
  have e1 := hexD_inj (by omega) (by omega) h1
  have e2 := hexD_inj (by omega) (by omega) h2
  have e3 := hexD_inj (by omega) (by omega) h3
  have e4 := hexD_inj (by omega) (by omega) h4
  have e5 := hexD_inj (by omega) (by omega) h5
  have e6 := hexD_inj (by omega) (by omega) h6
  have e7 := hexD_inj (by omega) (by omega) h7
  have e8 := hexD_inj (by omega) (by omega) h8
  omega
theorem hex8_no (n : Nat) : (10 : UInt8) ∉ hex8 n := by
  unfold hex8
  simp only [List.mem_cons, List.not_mem_nil, or_false, not_or]
  refine ⟨?_, ?_, ?_, ?_, ?_, ?_, ?_, ?_⟩ <;> exact fun e => hexD_ne _ (by omega) e.symm
/-- One byte that is another one: another sum. -/
theorem sumN_turned (a b : List UInt8) (c d : UInt8) (h : c ≠ d) : sumN (a ++ c :: b) ≠ sumN (a ++ d :: b) := by
  intro e
  have hA : sumA (a ++ c :: b) % 65535 = sumA (a ++ d :: b) % 65535 := by unfold sumN at e; omega
  rw [sumA_append, sumA_append] at hA
  simp only [sumA] at hA
  have h1 := c.toNat_lt
  have h2 := d.toNat_lt
  have : c.toNat = d.toNat := by omega
  exact h (UInt8.toNat_inj.1 this)
end Go.Proofs.YtofllhipjaphfaaGreatDoor
