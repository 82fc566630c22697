/- The walk of the law file's number: digits. -/
import Derived.Test.YtgfcnafhfgncoaaDoorConv
import Derived.Test.YtgfcnafhfgncoaaDoorShelf
import Derived.Test.YtgfcnafhfgncoaaDoorVt4
import Derived.Test.YtgfcnafhfgncoaaDoorBase
namespace Go.Proofs.YtgfcnafhfgncoaaDoor
open Go Go.Proofs Go.RowKit Go.Ink

/-- Digits, none of 0. -/
def digs0 (m : Nat) : List UInt8 := if m = 0 then [] else Lib.decDigits m
theorem digs0_step (m : Nat) (h : 0 < m) : digs0 m = digs0 (m / 10) ++ [UInt8.ofNat (48 + m % 10)] := by
  unfold digs0
  rw [if_neg (by omega)]
  by_cases h1 : m < 10
  · rw [if_pos (by omega), Lib.decDigits, dif_pos h1, Nat.mod_eq_of_lt h1]; rfl
  · rw [if_neg (by omega), Lib.decDigits, dif_neg h1]
theorem digs_step (m : Nat) : Lib.decDigits m = digs0 (m / 10) ++ [UInt8.ofNat (48 + m % 10)] := by
  by_cases h : m = 0
  · subst h; rw [Lib.decDigits, dif_pos (by decide)]; rfl
  · have := digs0_step m (by omega)
    rw [← this]
    unfold digs0
    rw [if_neg h]
theorem one_new (w : World) (d : UInt8) : SlOf IsByte (w.alloc (.cells #[.int .u8 (d.toNat : Int)] 5)) (some ⟨w.heap.size, 0, none⟩) 1 [d] := by
  refine ⟨by simp, by simp [maxLen], (fun e => by cases e), fun j x hj => ?_⟩
  match j, hj with
  | 0, hj =>
    injection hj with hj
    subst hj
    exact ⟨w.heap.size, 0, _, rfl, by rw [Lib.cell_of_heap (heap_alloc_new w _)]; rfl, rfl⟩
theorem one_conv (w : World) (d : UInt8) : (convert 39 9 (.slice (some ⟨w.heap.size, 0, none⟩) 1 1)).run Tryd.prog (w.alloc (.cells #[.int .u8 (d.toNat : Int)] 5)) = .ok (.string ⟨#[d]⟩) (w.alloc (.cells #[.int .u8 (d.toNat : Int)] 5)) :=
  (one_new w d).convert Tryd.underlying39 Tryd.underlying5 Tryd.underlying9 (Below.refl _ _)
set_option maxHeartbeats 400000 in
theorem number_any (n : Nat) (w : World) (hn : n ≤ 9999) :
    Calls Tryd.prog 22 #[.int .i64 (n : Int)] w fun e w' => e = .returned (.string ⟨(Lib.decDigits n).toArray⟩) ∧ Below w.heap.size w w' := by
  obtain ⟨r, hr⟩ : ∃ r, n % 10 = r := ⟨_, rfl⟩
  obtain ⟨m0, hm0⟩ : ∃ m0, n / 10 = m0 := ⟨_, rfl⟩
  have hr10 : (r : Int) < 10 := by omega
  have hmd : (n : Int).tmod 10 = (r : Int) := by rw [Int.tmod_eq_emod_of_nonneg (by omega)]; omega
  have hmq : (n : Int).tdiv 10 = (m0 : Int) := by rw [Int.tdiv_eq_ediv_of_nonneg (by omega)]; omega
  obtain ⟨d, hd⟩ : ∃ d, UInt8.ofNat (48 + r) = d := ⟨_, rfl⟩
  have hdn : (48 : Int) + (r : Int) = (d.toNat : Int) := by rw [← hd, UInt8.toNat_ofNat', Nat.mod_eq_of_lt (by omega)]; omega
  have hcv := one_conv w d
  have HST := Lib.hid (show Lib.decDigits n = digs0 m0 ++ [d] from by rw [digs_step, hm0, hr, hd])
  have hm9 : m0 ≤ 999 := by omega
  clear hr hm0 hd
  go_enter Tryd.func22, Tryd.ntmps22
  go_wp2_with fail
  clear hcv hdn hmd hmq hr10
  go_loopw [0, 3] (fun nv sv wr => ∃ (m : Nat) (l : List UInt8), nv = .int .i64 m ∧ sv = .string ⟨l.toArray⟩ ∧ m ≤ 999 ∧ l.length + m ≤ 10000 ∧ Hid (Lib.decDigits n = digs0 m ++ l) ∧ Hid (Below w.heap.size w wr)) (fun nv _ _ => (intOf nv).toNat)
  case atStart => exact ⟨m0, [d], rfl, rfl, hm9, by simp; omega, HST, Lib.hid ((Below.refl _ _).alloc (Nat.le_refl _) _)⟩
  case round =>
    obtain ⟨m, l, rfl, rfl, hm, hl, HD, HB⟩ := hrel
    clear HST hm9
    by_cases h0 : 0 < m
    · have h0i : (0 : Int) < (m : Int) := by omega
      obtain ⟨r2, hr⟩ : ∃ r, m % 10 = r := ⟨_, rfl⟩
      obtain ⟨m2, hm2⟩ : ∃ m2, m / 10 = m2 := ⟨_, rfl⟩
      have hr10 : (r2 : Int) < 10 := by omega
      have hmd : (m : Int).tmod 10 = (r2 : Int) := by rw [Int.tmod_eq_emod_of_nonneg (by omega)]; omega
      have hmq : (m : Int).tdiv 10 = (m2 : Int) := by rw [Int.tdiv_eq_ediv_of_nonneg (by omega)]; omega
      obtain ⟨d2, hd⟩ : ∃ d, UInt8.ofNat (48 + r2) = d := ⟨_, rfl⟩
      have hdn : (48 : Int) + (r2 : Int) = (d2.toNat : Int) := by rw [← hd, UInt8.toNat_ofNat', Nat.mod_eq_of_lt (by omega)]; omega
      have hcv := one_conv wr d2
      have HST := Lib.hid (show Lib.decDigits n = digs0 m2 ++ ([d2] ++ l) from by rw [HD.out, digs0_step m h0, hm2, hr, hd, List.append_assoc])
      have hlt2 : m2 < m := by omega
      have hsz := size_mk l
      have hcl : ¬ 9223372036854775807 < 1 + l.length := by omega
      clear hr hm2 hd
      go_wp2_with fail
      go_roundw
      case rel => exact ⟨m2, [d2] ++ l, by go_num, congrArg Value.string (mk_append [d2] l), by omega, by simp; omega, HST, Lib.hid (HB.out.alloc HB.out.size _)⟩
      case measure => simp [intOf]; omega
    · obtain rfl : m = 0 := by omega
      go_wp2_with fail
      go_returns
      exact ⟨by rw [HD.out]; rfl, HB.out⟩
end Go.Proofs.YtgfcnafhfgncoaaDoor
