/- Lines as they are told, by the reference (chapter 23). -/
import Derived.Test.YthgjomihopijeaaGreatDoorRs1
import Derived.Test.YthgjomihopijeaaGreatDoorItoa
import Derived.Test.YthgjomihopijeaaGreatDoorConv
import Derived.Test.YthgjomihopijeaaGreatDoorBase
import Derived.WalkSmall
namespace Go.Proofs.YthgjomihopijeaaGreatDoor
open Go Go.Proofs Go.RowKit Go.Ink

theorem rShow_o (b : UInt8) (n : Int) (l : List UInt8) (w : World) (h1 : b ≠ 110) (h2 : b ≠ 108) (hl : l.length ≤ 100) :
    Calls Tryz.prog 6 #[.int .u8 (b.toNat : Int), .int .i64 n, .string ⟨l.toArray⟩] w fun e w' => e = .returned (.string ⟨(l ++ [10]).toArray⟩) ∧ Below w.heap.size w w' := by
  have e1 : ((b.toNat : Int) == 110) = false := by rw [beq_eq_false_iff_ne]; intro e; exact h1 (UInt8.toNat.inj ((show b.toNat = 110 by omega).trans rfl))
  have e2 : ((b.toNat : Int) == 108) = false := by rw [beq_eq_false_iff_ne]; intro e; exact h2 (UInt8.toNat.inj ((show b.toNat = 108 by omega).trans rfl))
  have hs : ¬ 9223372036854775807 < l.length + 1 := by omega
  have HSZ := size_mk l
  have hap : (⟨l.toArray⟩ : ByteArray) ++ ⟨#[10]⟩ = ⟨(l ++ [10]).toArray⟩ := by apply ByteArray.ext; simp
  clear h1 h2
  go_enter Tryz.func6, Tryz.ntmps6
  go_wp2_with fail
  go_returns
  exact ⟨rfl, Below.refl _ _⟩
theorem rShow_n (n : Int) (l A : List UInt8) (hA : Lib.itoa n = A) (w : World) (h1 : -9223372036854775808 ≤ n) (h2 : n ≤ 9223372036854775807) (hl : l.length ≤ 100) (hAl : A.length ≤ 100) (ht : Tab10 w) :
    Calls Tryz.prog 6 #[.int .u8 110, .int .i64 n, .string ⟨l.toArray⟩] w fun e w' => e = .returned (.string ⟨(A ++ [9] ++ l ++ [10]).toArray⟩) ∧ Below w.heap.size w w' := by
  have HI := Lib.hid (itoa_any n w h1 h2 ht)
  rw [hA] at HI
  have hs1 : ¬ 9223372036854775807 < A.length + 1 := by omega
  have hs2 : ¬ 9223372036854775807 < A.length + 1 + l.length := by omega
  have hs3 : ¬ 9223372036854775807 < A.length + 1 + l.length + 1 := by omega
  have HSZ := size_mk l
  have HSA := size_mk A
  clear ht h1 h2 hA
  go_enter Tryz.func6, Tryz.ntmps6
  go_wp2_with fail
  refine HI.out.mono ?_
  rintro e w1 ⟨rfl, hb⟩
  have HB := Lib.hid hb
  clear hb
  go_wp2_with fail
  go_returns
  have e : (⟨A.toArray⟩ : ByteArray) ++ ⟨#[9]⟩ ++ ⟨l.toArray⟩ ++ ⟨#[10]⟩ = ⟨(A ++ [9] ++ l ++ [10]).toArray⟩ := by apply ByteArray.ext; simp
  exact ⟨by rw [← e]; rfl, HB.out⟩
theorem octD_toNat' {k : Nat} (h : k < 8) : (octD k).toNat = 48 + k := by unfold octD; rw [UInt8.toNat_ofNat', Nat.mod_eq_of_lt (by omega)]
theorem ext_one {l : List UInt8} {k : Nat} {c : UInt8} (h : l[k]? = some c) : (⟨l.toArray⟩ : ByteArray).extract k (k + 1) = ⟨#[c]⟩ := by
  obtain ⟨hk, rfl⟩ := List.getElem?_eq_some_iff.1 h
  apply ByteArray.ext
  simp [ByteArray.data_extract, List.extract_toArray, List.extract_eq_take_drop]
  rw [List.drop_eq_getElem_cons hk]
  rfl
theorem three_conv (w : World) (x y z : UInt8) (a b c : Int) (ha : (x.toNat : Int) = a) (hb : (y.toNat : Int) = b) (hc : (z.toNat : Int) = c) :
    (Go.convert 29 9 (.slice (some ⟨w.heap.size, 0, none⟩) 3 3)).run Tryz.prog (w.alloc (.cells #[.int .u8 a, .int .u8 b, .int .u8 c] 5)) = .ok (.string ⟨#[x, y, z]⟩) (w.alloc (.cells #[.int .u8 a, .int .u8 b, .int .u8 c] 5)) := by
  subst ha hb hc
  have hs : SlOf IsByte (w.alloc (.cells #[.int .u8 (x.toNat : Int), .int .u8 (y.toNat : Int), .int .u8 (z.toNat : Int)] 5)) (some ⟨w.heap.size, 0, none⟩) 3 [x, y, z] := by
    refine ⟨by simp, by unfold maxLen; omega, by simp, fun k v hk => ⟨w.heap.size, 0, .int .u8 (v.toNat : Int), rfl, ?_, rfl⟩⟩
    match k, hk with
    | 0, hk => simp at hk; subst hk; simp
    | 1, hk => simp at hk; subst hk; simp
    | 2, hk => simp at hk; subst hk; simp
    | k + 3, hk => simp at hk
  exact hs.convert Tryz.underlying29 Tryz.underlying5 Tryz.underlying9 (Below.refl _ _)
theorem rd6 (c : UInt8) (h : (c.toNat : Int) < 32) : ((octD (c.toNat / 64)).toNat : Int) = 48 + (c.toNat : Int) / 64 := by rw [octD_toNat' (by omega)]; omega
theorem rd6w (c : UInt8) : ((octD (c.toNat / 64)).toNat : Int) = (48 + (c.toNat : Int) / 64) % 256 := by
  have := c.toNat_lt
  rw [octD_toNat' (by omega)]; omega
theorem rd3 (c : UInt8) : ((octD (c.toNat / 8 % 8)).toNat : Int) = 48 + (c.toNat : Int) / 8 % 8 := by rw [octD_toNat' (by omega)]; omega
theorem rd0 (c : UInt8) : ((octD (c.toNat % 8)).toNat : Int) = 48 + (c.toNat : Int) % 8 := by rw [octD_toNat' (by omega)]; omega
set_option maxRecDepth 100000 in
set_option maxHeartbeats 8000000 in
theorem rShow_l (n : Int) (l : List UInt8) (w : World) (hl : l.length ≤ 100) :
    Calls Tryz.prog 6 #[.int .u8 108, .int .i64 n, .string ⟨l.toArray⟩] w fun e w' => e = .returned (.string ⟨(showL l ++ [36, 10]).toArray⟩) ∧ Below w.heap.size w w' := by
  have HSZ := size_mk l
  go_enter Tryz.func6, Tryz.ntmps6
  go_wp2_with fail
  go_loopw [7, 8] (fun v i wr => ∃ (k : Nat) (A : List UInt8), v = .string ⟨A.toArray⟩ ∧ i = .int .i64 (k : Int) ∧ k ≤ l.length ∧ Hid (A = showL (l.take k)) ∧ A.length ≤ 400 ∧ Hid (Below w.heap.size w wr)) (fun _ i _ => l.length - (intOf i).toNat)
  case atStart => exact ⟨0, [], rfl, rfl, by omega, Lib.hid rfl, by simp, Lib.hid (Below.refl _ _)⟩
  case round =>
    obtain ⟨k, A, rfl, rfl, hk, HA, hAl, HB⟩ := hrel
    have HSA := size_mk A
    by_cases hlt : k < l.length
    · have hlti : (k : Int) < (l.length : Int) := by omega
      have hk0 : (0 : Int) ≤ (k : Int) := by omega
      have hw1 : IntKind.i64.wrap ((k : Int) + 1) = (k : Int) + 1 := IntWalk.i64_in _ (by omega)
      have hk1 : (k : Int) ≤ (k : Int) + 1 := by omega
      have hk2 : (0 : Int) ≤ (k : Int) + 1 := by omega
      have hk3 : (k : Int) + 1 ≤ (l.length : Int) := by omega
      obtain ⟨c, hkc⟩ : ∃ c, l[k]? = some c := ⟨_, List.getElem?_eq_getElem hlt⟩
      have hby : ∀ h, (⟨l.toArray⟩ : ByteArray)[k]'h = c := fun _ => by
        obtain ⟨hx, rfl⟩ := List.getElem?_eq_some_iff.1 hkc
        rfl
      have hex := ext_one hkc
      have HSN := Lib.hid (showL_snoc hkc)
      have HLN := Lib.hid (show (showL (l.take (k + 1))).length ≤ 400 from by have := showL_len (l.take (k + 1)); rw [List.length_take] at this; omega)
      clear hkc
      by_cases h9 : c.toNat = 92 ∨ c.toNat = 36
      · have HC := Lib.hid (show showC c = [92, c] from by
          have : c = 92 ∨ c = 36 := h9.imp (fun h => UInt8.toNat.inj h) (fun h => UInt8.toNat.inj h)
          unfold showC; rw [if_pos this])
        have hs1 : ¬ 9223372036854775807 < A.length + 1 := by omega
        have hs2 : ¬ 9223372036854775807 < A.length + 1 + 1 := by omega
        rcases h9 with h9 | h9
        · obtain rfl : c = 92 := UInt8.toNat.inj h9
          go_wp2_with fail
          go_round
          case rel => exact ⟨k + 1, A ++ [92, 92], congrArg Value.string (by apply ByteArray.ext; simp), by go_num, by omega, Lib.hid (by rw [HSN.out, HC.out, ← HA.out]), (by have := HLN.out; rw [HSN.out, HC.out, ← HA.out] at this; exact this), HB⟩
          case measure => simp [intOf] <;> omega
        · obtain rfl : c = 36 := UInt8.toNat.inj h9
          go_wp2_with fail
          go_round
          case rel => exact ⟨k + 1, A ++ [92, 36], congrArg Value.string (by apply ByteArray.ext; simp), by go_num, by omega, Lib.hid (by rw [HSN.out, HC.out, ← HA.out]), (by have := HLN.out; rw [HSN.out, HC.out, ← HA.out] at this; exact this), HB⟩
          case measure => simp [intOf] <;> omega
      by_cases h9t : c.toNat = 9
      · obtain rfl : c = 9 := UInt8.toNat.inj h9t
        have HC := Lib.hid (show showC 9 = [92, 116] from rfl)
        have hs2 : ¬ 9223372036854775807 < A.length + 2 := by omega
        go_wp2_with fail
        go_round
        case rel => exact ⟨k + 1, A ++ [92, 116], congrArg Value.string (by apply ByteArray.ext; simp), by go_num, by omega, Lib.hid (by rw [HSN.out, HC.out, ← HA.out]), (by have := HLN.out; rw [HSN.out, HC.out, ← HA.out] at this; exact this), HB⟩
        case measure => simp [intOf] <;> omega
      have e1 : ((c.toNat : Int) == 92) = false := by rw [beq_eq_false_iff_ne]; omega
      have e2 : ((c.toNat : Int) == 36) = false := by rw [beq_eq_false_iff_ne]; omega
      have e3 : ((c.toNat : Int) == 9) = false := by rw [beq_eq_false_iff_ne]; omega
      have hn1 : ¬ (c = 92 ∨ c = 36) := fun h => h9 (h.imp (fun h => by rw [h]; rfl) (fun h => by rw [h]; rfl))
      have hn2 : ¬ c = 9 := fun h => h9t (by rw [h]; rfl)
      by_cases h32 : c.toNat < 32 ∨ 126 < c.toNat
      · have HC := Lib.hid (show showC c = [92, octD (c.toNat / 64), octD (c.toNat / 8 % 8), octD (c.toNat % 8)] from by
          unfold showC; rw [if_neg hn1, if_neg hn2, if_pos h32])
        have hs1 : ¬ 9223372036854775807 < A.length + 1 := by omega
        have hs2 : ¬ 9223372036854775807 < A.length + 1 + 3 := by omega
        clear hn1 hn2 h9 h9t
        by_cases h3 : c.toNat < 32
        · have h3i : (c.toNat : Int) < 32 := by omega
          have hcv := three_conv wr _ _ _ _ _ _ (rd6 c h3i) (rd3 c) (rd0 c)
          clear h32 h3
          generalize octD (c.toNat / 64) = x6 at *
          generalize octD (c.toNat / 8 % 8) = x3 at *
          generalize octD (c.toNat % 8) = x0 at *
          go_wp2_with fail
          go_round
          case rel => exact ⟨k + 1, A ++ [92, x6, x3, x0], congrArg Value.string (by apply ByteArray.ext; simp), by go_num, by omega, Lib.hid (by rw [HSN.out, HC.out, ← HA.out]), (by have := HLN.out; rw [HSN.out, HC.out, ← HA.out] at this; exact this), Lib.hid (HB.out.alloc HB.out.size _)⟩
          case measure => simp [intOf] <;> omega
        · have h3i : ¬ (c.toNat : Int) < 32 := by omega
          have h4i : (126 : Int) < (c.toNat : Int) := by omega
          have hcv := three_conv wr _ _ _ _ _ _ (rd6w c) (rd3 c) (rd0 c)
          clear h32 h3
          generalize octD (c.toNat / 64) = x6 at *
          generalize octD (c.toNat / 8 % 8) = x3 at *
          generalize octD (c.toNat % 8) = x0 at *
          go_wp2_with fail
          go_round
          case rel => exact ⟨k + 1, A ++ [92, x6, x3, x0], congrArg Value.string (by apply ByteArray.ext; simp), by go_num, by omega, Lib.hid (by rw [HSN.out, HC.out, ← HA.out]), (by have := HLN.out; rw [HSN.out, HC.out, ← HA.out] at this; exact this), Lib.hid (HB.out.alloc HB.out.size _)⟩
          case measure => simp [intOf] <;> omega
      · have HC := Lib.hid (show showC c = [c] from by unfold showC; rw [if_neg hn1, if_neg hn2, if_neg h32])
        have h3i : ¬ (c.toNat : Int) < 32 := by omega
        have h4i : ¬ (126 : Int) < (c.toNat : Int) := by omega
        have hs1 : ¬ 9223372036854775807 < A.length + 1 := by omega
        clear hn1 hn2 h9 h9t h32
        go_wp2_with fail
        go_round
        case rel => exact ⟨k + 1, A ++ [c], congrArg Value.string (by apply ByteArray.ext; simp), by go_num, by omega, Lib.hid (by rw [HSN.out, HC.out, ← HA.out]), (by have := HLN.out; rw [HSN.out, HC.out, ← HA.out] at this; exact this), HB⟩
        case measure => simp [intOf] <;> omega
    · have hlti : ¬ (k : Int) < (l.length : Int) := by omega
      have hkt : k = l.length := by omega
      subst hkt
      have HSL : Hid (showL l = A) := Lib.hid (by simpa using HA.out.symm)
      have hs1 : ¬ 9223372036854775807 < A.length + 2 := by omega
      have hap : (⟨A.toArray⟩ : ByteArray) ++ ⟨#[36, 10]⟩ = ⟨(A ++ [36, 10]).toArray⟩ := by apply ByteArray.ext; simp
      go_wp2_with fail
      go_returns
      exact ⟨by rw [HSL.out]; rfl, HB.out⟩
end Go.Proofs.YthgjomihopijeaaGreatDoor
