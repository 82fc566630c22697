/- Lines as they are told, by the program (chapter 23). -/
import Derived.Test.YthgjomihopijeaaGreatDoorRs2
import Derived.Test.YthgjomihopijeaaGreatDoorItoa
import Derived.Test.YthgjomihopijeaaGreatDoorConv
import Derived.WalkSmall
namespace Go.Proofs.YthgjomihopijeaaGreatDoor
open Go Go.Proofs Go.RowKit Go.Ink

theorem octD_toNat {k : Nat} (h : k < 8) : (octD k).toNat = 48 + k := by unfold octD; rw [UInt8.toNat_ofNat', Nat.mod_eq_of_lt (by omega)]
theorem oct6 (c : UInt8) : ((octD (c.toNat / 64)).toNat : Int) = 48 + (c.toNat : Int) / 64 % 8 := by
  have := c.toNat_lt
  rw [octD_toNat (by omega)]; omega
theorem oct3 (c : UInt8) : ((octD (c.toNat / 8 % 8)).toNat : Int) = 48 + (c.toNat : Int) / 8 % 8 := by
  rw [octD_toNat (by omega)]; omega
theorem oct0 (c : UInt8) : ((octD (c.toNat % 8)).toNat : Int) = 48 + (c.toNat : Int) % 8 := by
  rw [octD_toNat (by omega)]; omega
theorem octw_all : ∀ m : Fin 256, (48 + bits BinOp.and IntKind.u8 ((m.val : Nat) : Int) 7) % 256 = ((48 + m.val % 8 : Nat) : Int) := by decide +kernel
theorem octw (m : Nat) (h : m < 256) : (48 + bits BinOp.and IntKind.u8 (m : Int) 7) % 256 = ((48 + m % 8 : Nat) : Int) := octw_all ⟨m, h⟩
theorem oct6w (c : UInt8) : ((octD (c.toNat / 64)).toNat : Int) = (48 + bits BinOp.and IntKind.u8 ((c.toNat : Int) / 64) 7) % 256 := by
  have := c.toNat_lt
  rw [show (c.toNat : Int) / 64 = ((c.toNat / 64 : Nat) : Int) by omega, octw _ (by omega), octD_toNat (by omega)]; omega
theorem oct3w (c : UInt8) : ((octD (c.toNat / 8 % 8)).toNat : Int) = (48 + bits BinOp.and IntKind.u8 ((c.toNat : Int) / 8) 7) % 256 := by
  have := c.toNat_lt
  rw [show (c.toNat : Int) / 8 = ((c.toNat / 8 : Nat) : Int) by omega, octw _ (by omega), octD_toNat (by omega)]
theorem oct0w (c : UInt8) : ((octD (c.toNat % 8)).toNat : Int) = (48 + bits BinOp.and IntKind.u8 (c.toNat : Int) 7) % 256 := by
  have := c.toNat_lt
  rw [octw _ (by omega), octD_toNat (by omega)]
theorem writeByte_as (B b : Nat) (l : List UInt8) (c : UInt8) (z : Int) (hz : (c.toNat : Int) = z) (w : World) (h : Bdr w B b l) (hlen : l.length + 1 ≤ 140737488355328) (hBw : B ≤ w.heap.size) :
    Calls Tryz.prog 12 #[.pointer (some ⟨b, 0, none⟩), .int .u8 z] w fun e w' => e = .returned .nilIface ∧ Bdr w' B b (l ++ [c]) ∧ Below B w w' := by
  subst hz
  exact writeByte_any B b l c w h hlen hBw
theorem show_o (b : UInt8) (n : Int) (l : List UInt8) (w : World) (h1 : b ≠ 110) (h2 : b ≠ 108) (hl : l.length ≤ 100) :
    Calls Tryz.prog 5 #[.int .u8 (b.toNat : Int), .int .i64 n, .string ⟨l.toArray⟩] w fun e w' => e = .returned (.string ⟨(l ++ [10]).toArray⟩) ∧ Below w.heap.size w w' := by
  have e1 : ((b.toNat : Int) == 110) = false := by rw [beq_eq_false_iff_ne]; intro e; exact h1 (UInt8.toNat.inj ((show b.toNat = 110 by omega).trans rfl))
  have e2 : ((b.toNat : Int) == 108) = false := by rw [beq_eq_false_iff_ne]; intro e; exact h2 (UInt8.toNat.inj ((show b.toNat = 108 by omega).trans rfl))
  have hs : ¬ 9223372036854775807 < l.length + 1 := by omega
  have HSZ := size_mk l
  have hap : (⟨l.toArray⟩ : ByteArray) ++ ⟨#[10]⟩ = ⟨(l ++ [10]).toArray⟩ := by apply ByteArray.ext; simp
  clear h1 h2
  go_enter Tryz.func5, Tryz.ntmps5
  go_wp2_with fail
  go_returns
  exact ⟨rfl, Below.refl _ _⟩
theorem show_n (n : Int) (l A : List UInt8) (hA : Lib.itoa n = A) (w : World) (h1 : -9223372036854775808 ≤ n) (h2 : n ≤ 9223372036854775807) (hl : l.length ≤ 100) (hAl : A.length ≤ 100) (ht : Tab10 w) :
    Calls Tryz.prog 5 #[.int .u8 110, .int .i64 n, .string ⟨l.toArray⟩] w fun e w' => e = .returned (.string ⟨(A ++ [9] ++ l ++ [10]).toArray⟩) ∧ Below w.heap.size w w' := by
  have HI := Lib.hid (itoa_any n w h1 h2 ht)
  rw [hA] at HI
  have hs1 : ¬ 9223372036854775807 < A.length + 1 := by omega
  have hs2 : ¬ 9223372036854775807 < A.length + 1 + l.length := by omega
  have hs3 : ¬ 9223372036854775807 < A.length + 1 + l.length + 1 := by omega
  have HSZ := size_mk l
  have HSA := size_mk A
  clear ht h1 h2 hA
  go_enter Tryz.func5, Tryz.ntmps5
  go_wp2_with fail
  refine HI.out.mono ?_
  rintro e w1 ⟨rfl, hb⟩
  have HB := Lib.hid hb
  clear hb
  go_wp2_with fail
  go_returns
  have e : (⟨A.toArray⟩ : ByteArray) ++ ⟨#[9]⟩ ++ ⟨l.toArray⟩ ++ ⟨#[10]⟩ = ⟨(A ++ [9] ++ l ++ [10]).toArray⟩ := by apply ByteArray.ext; simp
  exact ⟨by rw [← e]; rfl, HB.out⟩
set_option maxRecDepth 100000 in
set_option maxHeartbeats 8000000 in
theorem show_l (n : Int) (l : List UInt8) (w : World) (hl : l.length ≤ 100) :
    Calls Tryz.prog 5 #[.int .u8 108, .int .i64 n, .string ⟨l.toArray⟩] w fun e w' => e = .returned (.string ⟨(showL l ++ [36, 10]).toArray⟩) ∧ Below w.heap.size w w' := by
  have HBN := Lib.hid (bdr_new (w := w))
  have HBA := Lib.hid (show Below w.heap.size w (w.alloc (.cells #[.pointer none, .slice none 0 0] 31 (0, 0))) from (Below.refl _ _).alloc (Nat.le_refl _) _)
  have HSZ := size_mk l
  go_enter Tryz.func5, Tryz.ntmps5
  go_wp2_with fail
  go_loopw [24] (fun i wr => ∃ k : Nat, i = .int .i64 (k : Int) ∧ k ≤ l.length ∧ Hid (Bdr wr w.heap.size w.heap.size (showL (l.take k))) ∧ Hid (Below w.heap.size w wr)) (fun i _ => l.length - (intOf i).toNat)
  case atStart => exact ⟨0, rfl, by omega, HBN, HBA⟩
  case round =>
    obtain ⟨k, rfl, hk, HBd, HB⟩ := hrel
    have HLN := Lib.hid (show (showL (l.take k)).length ≤ 400 from by have := showL_len (l.take k); rw [List.length_take] at this; omega)
    by_cases hlt : k < l.length
    · have hlti : (k : Int) < (l.length : Int) := by omega
      have hk0 : (0 : Int) ≤ (k : Int) := by omega
      obtain ⟨c, hkc⟩ : ∃ c, l[k]? = some c := ⟨_, List.getElem?_eq_getElem hlt⟩
      have hby : ∀ h, (⟨l.toArray⟩ : ByteArray)[k]'h = c := fun _ => by
        obtain ⟨hx, rfl⟩ := List.getElem?_eq_some_iff.1 hkc
        rfl
      have HSN := Lib.hid (showL_snoc hkc)
      clear hkc HBN HBA
      by_cases h9 : c.toNat = 92 ∨ c.toNat = 36
      · have HC := Lib.hid (show showC c = [92, c] from by
          have : c = 92 ∨ c = 36 := h9.imp (fun h => UInt8.toNat.inj h) (fun h => UInt8.toNat.inj h)
          unfold showC; rw [if_pos this])
        rcases h9 with h9 | h9
        · obtain rfl : c = 92 := UInt8.toNat.inj h9
          go_wp2_with fail
          refine (writeString_any _ _ _ _ _ HBd.out (by have := HLN.out; show _ + 2 ≤ _; omega) HB.out.size).mono ?_
          rintro e w1 ⟨rfl, hbd, hb⟩
          have HBd1 : Hid (Bdr w1 w.heap.size w.heap.size (showL (l.take (k + 1)))) := Lib.hid (by rw [HSN.out, HC.out]; exact hbd)
          have HB1 := Lib.hid (HB.out.trans hb)
          clear hbd hb HBd HB
          go_wp2_with fail
          go_round
          case rel => exact ⟨k + 1, by go_num, by omega, HBd1, HB1⟩
          case measure => simp [intOf] <;> omega
        · obtain rfl : c = 36 := UInt8.toNat.inj h9
          go_wp2_with fail
          refine (writeString_any _ _ _ _ _ HBd.out (by have := HLN.out; show _ + 2 ≤ _; omega) HB.out.size).mono ?_
          rintro e w1 ⟨rfl, hbd, hb⟩
          have HBd1 : Hid (Bdr w1 w.heap.size w.heap.size (showL (l.take (k + 1)))) := Lib.hid (by rw [HSN.out, HC.out]; exact hbd)
          have HB1 := Lib.hid (HB.out.trans hb)
          clear hbd hb HBd HB
          go_wp2_with fail
          go_round
          case rel => exact ⟨k + 1, by go_num, by omega, HBd1, HB1⟩
          case measure => simp [intOf] <;> omega
      by_cases h9t : c.toNat = 9
      · obtain rfl : c = 9 := UInt8.toNat.inj h9t
        have HC := Lib.hid (show showC 9 = [92, 116] from rfl)
        go_wp2_with fail
        refine (writeString_any _ _ _ _ _ HBd.out (by have := HLN.out; show _ + 2 ≤ _; omega) HB.out.size).mono ?_
        rintro e w1 ⟨rfl, hbd, hb⟩
        have HBd1 : Hid (Bdr w1 w.heap.size w.heap.size (showL (l.take (k + 1)))) := Lib.hid (by rw [HSN.out, HC.out]; exact hbd)
        have HB1 := Lib.hid (HB.out.trans hb)
        clear hbd hb HBd HB
        go_wp2_with fail
        go_round
        case rel => exact ⟨k + 1, by go_num, by omega, HBd1, HB1⟩
        case measure => simp [intOf] <;> omega
      have e1 : ((c.toNat : Int) == 92) = false := by rw [beq_eq_false_iff_ne]; omega
      have e2 : ((c.toNat : Int) == 36) = false := by rw [beq_eq_false_iff_ne]; omega
      have e3 : ((c.toNat : Int) == 9) = false := by rw [beq_eq_false_iff_ne]; omega
      have hn1 : ¬ (c = 92 ∨ c = 36) := fun h => h9 (h.imp (fun h => by rw [h]; rfl) (fun h => by rw [h]; rfl))
      have hn2 : ¬ c = 9 := fun h => h9t (by rw [h]; rfl)
      by_cases h32 : c.toNat < 32 ∨ 126 < c.toNat
      · have HC := Lib.hid (show showC c = [92, octD (c.toNat / 64), octD (c.toNat / 8 % 8), octD (c.toNat % 8)] from by
          unfold showC; rw [if_neg hn1, if_neg hn2, if_pos h32])
        have HZ6 := Lib.hid (oct6 c)
        have HZ3 := Lib.hid (oct3 c)
        have HZ0 := Lib.hid (oct0 c)
        have HY6 := Lib.hid (oct6w c)
        have HY3 := Lib.hid (oct3w c)
        have HY0 := Lib.hid (oct0w c)
        generalize octD (c.toNat / 64) = x6 at *
        generalize octD (c.toNat / 8 % 8) = x3 at *
        generalize octD (c.toNat % 8) = x0 at *
        clear hn1 hn2 h9 h9t
        by_cases h3 : c.toNat < 32
        · have h3i : (c.toNat : Int) < 32 := by omega
          clear h32 h3
          go_wp2_with fail
          refine (writeByte_any _ _ _ 92 _ HBd.out (by have := HLN.out; omega) HB.out.size).mono ?_
          rintro e w1 ⟨rfl, hbd, hb⟩
          have HBd1 := Lib.hid hbd
          have HB1 := Lib.hid (HB.out.trans hb)
          clear hbd hb HBd HB
          go_wp2_with fail
          refine wp_loop_rounds 4 ?_
          rw [rounds_succ]
          go_wp2_with fail
          refine (writeByte_as _ _ _ x6 _ HZ6.out _ HBd1.out (by have := HLN.out; simp; omega) HB1.out.size).mono ?_
          rintro e w2 ⟨rfl, hbd, hb⟩
          have HBd2 := Lib.hid hbd
          have HB2 := Lib.hid (HB1.out.trans hb)
          clear hbd hb HBd1 HB1
          go_wp2_with fail
          rw [rounds_succ]
          go_wp2_with fail
          refine (writeByte_as _ _ _ x3 _ HZ3.out _ HBd2.out (by have := HLN.out; simp; omega) HB2.out.size).mono ?_
          rintro e w3 ⟨rfl, hbd, hb⟩
          have HBd3 := Lib.hid hbd
          have HB3 := Lib.hid (HB2.out.trans hb)
          clear hbd hb HBd2 HB2
          go_wp2_with fail
          rw [rounds_succ]
          go_wp2_with fail
          refine (writeByte_as _ _ _ x0 _ HZ0.out _ HBd3.out (by have := HLN.out; simp; omega) HB3.out.size).mono ?_
          rintro e w4 ⟨rfl, hbd, hb⟩
          have HBd4 : Hid (Bdr w4 w.heap.size w.heap.size (showL (l.take (k + 1)))) := Lib.hid (by rw [HSN.out, HC.out]; simpa using hbd)
          have HB4 := Lib.hid (HB3.out.trans hb)
          clear hbd hb HBd3 HB3
          go_wp2_with fail
          rw [rounds_succ]
          go_wp2_with fail
          go_round
          case rel => exact ⟨k + 1, by go_num, by omega, HBd4, HB4⟩
          case measure => simp [intOf] <;> omega
        · have h3i : ¬ (c.toNat : Int) < 32 := by omega
          have h4i : (126 : Int) < (c.toNat : Int) := by omega
          clear h32 h3
          go_wp2_with fail
          refine (writeByte_any _ _ _ 92 _ HBd.out (by have := HLN.out; omega) HB.out.size).mono ?_
          rintro e w1 ⟨rfl, hbd, hb⟩
          have HBd1 := Lib.hid hbd
          have HB1 := Lib.hid (HB.out.trans hb)
          clear hbd hb HBd HB
          go_wp2_with fail
          refine wp_loop_rounds 4 ?_
          rw [rounds_succ]
          go_wp2_with fail
          refine (writeByte_as _ _ _ x6 _ HY6.out _ HBd1.out (by have := HLN.out; simp; omega) HB1.out.size).mono ?_
          rintro e w2 ⟨rfl, hbd, hb⟩
          have HBd2 := Lib.hid hbd
          have HB2 := Lib.hid (HB1.out.trans hb)
          clear hbd hb HBd1 HB1
          go_wp2_with fail
          rw [rounds_succ]
          go_wp2_with fail
          refine (writeByte_as _ _ _ x3 _ HY3.out _ HBd2.out (by have := HLN.out; simp; omega) HB2.out.size).mono ?_
          rintro e w3 ⟨rfl, hbd, hb⟩
          have HBd3 := Lib.hid hbd
          have HB3 := Lib.hid (HB2.out.trans hb)
          clear hbd hb HBd2 HB2
          go_wp2_with fail
          rw [rounds_succ]
          go_wp2_with fail
          refine (writeByte_as _ _ _ x0 _ HY0.out _ HBd3.out (by have := HLN.out; simp; omega) HB3.out.size).mono ?_
          rintro e w4 ⟨rfl, hbd, hb⟩
          have HBd4 : Hid (Bdr w4 w.heap.size w.heap.size (showL (l.take (k + 1)))) := Lib.hid (by rw [HSN.out, HC.out]; simpa using hbd)
          have HB4 := Lib.hid (HB3.out.trans hb)
          clear hbd hb HBd3 HB3
          go_wp2_with fail
          rw [rounds_succ]
          go_wp2_with fail
          go_round
          case rel => exact ⟨k + 1, by go_num, by omega, HBd4, HB4⟩
          case measure => simp [intOf] <;> omega
      · have HC := Lib.hid (show showC c = [c] from by unfold showC; rw [if_neg hn1, if_neg hn2, if_neg h32])
        have h3i : ¬ (c.toNat : Int) < 32 := by omega
        have h4i : ¬ (126 : Int) < (c.toNat : Int) := by omega
        clear hn1 hn2 h9 h9t h32
        go_wp2_with fail
        refine (writeByte_any _ _ _ c _ HBd.out (by have := HLN.out; omega) HB.out.size).mono ?_
        rintro e w1 ⟨rfl, hbd, hb⟩
        have HBd1 : Hid (Bdr w1 w.heap.size w.heap.size (showL (l.take (k + 1)))) := Lib.hid (by rw [HSN.out, HC.out]; exact hbd)
        have HB1 := Lib.hid (HB.out.trans hb)
        clear hbd hb HBd HB
        go_wp2_with fail
        go_round
        case rel => exact ⟨k + 1, by go_num, by omega, HBd1, HB1⟩
        case measure => simp [intOf] <;> omega
    · have hkt : k = l.length := by omega
      subst hkt
      have HBd' : Hid (Bdr wr w.heap.size w.heap.size (showL l)) := Lib.hid (by simpa using HBd.out)
      have HLL : Hid ((showL l).length ≤ 400) := Lib.hid (by have := showL_len l; omega)
      clear HBd HLN
      obtain ⟨sl, hsl⟩ : ∃ sl, showL l = sl := ⟨_, rfl⟩
      rw [hsl] at HBd' HLL
      have HSL := Lib.hid hsl
      clear hsl
      have hs1 : ¬ 9223372036854775807 < sl.length + 2 := by have := HLL.out; omega
      have HSS := size_mk sl
      go_wp2_with fail
      refine (Tryz.Builder_String_any_k _ _ _ _ (Lib.IsBuilderF.of HBd'.out) HB.out.size).mono ?_
      rintro e w7 ⟨rfl, _, hb7, _⟩
      have HB7 := Lib.hid (HB.out.trans hb7); clear hb7
      have hap : (⟨sl.toArray⟩ : ByteArray) ++ ⟨#[36, 10]⟩ = ⟨(sl ++ [36, 10]).toArray⟩ := by apply ByteArray.ext; simp
      go_wp2_with fail
      go_returns
      exact ⟨by rw [HSL.out]; rfl, HB7.out⟩
end Go.Proofs.YthgjomihopijeaaGreatDoor
