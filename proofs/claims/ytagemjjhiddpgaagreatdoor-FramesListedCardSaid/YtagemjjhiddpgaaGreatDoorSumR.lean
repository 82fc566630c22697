/- The walks of the reference's sums: half, number, weigh, Sum, Hex. -/
import Derived.Test.YtagemjjhiddpgaaGreatDoorSum3
import Derived.Test.YtagemjjhiddpgaaGreatDoorNumsT
namespace Go.Proofs.YtagemjjhiddpgaaGreatDoor
open Go Go.Proofs Go.RowKit Go.Ink

theorem refHalf_any (n : Nat) (w : World) (hn : n ≤ 9223372036854775807) :
    Calls Tryz.prog 51 #[.int .i64 n] w fun e w' => e = .returned (.int .u32 ((n % 65535 : Nat) : Int)) ∧ w = w' := by
  go_enter Tryz.func51, Tryz.ntmps51
  have hne : ¬ (n : Int) % 65535 < 0 := by omega
  go_wp2_with fail
  go_returns
  exact ⟨rfl, rfl⟩
theorem refNumber_any (a b : Nat) (w : World) (ha : a ≤ 9223372036854775807) (hb : b ≤ 9223372036854775807) :
    Calls Tryz.prog 39 #[.int .i64 a, .int .i64 b] w fun e w' => e = .returned (.int .u32 ((65536 * (b % 65535) + a % 65535 : Nat) : Int)) ∧ w = w' := by
  obtain ⟨r, hr⟩ : ∃ r, b % 65535 = r := ⟨_, rfl⟩
  obtain ⟨q, hq⟩ : ∃ q, a % 65535 = q := ⟨_, rfl⟩
  have HR := Lib.hid (refHalf_any b w hb)
  have HQ := Lib.hid (refHalf_any a w ha)
  have hr1 : r ≤ 65534 := by omega
  have hq1 : q ≤ 65534 := by omega
  rw [hr] at HR ⊢
  rw [hq] at HQ ⊢
  clear hr hq
  go_enter Tryz.func39, Tryz.ntmps39
  go_wp2_with fail
  refine HR.out.mono ?_
  rintro e w' ⟨rfl, rfl⟩
  go_wp2_with fail
  refine HQ.out.mono ?_
  rintro e w' ⟨rfl, rfl⟩
  go_wp2_with fail
  go_returns
  exact ⟨rfl, rfl⟩
/-- At the head of weigh's loop. -/
structure RefAt (l : List UInt8) (k a s : Nat) : Prop where
  a : a + sumA (l.drop k) = sumA l
  s : s + sumB (l.drop k) = sumB l
theorem RefAt.next {l : List UInt8} {k a s : Nat} {c : UInt8} (h : RefAt l k a s) (hk : l[k]? = some c) : RefAt l (k + 1) (a + c.toNat) (s + (l.length - k) * c.toNat) := by
  obtain ⟨hkl, rfl⟩ := List.getElem?_eq_some_iff.1 hk
  have hd := List.drop_eq_getElem_cons hkl
  refine ⟨?_, ?_⟩
  · have := h.a
    rw [hd, sumA] at this; omega
  · have := h.s
    rw [hd, sumB, List.length_drop, show l.length - (k + 1) + 1 = l.length - k by omega] at this; omega
set_option maxHeartbeats 1000000 in
theorem refWeigh_any (l : List UInt8) (w : World) (hn : l.length ≤ 4194304) :
    Calls Tryz.prog 38 #[.string ⟨l.toArray⟩] w fun e w' => e = .returned (.tuple #[.int .i64 (sumA l : Int), .int .i64 (sumB l : Int)]) ∧ w = w' := by
  have hA := sumA_le l
  have hB := sumB_le l
  have hB2 : l.length * l.length ≤ 4194304 * 4194304 := Nat.mul_le_mul hn hn
  have hs1 : sumA l ≤ 4000000000 := by omega
  have hs2 : sumB l ≤ 4600000000000000 := by omega
  clear hA hB hB2
  go_enter Tryz.func38, Tryz.ntmps38
  go_wp2_with fail
  go_loop [2, 3, 4] (fun av sv iv => ∃ k a s : Nat, iv = .int .i64 (k : Int) ∧ k ≤ l.length ∧ av = .int .i64 (a : Int) ∧ sv = .int .i64 (s : Int) ∧ Hid (RefAt l k a s)) (fun _ _ iv => l.length - (intOf iv).toNat)
  case atStart => exact ⟨0, 0, 0, rfl, by omega, rfl, rfl, Lib.hid ⟨by simp, by simp⟩⟩
  case round =>
    obtain ⟨k, a, s, rfl, hk, rfl, rfl, HW⟩ := hrel
    have ha : a ≤ 4000000000 := by have := HW.out.a; omega
    have hs : s ≤ 4600000000000000 := by have := HW.out.s; omega
    by_cases hlt : k < l.length
    · obtain ⟨c, hkc⟩ : ∃ c, l[k]? = some c := ⟨_, List.getElem?_eq_getElem hlt⟩
      have hby : ∀ h, (⟨l.toArray⟩ : ByteArray)[k]'h = c := fun _ => by
        obtain ⟨hx, rfl⟩ := List.getElem?_eq_some_iff.1 hkc
        rfl
      have HN := Lib.hid (HW.out.next hkc)
      have hc256 := c.toNat_lt
      have hp : (l.length - k) * c.toNat ≤ 4194304 * 255 := Nat.mul_le_mul (by omega) (by omega)
      have hm : ((l.length : Int) - (k : Int)) * (c.toNat : Int) = (((l.length - k) * c.toNat : Nat) : Int) := by
        rw [Int.natCast_mul, show ((l.length : Int) - (k : Int)) = ((l.length - k : Nat) : Int) by omega]
      have hlti : (k : Int) < (l.length : Int) := by omega
      clear hkc
      generalize (l.length - k) * c.toNat = q at *
      go_wp2_with fail
      go_round
      case rel => exact ⟨k + 1, a + c.toNat, s + q, by go_num, by omega, by go_num, by go_num, HN⟩
      case measure => simp [intOf]; omega
    · have hkl : k = l.length := by omega
      subst hkl
      have h1 : a = sumA l := by have := HW.out.a; rw [List.drop_length] at this; simpa [sumA] using this
      have h2 : s = sumB l := by have := HW.out.s; rw [List.drop_length] at this; simpa [sumB] using this
      subst h1 h2
      go_wp2_with fail
      go_returns
      exact ⟨rfl, rfl⟩
theorem refSum_any (l : List UInt8) (w : World) (hn : l.length ≤ 4194304) :
    Calls Tryz.prog 25 #[.string ⟨l.toArray⟩] w fun e w' => e = .returned (.int .u32 ((sumN l : Nat) : Int)) ∧ w = w' := by
  have hA := sumA_le l
  have hB := sumB_le l
  have hB2 : l.length * l.length ≤ 4194304 * 4194304 := Nat.mul_le_mul hn hn
  have HW := Lib.hid (refWeigh_any l w hn)
  have HN := Lib.hid (refNumber_any (sumA l) (sumB l) w (by omega) (by omega))
  have HE := Lib.hid (show 65536 * (sumB l % 65535) + sumA l % 65535 = sumN l from rfl)
  rw [HE.out] at HN
  clear hA hB hB2
  generalize sumA l = a at *
  generalize sumB l = b at *
  generalize sumN l = n at *
  go_enter Tryz.func25, Tryz.ntmps25
  go_wp2_with fail
  refine HW.out.mono ?_
  rintro e w' ⟨rfl, rfl⟩
  go_wp2_with fail
  refine HN.out.mono ?_
  rintro e w' ⟨rfl, rfl⟩
  go_wp2_with fail
  go_returns
  exact ⟨rfl, rfl⟩
theorem hexT_cut : ∀ k : Nat, k < 16 → (([48, 49, 50, 51, 52, 53, 54, 55, 56, 57, 97, 98, 99, 100, 101, 102] : List UInt8).drop k).take 1 = [hexD k] := by decide
theorem hexT_ext (d : Nat) (h : d < 16) : (⟨#[48, 49, 50, 51, 52, 53, 54, 55, 56, 57, 97, 98, 99, 100, 101, 102]⟩ : ByteArray).extract d (d + 1) = ⟨#[hexD d]⟩ := by
  have := extract_mk [48, 49, 50, 51, 52, 53, 54, 55, 56, 57, 97, 98, 99, 100, 101, 102] d (d + 1)
  rw [Nat.add_sub_cancel_left, hexT_cut d h] at this
  exact this
set_option maxRecDepth 100000 in
set_option maxHeartbeats 2000000 in
theorem refHex_any (n : Nat) (w : World) (hn : n < 4294967296) :
    Calls Tryz.prog 24 #[.int .u32 n] w fun e w' => e = .returned (.string ⟨(hex8 n).toArray⟩) ∧ w = w' := by
  obtain ⟨d0, hd0⟩ : ∃ d, n / 268435456 % 16 = d := ⟨_, rfl⟩
  have e0 : (n : Int) / 268435456 % 16 = (d0 : Int) := by omega
  have l0 : d0 < 16 := by omega
  have x0 := hexT_ext d0 l0
  obtain ⟨d1, hd1⟩ : ∃ d, n / 16777216 % 16 = d := ⟨_, rfl⟩
  have e1 : (n : Int) / 16777216 % 16 = (d1 : Int) := by omega
  have l1 : d1 < 16 := by omega
  have x1 := hexT_ext d1 l1
  obtain ⟨d2, hd2⟩ : ∃ d, n / 1048576 % 16 = d := ⟨_, rfl⟩
  have e2 : (n : Int) / 1048576 % 16 = (d2 : Int) := by omega
  have l2 : d2 < 16 := by omega
  have x2 := hexT_ext d2 l2
  obtain ⟨d3, hd3⟩ : ∃ d, n / 65536 % 16 = d := ⟨_, rfl⟩
  have e3 : (n : Int) / 65536 % 16 = (d3 : Int) := by omega
  have l3 : d3 < 16 := by omega
  have x3 := hexT_ext d3 l3
  obtain ⟨d4, hd4⟩ : ∃ d, n / 4096 % 16 = d := ⟨_, rfl⟩
  have e4 : (n : Int) / 4096 % 16 = (d4 : Int) := by omega
  have l4 : d4 < 16 := by omega
  have x4 := hexT_ext d4 l4
  obtain ⟨d5, hd5⟩ : ∃ d, n / 256 % 16 = d := ⟨_, rfl⟩
  have e5 : (n : Int) / 256 % 16 = (d5 : Int) := by omega
  have l5 : d5 < 16 := by omega
  have x5 := hexT_ext d5 l5
  obtain ⟨d6, hd6⟩ : ∃ d, n / 16 % 16 = d := ⟨_, rfl⟩
  have e6 : (n : Int) / 16 % 16 = (d6 : Int) := by omega
  have l6 : d6 < 16 := by omega
  have x6 := hexT_ext d6 l6
  obtain ⟨d7, hd7⟩ : ∃ d, n % 16 = d := ⟨_, rfl⟩
  have e7 : (n : Int) % 16 = (d7 : Int) := by omega
  have l7 : d7 < 16 := by omega
  have x7 := hexT_ext d7 l7
  have HX := Lib.hid (show hex8 n = [hexD d0, hexD d1, hexD d2, hexD d3, hexD d4, hexD d5, hexD d6, hexD d7] by unfold hex8; rw [hd0, hd1, hd2, hd3, hd4, hd5, hd6, hd7])
  clear hd0 hd1 hd2 hd3 hd4 hd5 hd6 hd7
  rw [HX.out]
  generalize hexD d0 = c0 at *
  generalize hexD d1 = c1 at *
  generalize hexD d2 = c2 at *
  generalize hexD d3 = c3 at *
  generalize hexD d4 = c4 at *
  generalize hexD d5 = c5 at *
  generalize hexD d6 = c6 at *
  generalize hexD d7 = c7 at *
  go_enter Tryz.func24, Tryz.ntmps24
  go_wp2_with fail
  refine wp_loop_rounds 9 ?_
  rw [rounds_succ]
  go_wp2_with fail
  rw [rounds_succ]
  go_wp2_with fail
  rw [rounds_succ]
  go_wp2_with fail
  rw [rounds_succ]
  go_wp2_with fail
  rw [rounds_succ]
  go_wp2_with fail
  rw [rounds_succ]
  go_wp2_with fail
  rw [rounds_succ]
  go_wp2_with fail
  rw [rounds_succ]
  go_wp2_with fail
  rw [rounds_succ]
  go_wp2_with fail
  go_returns
  have e : (⟨#[c0, c1, c2, c3, c4, c5, c6, c7]⟩ : ByteArray) = ⟨#[]⟩ ++ ⟨#[c0]⟩ ++ ⟨#[c1]⟩ ++ ⟨#[c2]⟩ ++ ⟨#[c3]⟩ ++ ⟨#[c4]⟩ ++ ⟨#[c5]⟩ ++ ⟨#[c6]⟩ ++ ⟨#[c7]⟩ := by apply ByteArray.ext; simp
  exact ⟨by rw [e]; rfl, rfl⟩
end Go.Proofs.YtagemjjhiddpgaaGreatDoor
