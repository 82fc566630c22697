/- The walk of the law FramesLine: it answers true. -/
import Derived.Test.YtagemjjhiddpgaaDoorFrmL1
namespace Go.Proofs.YtagemjjhiddpgaaDoor
open Go Go.Proofs Go.RowKit Go.Ink Go.Sort

theorem count10_snoc {l : List UInt8} {k : Nat} {c : UInt8} (h : l[k]? = some c) : count10 (l.take (k + 1)) = count10 (l.take k) + (if c = 10 then 1 else 0) := by
  obtain ⟨hk, rfl⟩ := List.getElem?_eq_some_iff.1 h
  rw [List.take_succ_eq_append_getElem hk, count10_append]
  simp [count10]
theorem count10_le : ∀ l : List UInt8, count10 l ≤ l.length
  | [] => by simp [count10]
  | c :: l => by
    have := count10_le l
    simp only [count10, List.length_cons]
    split <;> omega
/-- The counts at the head of the loop. -/
structure LineAt (F p : List UInt8) (k a i : Nat) : Prop where
  a : a = count10 (F.take k)
  i : i = count10 (p.take k)
theorem byte_is {c : UInt8} (h : c = 10) : ((c.toNat : Int) == 10) = true := by rw [h]; rfl
theorem byte_not {c : UInt8} (h : ¬ c = 10) : ((c.toNat : Int) == 10) = false := by
  rw [beq_eq_false_iff_ne]; intro e; exact h (UInt8.toNat_inj.1 (by show c.toNat = 10; omega))
theorem byte_at {l : List UInt8} {k : Nat} {c : UInt8} (h : l[k]? = some c) : ∀ h, (⟨l.toArray⟩ : ByteArray)[k]'h = c := fun _ => by
  obtain ⟨hx, rfl⟩ := List.getElem?_eq_some_iff.1 h
  rfl

set_option maxRecDepth 100000 in
set_option maxHeartbeats 2000000 in
theorem framesLine_any (p : List UInt8) (w : World) (hs : p.length ≤ 140737488355328) (he : EnvF w) :
    Calls Tryd.prog 7 #[.string ⟨p.toArray⟩] w fun e w' => e = .returned (.bool true) ∧ Below w.heap.size w w' := by
  have HE := Lib.hid he; clear he
  by_cases hs1 : 15000 < p.length
  · go_enter Tryd.func7, Tryd.ntmps7
    go_wp2_with fail
    refine (stands_any _ HE.out).mono ?_
    rintro e w1 ⟨rfl, hb⟩
    go_wp2_with fail
    go_returns
    exact ⟨rfl, hb⟩
  have HF := Lib.hid (fun w he => frame_any p w (by omega) he)
  have HI := Lib.hid (fun w ht => itoa_any (p.length : Int) w (by omega) (by omega) ht)
  have hh := frame_head p
  have hpn : putN (p.length : Int) = Lib.itoa (p.length : Int) ++ [58] := by unfold putN; rw [if_neg (by omega)]
  have hl := itoa_len19 (p.length : Int) (by omega) (by omega)
  have hlen := frameB_len p
  unfold putT at hlen
  rw [List.length_append, hpn, List.length_append, List.length_singleton] at hlen
  rw [hpn, List.length_append, List.length_singleton] at hh
  have hcnt := line_count p
  have hlast := frame_last p
  generalize Lib.itoa (p.length : Int) = I at *
  generalize frameB p = F at *
  have HX := Lib.hid (show (⟨F.toArray⟩ : ByteArray).extract 0 (I.length + 1 + p.length) = ⟨(I ++ [58] ++ p).toArray⟩ by rw [extract_mk, Nat.sub_zero, List.drop_zero, hh])
  have HCNT := Lib.hid hcnt
  have HLAST := Lib.hid hlast
  have HLEN := Lib.hid hlen
  have hFl : F.length = I.length + 1 + p.length + 9 := by omega
  have HFL := Lib.hid hFl
  clear hh hpn hcnt hlast hlen hFl
  have hc1 : ¬ 9223372036854775807 < I.length + 1 := by omega
  have hc2 : ¬ 9223372036854775807 < I.length + 1 + p.length := by omega
  have hF1 : F.length ≤ 20000 := by have := HFL.out; omega
  have hF0 : 0 < F.length := by have := HFL.out; omega
  have hFp : p.length < F.length := by have := HFL.out; omega
  have hxs : (⟨I.toArray⟩ : ByteArray) ++ ⟨#[58]⟩ = ⟨(I ++ [58]).toArray⟩ := mk_append I [58]
  have HXS := Lib.hid hxs; clear hxs
  go_enter Tryd.func7, Tryd.ntmps7
  go_wp2_with fail
  refine (HF.out _ HE.out).mono ?_
  rintro e w1 ⟨rfl, hb⟩
  have HB1 := Lib.hid hb; clear hb
  go_wp2_with fail
  refine (HI.out _ (tabOf (HE.out.later HB1.out))).mono ?_
  rintro e w2 ⟨rfl, hb⟩
  have HB2 := Lib.hid (step2 HB1.out hb); clear hb
  have hq1 : ((F.length : Int) == (I.length : Int) + 1 + (p.length : Int) + 9) = true := by rw [HFL.out]; simp
  have hq2 : ((F.length : Int) != (I.length : Int) + 1 + (p.length : Int) + 9) = false := by rw [HFL.out]; simp
  have hx := HX.out
  have hself : (I ++ [58] ++ p != I ++ [58] ++ p) = false := by simp
  have hle1 : (I.length : Int) + 1 + (p.length : Int) ≤ (F.length : Int) := by have := HFL.out; omega
  have hex1 : (⟨I.toArray⟩ : ByteArray) ++ ⟨#[58]⟩ ++ ⟨p.toArray⟩ = ⟨(I ++ [58] ++ p).toArray⟩ := by rw [HXS.out, mk_append]
  go_wp2_with fail
  clear hq1 hq2 hx hself hle1 hex1 hc1 hc2
  go_loop [6, 7, 8] (fun nv av iv => ∃ k a i : Nat, iv = .int .i64 (k : Int) ∧ k ≤ F.length ∧ av = .int .i64 (a : Int) ∧ nv = .int .i64 (i : Int) ∧ a ≤ k ∧ i ≤ k ∧ Hid (LineAt F p k a i)) (fun _ _ iv => F.length - (intOf iv).toNat)
  case atStart => exact ⟨0, 0, 0, rfl, by omega, rfl, rfl, by omega, by omega, Lib.hid ⟨rfl, rfl⟩⟩
  case round =>
    obtain ⟨k, a, i, rfl, hk, rfl, rfl, hak, hik, HL⟩ := hrel
    by_cases hlt : k < F.length
    · obtain ⟨c, hkc⟩ : ∃ c, F[k]? = some c := ⟨_, List.getElem?_eq_getElem hlt⟩
      have hby := byte_at hkc
      have HS := Lib.hid (count10_snoc hkc)
      have hlti : (k : Int) < (F.length : Int) := by omega
      by_cases hkp : k < p.length
      · obtain ⟨d, hkd⟩ : ∃ d, p[k]? = some d := ⟨_, List.getElem?_eq_getElem hkp⟩
        have hbd := byte_at hkd
        have HSD := Lib.hid (count10_snoc hkd)
        have hkpi : (k : Int) < (p.length : Int) := by omega
        clear hkc hkd
        by_cases hc : c = 10 <;> by_cases hd : d = 10
        · have hq := byte_is hc
          have hqd := byte_is hd
          have HN := Lib.hid (show LineAt F p (k + 1) (a + 1) (i + 1) from ⟨by rw [HS.out, if_pos hc, HL.out.a], by rw [HSD.out, if_pos hd, HL.out.i]⟩)
          clear hc hd
          go_wp2_with fail
          go_round
          case rel => exact ⟨k + 1, a + 1, i + 1, by go_num, by omega, by go_num, by go_num, by omega, by omega, HN⟩
          case measure => simp [intOf]; omega
        · have hq := byte_is hc
          have hqd := byte_not hd
          have HN := Lib.hid (show LineAt F p (k + 1) (a + 1) i from ⟨by rw [HS.out, if_pos hc, HL.out.a], by rw [HSD.out, if_neg hd, HL.out.i, Nat.add_zero]⟩)
          clear hc hd
          go_wp2_with fail
          go_round
          case rel => exact ⟨k + 1, a + 1, i, by go_num, by omega, by go_num, by go_num, by omega, by omega, HN⟩
          case measure => simp [intOf]; omega
        · have hq := byte_not hc
          have hqd := byte_is hd
          have HN := Lib.hid (show LineAt F p (k + 1) a (i + 1) from ⟨by rw [HS.out, if_neg hc, HL.out.a, Nat.add_zero], by rw [HSD.out, if_pos hd, HL.out.i]⟩)
          clear hc hd
          go_wp2_with fail
          go_round
          case rel => exact ⟨k + 1, a, i + 1, by go_num, by omega, by go_num, by go_num, by omega, by omega, HN⟩
          case measure => simp [intOf]; omega
        · have hq := byte_not hc
          have hqd := byte_not hd
          have HN := Lib.hid (show LineAt F p (k + 1) a i from ⟨by rw [HS.out, if_neg hc, HL.out.a, Nat.add_zero], by rw [HSD.out, if_neg hd, HL.out.i, Nat.add_zero]⟩)
          clear hc hd
          go_wp2_with fail
          go_round
          case rel => exact ⟨k + 1, a, i, by go_num, by omega, by go_num, by go_num, by omega, by omega, HN⟩
          case measure => simp [intOf]; omega
      · have HT := Lib.hid (show p.take (k + 1) = p.take k by rw [List.take_of_length_le (by omega), List.take_of_length_le (by omega)])
        have hkpi : decide ((k : Int) < (p.length : Int)) = false := by simp; omega
        clear hkc
        by_cases hc : c = 10
        · have hq := byte_is hc
          have HN := Lib.hid (show LineAt F p (k + 1) (a + 1) i from ⟨by rw [HS.out, if_pos hc, HL.out.a], by rw [HT.out, HL.out.i]⟩)
          clear hc
          go_wp2_with fail
          go_round
          case rel => exact ⟨k + 1, a + 1, i, by go_num, by omega, by go_num, by go_num, by omega, by omega, HN⟩
          case measure => simp [intOf]; omega
        · have hq := byte_not hc
          have HN := Lib.hid (show LineAt F p (k + 1) a i from ⟨by rw [HS.out, if_neg hc, HL.out.a, Nat.add_zero], by rw [HT.out, HL.out.i]⟩)
          clear hc
          go_wp2_with fail
          go_round
          case rel => exact ⟨k + 1, a, i, by go_num, by omega, by go_num, by go_num, by omega, by omega, HN⟩
          case measure => simp [intOf]; omega
    · have hkl : k = F.length := by omega
      subst hkl
      have hai : a = i + 1 := by
        have h1 := HL.out.a
        have h2 := HL.out.i
        rw [List.take_length] at h1
        rw [List.take_of_length_le (by omega)] at h2
        rw [h1, h2, HCNT.out]
      subst hai
      obtain ⟨m, hm⟩ : ∃ m, F.length = m + 1 := ⟨F.length - 1, by omega⟩
      have hls := HLAST.out
      rw [hm, Nat.add_sub_cancel] at hls
      have hby := byte_at hls
      have HM := Lib.hid hm
      have hm1 : ((F.length : Int) - 1).toNat = m := by omega
      have hm2 : (0 : Int) ≤ (F.length : Int) - 1 := by omega
      have hm3 : F.length - 1 = m := by omega
      have hq10 : (((10 : UInt8).toNat : Int) == 10) = true := rfl
      clear hm hls
      go_wp2_with fail
      refine (stands_any _ (HE.out.later HB2.out)).mono ?_
      rintro e w3 ⟨rfl, hb⟩
      have HB3 := Lib.hid (step2 HB2.out hb); clear hb
      go_wp2_with fail
      go_returns
      exact ⟨rfl, HB3.out⟩
end Go.Proofs.YtagemjjhiddpgaaDoor
