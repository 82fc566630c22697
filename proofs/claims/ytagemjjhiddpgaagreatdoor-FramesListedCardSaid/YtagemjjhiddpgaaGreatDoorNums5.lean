/- The walks of the reference's number texts. -/
import Derived.Test.YtagemjjhiddpgaaGreatDoorNumsT
import Derived.Test.YtagemjjhiddpgaaGreatDoorConv
namespace Go.Proofs.YtagemjjhiddpgaaGreatDoor
open Go Go.Proofs Go.RowKit Go.Ink

/-- What is left of a number's digits in front of those that are written. -/
def decTo (m : Nat) (l : List UInt8) : List UInt8 := if m = 0 then l else Lib.decDigits m ++ l
theorem decTo_start (n : Nat) : decTo (n / 10) [UInt8.ofNat (48 + n % 10)] = Lib.decDigits n := by
  unfold decTo
  by_cases h : n < 10
  · have e : Lib.decDigits n = [UInt8.ofNat (48 + n)] := by rw [Lib.decDigits, dif_pos h]
    rw [if_pos (by omega), Nat.mod_eq_of_lt h, e]
  · have e : Lib.decDigits n = Lib.decDigits (n / 10) ++ [UInt8.ofNat (48 + n % 10)] := by rw [Lib.decDigits, dif_neg h]
    rw [if_neg (by omega), e]
theorem decTo_step (m : Nat) (l : List UInt8) (h : 0 < m) : decTo (m / 10) (UInt8.ofNat (48 + m % 10) :: l) = decTo m l := by
  have := decTo_start m
  unfold decTo at *
  rw [if_neg (show ¬ m = 0 by omega), ← this]
  split <;> simp

theorem decTo_len {m : Nat} {l D : List UInt8} (h : decTo m l = D) : l.length ≤ D.length ∧ (0 < m → l.length < D.length) := by
  subst h
  unfold decTo
  split
  · exact ⟨Nat.le_refl _, fun h => by omega⟩
  · have := List.length_pos_iff.2 (dec_ne m)
    rw [List.length_append]
    exact ⟨by omega, fun _ => by omega⟩
theorem conv_one (w : World) (x : Int) (h0 : 0 ≤ x) (h1 : x < 10) :
    (Go.convert 47 9 (.slice (some ⟨w.heap.size, 0, none⟩) 1 1)).run Tryz.prog (w.alloc (.cells #[.int .u8 (48 + x)] 5)) =
      .ok (.string ⟨[UInt8.ofNat (48 + x.toNat)].toArray⟩) (w.alloc (.cells #[.int .u8 (48 + x)] 5)) := by
  have e : ((UInt8.ofNat (48 + x.toNat)).toNat : Int) = 48 + x := by rw [dig_toNat _ (by omega)]; omega
  rw [← e]
  refine SlOf.convert (l := [UInt8.ofNat (48 + x.toNat)]) (w := w.alloc (.cells #[.int .u8 ((UInt8.ofNat (48 + x.toNat)).toNat : Int)] 5)) ⟨by simp, by unfold maxLen; omega, by simp, fun k c hk => ⟨w.heap.size, 0, .int .u8 ((UInt8.ofNat (48 + x.toNat)).toNat : Int), rfl, ?_, ?_⟩⟩ Tryz.underlying47 Tryz.underlying5 Tryz.underlying9 (Below.refl _ _)
  · have hk0 : k = 0 := by have := (List.getElem?_eq_some_iff.1 hk).1; simp at this; exact this
    subst hk0
    rw [Lib.cell_of_heap (cs := #[.int .u8 ((UInt8.ofNat (48 + x.toNat)).toNat : Int)]) (T := 5) (fr := (0, 0)) (by show (w.heap.push _)[w.heap.size]? = _; rw [Array.getElem?_push, if_pos rfl])]
    rfl
  · have hk0 : k = 0 := by have := (List.getElem?_eq_some_iff.1 hk).1; simp at this; exact this
    subst hk0
    simp only [List.getElem?_cons_zero, Option.some.injEq] at hk
    subst hk
    rfl

set_option maxRecDepth 100000 in
set_option maxHeartbeats 1000000 in
theorem refPut_nat (n : Nat) (w : World) (h2 : (n : Int) ≤ 9223372036854775807) :
    Calls Tryz.prog 23 #[.int .i64 n] w fun e w' => e = .returned (.string ⟨(putN n).toArray⟩) ∧ Below w.heap.size w w' := by
  have hr : putN n = Lib.decDigits n ++ [58] := by unfold putN; rw [if_neg (by omega), itoa_dec _ (by omega)]; simp
  have hlen := putN_le (n : Int) h2
  have HS := Lib.hid (decTo_start n)
  rw [hr, List.length_append, List.length_singleton] at hlen
  have HR := Lib.hid hr; clear hr
  have hcv := fun w : World => conv_one w ((n : Int) % 10) (by omega) (by omega)
  have hm10 : ((n : Int) % 10).toNat = n % 10 := by omega
  rw [hm10] at hcv
  have hd : n / 10 ≤ n := Nat.div_le_self _ _
  clear hm10
  generalize UInt8.ofNat (48 + n % 10) = c0 at *
  generalize Lib.decDigits n = D at *
  go_enter Tryz.func23, Tryz.ntmps23
  go_wp2_with fail
  go_loopw [0, 3] (fun nv sv wr => ∃ (m : Nat) (l : List UInt8), nv = .int .i64 m ∧ m ≤ n ∧ sv = .string ⟨l.toArray⟩ ∧ Hid (decTo m l = D) ∧ Hid (Below w.heap.size w wr)) (fun nv _ _ => (intOf nv).toNat)
  case atStart => exact ⟨n / 10, [c0], by simp, hd, rfl, HS, Lib.hid ((Below.refl _ _).alloc (Nat.le_refl _) _)⟩
  case round =>
    obtain ⟨m, l, rfl, hm, rfl, HD, HB⟩ := hrel
    have hl := decTo_len HD.out
    clear hcv hd
    by_cases h0 : 0 < m
    · have hl2 := hl.2 h0
      have HN := Lib.hid (decTo_step m l h0)
      have hcv := fun w : World => conv_one w ((m : Int) % 10) (by omega) (by omega)
      have hm10 : ((m : Int) % 10).toNat = m % 10 := by omega
      rw [hm10] at hcv
      clear hm10 hl
      have hlt : m / 10 < m := by omega
      have hmm : (m / 10 : Nat) ≤ n := by omega
      have hlc : 1 + l.length ≤ 20 := by omega
      generalize UInt8.ofNat (48 + m % 10) = c1 at *
      go_wp2_with fail
      go_roundw
      case rel => exact ⟨m / 10, c1 :: l, by simp, hmm, by apply congrArg Value.string; apply ByteArray.ext; simp, Lib.hid (by rw [HN.out, HD.out]), Lib.hid (HB.out.alloc HB.out.size _)⟩
      case measure => simp [intOf]; omega
    · have hm0 : m = 0 := by omega
      subst hm0
      have hlD : l = D := by have := HD.out; unfold decTo at this; rw [if_pos rfl] at this; exact this
      subst hlD
      have hlc : l.length + 1 ≤ 30 := by omega
      go_wp2_with fail
      go_returns
      exact ⟨by rw [HR.out]; apply congrArg Ending.returned; apply congrArg Value.string; apply ByteArray.ext; simp, HB.out⟩

theorem refPut_any (n : Int) (w : World) (h1 : -9223372036854775808 ≤ n) (h2 : n ≤ 9223372036854775807) :
    Calls Tryz.prog 23 #[.int .i64 n] w fun e w' => e = .returned (.string ⟨(putN n).toArray⟩) ∧ Below w.heap.size w w' := by
  by_cases h : n < 0
  · have HF := Lib.hid (show putN n = [] by unfold putN; rw [if_pos h])
    go_enter Tryz.func23, Tryz.ntmps23
    go_wp2_with fail
    go_returns
    exact ⟨by rw [HF.out]; rfl, Below.refl _ _⟩
  · obtain ⟨k, rfl⟩ := Int.eq_ofNat_of_zero_le (show 0 ≤ n by omega)
    exact refPut_nat k w h2
end Go.Proofs.YtagemjjhiddpgaaGreatDoor
