/- The walk of the reference's Get. -/
import Derived.Test.YtagemjjhiddpgaaGreatDoorNums5
namespace Go.Proofs.YtagemjjhiddpgaaGreatDoor
open Go Go.Proofs Go.RowKit Go.Ink

set_option maxHeartbeats 1000000 in
theorem refGet_in (s : List UInt8) (a : Nat) (w : World) (hs : s.length ≤ 140737488355328) (ha : a ≤ s.length) :
    Calls Tryz.prog 31 #[.string ⟨s.toArray⟩, .int .i64 a] w fun e w' => e = .returned (getV (getAt s a)) ∧ Below w.heap.size w w' := by
  rw [getAt_eq s a ha, ← refN_eq]
  have hd1 : decide ((a : Int) < 0) = false := by simp
  have hd2 : decide (s.length < a) = false := by simpa using ha
  go_enter Tryz.func31, Tryz.ntmps31
  go_wp2_with fail
  go_loop [7, 8] (fun nv iv => ∃ (k : Nat) (n : Int), nv = .int .i64 n ∧ iv = .int .i64 ((a + k : Nat) : Int) ∧ k ≤ 19 ∧ a + k ≤ s.length ∧ 0 ≤ n ∧ n ≤ 9223372036854775807 ∧ Hid (refAcc 19 0 (s.drop a) = refAcc (19 - k) n (s.drop (a + k)))) (fun _ iv => 20 + a - (intOf iv).toNat)
  case atStart => exact ⟨0, 0, rfl, by simp, by omega, by omega, by omega, by omega, Lib.hid rfl⟩
  case round =>
    obtain ⟨k, n, rfl, rfl, hk, hkl, hn0, hn1, HR⟩ := hrel
    by_cases h1 : a + k < s.length
    · obtain ⟨c, hc⟩ : ∃ c, s[a + k]? = some c := ⟨_, List.getElem?_eq_getElem h1⟩
      have hdr : s.drop (a + k) = c :: s.drop (a + k + 1) := by
        obtain ⟨hx, rfl⟩ := List.getElem?_eq_some_iff.1 hc
        rw [List.drop_eq_getElem_cons h1]
      have hby : ∀ h, (⟨s.toArray⟩ : ByteArray)[a + k]'h = c := fun _ => by
        obtain ⟨hx, rfl⟩ := List.getElem?_eq_some_iff.1 hc
        rfl
      have HDR := Lib.hid hdr
      clear hdr hc
      by_cases h2 : k < 19
      · obtain ⟨j, hj⟩ : ∃ j, 19 - k = j + 1 := ⟨18 - k, by omega⟩
        have hst : refAcc (19 - k) n (s.drop (a + k)) = if 48 ≤ c.toNat ∧ c.toNat ≤ 57 then
            if (9223372036854775807 - ((c.toNat : Int) - 48)) / 10 < n then none else refAcc j (n * 10 + ((c.toNat : Int) - 48)) (s.drop (a + k + 1)) else some n := by rw [HDR.out, hj, refAcc]
        have HSTP := Lib.hid hst; clear hst
        by_cases h3 : 48 ≤ c.toNat
        · by_cases h4 : c.toNat ≤ 57
          · by_cases h5 : (9223372036854775807 - ((c.toNat : Int) - 48)) / 10 < n
            · have HN := Lib.hid (show refN (s.drop a) = none by unfold refN; rw [HR.out, HSTP.out, if_pos ⟨h3, h4⟩, if_pos h5])
              go_wp2_with fail
              go_returns
              exact ⟨by rw [HN.out]; rfl, Below.refl _ _⟩
            · have HN := Lib.hid (show refAcc 19 0 (s.drop a) = refAcc (19 - (k + 1)) (n * 10 + ((c.toNat : Int) - 48)) (s.drop (a + (k + 1))) by
                rw [HR.out, HSTP.out, if_pos ⟨h3, h4⟩, if_neg h5, show 19 - (k + 1) = j by omega, ← Nat.add_assoc])
              clear hj
              go_wp2_with fail
              go_round
              case rel => exact ⟨k + 1, _, rfl, by go_num, by omega, by omega, by omega, by omega, HN⟩
              case measure => simp [intOf]; omega
          · clear hj
            have HST := Lib.hid (show refAcc 19 0 (s.drop a) = some n by rw [HR.out, HSTP.out, if_neg (fun h => h4 h.2)])
            clear HR
            have hA := putN_le n hn1
            have HF := Lib.hid (show refN (s.drop a) = if (s.drop a).take (putN n).length = putN n then some n else none by unfold refN; rw [HST.out])
            clear HST
            go_wp2_with fail
            refine (refPut_any n _ (by omega) (by omega)).mono ?_
            rintro e w1 ⟨rfl, hb⟩
            have HB := Lib.hid hb; clear hb
            have HAL := Lib.hid (show (putN n).length = (putN n).length from rfl)
            generalize hAe : putN n = A at *
            have HAE := Lib.hid hAe; clear hAe
            by_cases hlen : (s.length : Int) - (a : Int) < (A.length : Int)
            · have HN := Lib.hid (show refN (s.drop a) = none by rw [HF.out, if_neg]; intro e; have := congrArg List.length e; rw [List.length_take, List.length_drop] at this; omega)
              go_wp2_with fail
              go_returns
              exact ⟨by rw [HN.out]; rfl, HB.out⟩
            · have hX : (⟨s.toArray⟩ : ByteArray).extract a (a + A.length) = ⟨((s.drop a).take A.length).toArray⟩ := by rw [extract_mk, Nat.add_sub_cancel_left]
              have hle : a + A.length ≤ s.length := by omega
              generalize (s.drop a).take A.length = B at *
              by_cases hs' : B = A
              · have HN := Lib.hid (show refN (s.drop a) = some n by rw [HF.out, if_pos hs'])
                have hBA : (B == A) = true := by simpa using hs'
                clear hs'
                go_wp2_with fail
                go_returns
                refine ⟨?_, HB.out⟩
                rw [HN.out, Option.map_some, HAE.out]
                rfl
              · have HN := Lib.hid (show refN (s.drop a) = none by rw [HF.out, if_neg hs'])
                have hBA : (B == A) = false := by simpa using hs'
                clear hs'
                go_wp2_with fail
                go_returns
                exact ⟨by rw [HN.out]; rfl, HB.out⟩
        · clear hj
          have HST := Lib.hid (show refAcc 19 0 (s.drop a) = some n by rw [HR.out, HSTP.out, if_neg (fun h => h3 h.1)])
          clear HR
          have hA := putN_le n hn1
          have HF := Lib.hid (show refN (s.drop a) = if (s.drop a).take (putN n).length = putN n then some n else none by unfold refN; rw [HST.out])
          clear HST
          go_wp2_with fail
          refine (refPut_any n _ (by omega) (by omega)).mono ?_
          rintro e w1 ⟨rfl, hb⟩
          have HB := Lib.hid hb; clear hb
          have HAL := Lib.hid (show (putN n).length = (putN n).length from rfl)
          generalize hAe : putN n = A at *
          have HAE := Lib.hid hAe; clear hAe
          by_cases hlen : (s.length : Int) - (a : Int) < (A.length : Int)
          · have HN := Lib.hid (show refN (s.drop a) = none by rw [HF.out, if_neg]; intro e; have := congrArg List.length e; rw [List.length_take, List.length_drop] at this; omega)
            go_wp2_with fail
            go_returns
            exact ⟨by rw [HN.out]; rfl, HB.out⟩
          · have hX : (⟨s.toArray⟩ : ByteArray).extract a (a + A.length) = ⟨((s.drop a).take A.length).toArray⟩ := by rw [extract_mk, Nat.add_sub_cancel_left]
            have hle : a + A.length ≤ s.length := by omega
            generalize (s.drop a).take A.length = B at *
            by_cases hs' : B = A
            · have HN := Lib.hid (show refN (s.drop a) = some n by rw [HF.out, if_pos hs'])
              have hBA : (B == A) = true := by simpa using hs'
              clear hs'
              go_wp2_with fail
              go_returns
              refine ⟨?_, HB.out⟩
              rw [HN.out, Option.map_some, HAE.out]
              rfl
            · have HN := Lib.hid (show refN (s.drop a) = none by rw [HF.out, if_neg hs'])
              have hBA : (B == A) = false := by simpa using hs'
              clear hs'
              go_wp2_with fail
              go_returns
              exact ⟨by rw [HN.out]; rfl, HB.out⟩
      · have hk19 : 19 - k = 0 := by omega
        have HK := Lib.hid hk19; clear hk19
        have HST := Lib.hid (show refAcc 19 0 (s.drop a) = some n by rw [HR.out, HK.out]; rfl)
        clear HR
        have hA := putN_le n hn1
        have HF := Lib.hid (show refN (s.drop a) = if (s.drop a).take (putN n).length = putN n then some n else none by unfold refN; rw [HST.out])
        clear HST
        go_wp2_with fail
        refine (refPut_any n _ (by omega) (by omega)).mono ?_
        rintro e w1 ⟨rfl, hb⟩
        have HB := Lib.hid hb; clear hb
        have HAL := Lib.hid (show (putN n).length = (putN n).length from rfl)
        generalize hAe : putN n = A at *
        have HAE := Lib.hid hAe; clear hAe
        by_cases hlen : (s.length : Int) - (a : Int) < (A.length : Int)
        · have HN := Lib.hid (show refN (s.drop a) = none by rw [HF.out, if_neg]; intro e; have := congrArg List.length e; rw [List.length_take, List.length_drop] at this; omega)
          go_wp2_with fail
          go_returns
          exact ⟨by rw [HN.out]; rfl, HB.out⟩
        · have hX : (⟨s.toArray⟩ : ByteArray).extract a (a + A.length) = ⟨((s.drop a).take A.length).toArray⟩ := by rw [extract_mk, Nat.add_sub_cancel_left]
          have hle : a + A.length ≤ s.length := by omega
          generalize (s.drop a).take A.length = B at *
          by_cases hs' : B = A
          · have HN := Lib.hid (show refN (s.drop a) = some n by rw [HF.out, if_pos hs'])
            have hBA : (B == A) = true := by simpa using hs'
            clear hs'
            go_wp2_with fail
            go_returns
            refine ⟨?_, HB.out⟩
            rw [HN.out, Option.map_some, HAE.out]
            rfl
          · have HN := Lib.hid (show refN (s.drop a) = none by rw [HF.out, if_neg hs'])
            have hBA : (B == A) = false := by simpa using hs'
            clear hs'
            go_wp2_with fail
            go_returns
            exact ⟨by rw [HN.out]; rfl, HB.out⟩
    · have hdn : s.drop (a + k) = [] := List.drop_eq_nil_of_le (by omega)
      have HDN := Lib.hid hdn; clear hdn
      have HST := Lib.hid (show refAcc 19 0 (s.drop a) = some n by rw [HR.out, HDN.out]; cases 19 - k <;> rfl)
      clear HR
      have hA := putN_le n hn1
      have HF := Lib.hid (show refN (s.drop a) = if (s.drop a).take (putN n).length = putN n then some n else none by unfold refN; rw [HST.out])
      clear HST
      go_wp2_with fail
      refine (refPut_any n _ (by omega) (by omega)).mono ?_
      rintro e w1 ⟨rfl, hb⟩
      have HB := Lib.hid hb; clear hb
      have HAL := Lib.hid (show (putN n).length = (putN n).length from rfl)
      generalize hAe : putN n = A at *
      have HAE := Lib.hid hAe; clear hAe
      by_cases hlen : (s.length : Int) - (a : Int) < (A.length : Int)
      · have HN := Lib.hid (show refN (s.drop a) = none by rw [HF.out, if_neg]; intro e; have := congrArg List.length e; rw [List.length_take, List.length_drop] at this; omega)
        go_wp2_with fail
        go_returns
        exact ⟨by rw [HN.out]; rfl, HB.out⟩
      · have hX : (⟨s.toArray⟩ : ByteArray).extract a (a + A.length) = ⟨((s.drop a).take A.length).toArray⟩ := by rw [extract_mk, Nat.add_sub_cancel_left]
        have hle : a + A.length ≤ s.length := by omega
        generalize (s.drop a).take A.length = B at *
        by_cases hs' : B = A
        · have HN := Lib.hid (show refN (s.drop a) = some n by rw [HF.out, if_pos hs'])
          have hBA : (B == A) = true := by simpa using hs'
          clear hs'
          go_wp2_with fail
          go_returns
          refine ⟨?_, HB.out⟩
          rw [HN.out, Option.map_some, HAE.out]
          rfl
        · have HN := Lib.hid (show refN (s.drop a) = none by rw [HF.out, if_neg hs'])
          have hBA : (B == A) = false := by simpa using hs'
          clear hs'
          go_wp2_with fail
          go_returns
          exact ⟨by rw [HN.out]; rfl, HB.out⟩

theorem refGet_any (s : List UInt8) (i : Int) (w : World) (hs : s.length ≤ 140737488355328) :
    Calls Tryz.prog 31 #[.string ⟨s.toArray⟩, .int .i64 i] w fun e w' => e = .returned (getV (getAt s i)) ∧ Below w.heap.size w w' := by
  by_cases h : i < 0 ∨ (s.length : Int) < i
  · have HF := Lib.hid (show getAt s i = none by unfold getAt; rw [if_pos h])
    by_cases h1 : i < 0
    · clear h
      go_enter Tryz.func31, Tryz.ntmps31
      go_wp2_with fail
      go_returns
      exact ⟨by rw [HF.out]; rfl, Below.refl _ _⟩
    · have h2 : (s.length : Int) < i := h.resolve_left h1
      clear h
      go_enter Tryz.func31, Tryz.ntmps31
      go_wp2_with fail
      go_returns
      exact ⟨by rw [HF.out]; rfl, Below.refl _ _⟩
  · obtain ⟨k, rfl⟩ := Int.eq_ofNat_of_zero_le (show 0 ≤ i by omega)
    exact refGet_in s k w hs (by omega)
end Go.Proofs.YtagemjjhiddpgaaGreatDoor
