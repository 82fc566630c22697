/- The walks of lines.Check and the reference's Check, of lists whose texts are short enough for the library's model. -/
import Derived.Test.YtgcncmhaihgldaaGreatDoorFind
import Derived.Test.YtgcncmhaihgldaaGreatDoorShelf
import Derived.Test.YtgcncmhaihgldaaGreatDoorSpl1
import Derived.Lib.IndexBytes
import Derived.Lib.IndexAny
import Derived.WalkSmall
import Derived.Deep.QuietTactic
import Derived.BigQuiet
namespace Go.Proofs.YtgcncmhaihgldaaGreatDoor
open Go Go.Proofs Go.RowKit Go.Ink

def endB (t : List UInt8) : Bool := t.contains 10
def greatB (t : List UInt8) : Bool := decide (1000 < t.length)

theorem contains_end (t : List UInt8) : decide (0 ≤ Lib.indexByte t 10) = endB t := by
  unfold endB
  rw [Lib.contains_iff_indexByte]

theorem ended_any (t : List UInt8) (w : World) :
    Calls Tryz.prog 39 #[.string ⟨t.toArray⟩] w fun e w' => e = .returned (.bool (endB t)) ∧ w' = w := by
  have HC := Lib.hid (contains_end t)
  go_enter Tryz.func39, Tryz.ntmps39
  go_wp2_with fail
  refine (Tryz.strings_Contains_one ⟨t.toArray⟩ 10 _).mono ?_
  rintro e w1 ⟨rfl, rfl⟩
  go_wp2_with fail
  go_ret
  exact ⟨by rw [← HC.out]; rfl, rfl⟩
theorem long_any (t : List UInt8) (w : World) :
    Calls Tryz.prog 41 #[.string ⟨t.toArray⟩] w fun e w' => e = .returned (.bool (greatB t)) ∧ w' = w := by
  have hg : greatB t = decide ((1000 : Int) < (t.length : Int)) := by unfold greatB; rw [decide_eq_decide]; omega
  have HG := Lib.hid hg; clear hg
  go_enter Tryz.func41, Tryz.ntmps41
  go_wp2_with fail
  go_ret
  exact ⟨by rw [HG.out]; rfl, rfl⟩

set_option maxHeartbeats 1000000 in
theorem indexEnded_any (ao : Option Addr) (cap : Nat) (l : List (List UInt8)) (w : World) (hs : SlOf IsStr w ao cap l) :
    Calls Tryz.prog 54 #[.slice ao l.length cap, .func (.func 39) #[] #[]] w fun e w' => e = .returned (.int .i64 (idxI (l.findIdx? endB))) ∧ w' = w := by
  obtain ⟨h1, h2, h3, h4⟩ := hs
  unfold maxLen at h2
  have HS := Lib.hid h4; clear h4 h3
  generalize hr : idxI (l.findIdx? endB) = r
  have HR := Lib.hid hr; clear hr
  go_enter Tryz.func54, Tryz.ntmps54
  go_wp2_with fail
  go_loop [8] (fun i => ∃ k : Nat, i = .int .i64 k ∧ k ≤ l.length ∧ Hno endB l k) (fun i => l.length - (intOf i).toNat)
  case atStart => exact ⟨0, rfl, by omega, fun j y hj => by omega⟩
  case round =>
    obtain ⟨k, rfl, hk, hno⟩ := hrel
    by_cases hlt : k < l.length
    · obtain ⟨c, hkc⟩ : ∃ c, l[k]? = some c := ⟨_, List.getElem?_eq_getElem hlt⟩
      obtain ⟨b, off, u, rfl, hcell, hu⟩ := HS.out k c hkc
      have hu' : u = .string ⟨c.toArray⟩ := hu
      subst hu'
      have HK := Lib.hid hkc; clear hkc hu
      cases hb : endB c
      · have HB := Lib.hid hb; clear hb
        go_wp2_with fail
        refine (ended_any c _).mono ?_
        rintro e w1 ⟨rfl, rfl⟩
        rw [HB.out]
        go_wp2_with fail
        go_round
        case rel => exact ⟨k + 1, by go_num, by omega, hno.next HK.out HB.out⟩
        case measure => simp [intOf]; omega
      · have HB := Lib.hid hb; clear hb
        go_wp2_with fail
        refine (ended_any c _).mono ?_
        rintro e w1 ⟨rfl, rfl⟩
        rw [HB.out]
        go_wp2_with fail
        go_ret
        rw [← HR.out, findIdx_at HK.out HB.out hno]
        exact ⟨rfl, rfl⟩
    · go_wp2_with fail
      go_ret
      rw [← HR.out, findIdx_no (by omega) hno]
      exact ⟨rfl, rfl⟩
theorem containsEnded_any (ao : Option Addr) (cap : Nat) (l : List (List UInt8)) (w : World) (hs : SlOf IsStr w ao cap l) :
    Calls Tryz.prog 42 #[.slice ao l.length cap, .func (.func 39) #[] #[]] w fun e w' => e = .returned (.bool (l.any endB)) ∧ w' = w := by
  have HI := Lib.hid (idxI_any endB l)
  have HS := Lib.hid hs; clear hs
  go_enter Tryz.func42, Tryz.ntmps42
  go_wp2_with fail
  refine (indexEnded_any _ _ _ _ HS.out ).mono ?_
  rintro e w1 ⟨rfl, rfl⟩
  go_wp2_with fail
  go_ret
  rw [← HI.out]
  exact ⟨rfl, rfl⟩

set_option maxHeartbeats 1000000 in
theorem indexLong_any (ao : Option Addr) (cap : Nat) (l : List (List UInt8)) (w : World) (hs : SlOf IsStr w ao cap l) :
    Calls Tryz.prog 54 #[.slice ao l.length cap, .func (.func 41) #[] #[]] w fun e w' => e = .returned (.int .i64 (idxI (l.findIdx? greatB))) ∧ w' = w := by
  obtain ⟨h1, h2, h3, h4⟩ := hs
  unfold maxLen at h2
  have HS := Lib.hid h4; clear h4 h3
  generalize hr : idxI (l.findIdx? greatB) = r
  have HR := Lib.hid hr; clear hr
  go_enter Tryz.func54, Tryz.ntmps54
  go_wp2_with fail
  go_loop [8] (fun i => ∃ k : Nat, i = .int .i64 k ∧ k ≤ l.length ∧ Hno greatB l k) (fun i => l.length - (intOf i).toNat)
  case atStart => exact ⟨0, rfl, by omega, fun j y hj => by omega⟩
  case round =>
    obtain ⟨k, rfl, hk, hno⟩ := hrel
    by_cases hlt : k < l.length
    · obtain ⟨c, hkc⟩ : ∃ c, l[k]? = some c := ⟨_, List.getElem?_eq_getElem hlt⟩
      obtain ⟨b, off, u, rfl, hcell, hu⟩ := HS.out k c hkc
      have hu' : u = .string ⟨c.toArray⟩ := hu
      subst hu'
      have HK := Lib.hid hkc; clear hkc hu
      cases hb : greatB c
      · have HB := Lib.hid hb; clear hb
        go_wp2_with fail
        refine (long_any c _).mono ?_
        rintro e w1 ⟨rfl, rfl⟩
        rw [HB.out]
        go_wp2_with fail
        go_round
        case rel => exact ⟨k + 1, by go_num, by omega, hno.next HK.out HB.out⟩
        case measure => simp [intOf]; omega
      · have HB := Lib.hid hb; clear hb
        go_wp2_with fail
        refine (long_any c _).mono ?_
        rintro e w1 ⟨rfl, rfl⟩
        rw [HB.out]
        go_wp2_with fail
        go_ret
        rw [← HR.out, findIdx_at HK.out HB.out hno]
        exact ⟨rfl, rfl⟩
    · go_wp2_with fail
      go_ret
      rw [← HR.out, findIdx_no (by omega) hno]
      exact ⟨rfl, rfl⟩
theorem containsLong_any (ao : Option Addr) (cap : Nat) (l : List (List UInt8)) (w : World) (hs : SlOf IsStr w ao cap l) :
    Calls Tryz.prog 42 #[.slice ao l.length cap, .func (.func 41) #[] #[]] w fun e w' => e = .returned (.bool (l.any greatB)) ∧ w' = w := by
  have HI := Lib.hid (idxI_any greatB l)
  have HS := Lib.hid hs; clear hs
  go_enter Tryz.func42, Tryz.ntmps42
  go_wp2_with fail
  refine (indexLong_any _ _ _ _ HS.out ).mono ?_
  rintro e w1 ⟨rfl, rfl⟩
  go_wp2_with fail
  go_ret
  rw [← HI.out]
  exact ⟨rfl, rfl⟩

theorem checkL_eq (l : List (List UInt8)) : checkL l = if l.any endB = true then 2 else if 2000 < l.length then 3 else if l.any greatB = true then 3 else 0 := by
  unfold checkL endB greatB
  split
  · rfl
  · split
    · rename_i h
      split
      · rfl
      · rename_i h2; rw [if_pos (h.resolve_left h2)]
    · rename_i h
      rw [not_or] at h
      rw [if_neg h.1, if_neg h.2]

set_option maxHeartbeats 1000000 in
theorem check_any (ao : Option Addr) (cap : Nat) (l : List (List UInt8)) (w : World) (hs : SlOf IsStr w ao cap l) :
    Calls Tryz.prog 25 #[.slice ao l.length cap] w fun e w' => e = .returned (.int .i64 (checkL l)) ∧ w' = w := by
  have hc : l.length ≤ 9223372036854775807 := Nat.le_trans hs.1 hs.2.1
  have HC := Lib.hid (checkL_eq l)
  have HS := Lib.hid hs; clear hs
  cases he : l.any endB with
  | true =>
    have HE := Lib.hid he; clear he
    go_enter Tryz.func25, Tryz.ntmps25
    go_wp2_with fail
    refine (containsEnded_any _ _ _ _ HS.out ).mono ?_
    rintro e w1 ⟨rfl, rfl⟩
    rw [HE.out]
    go_wp2_with fail
    go_ret
    exact ⟨by rw [HC.out, HE.out]; rfl, rfl⟩
  | false =>
    have HE := Lib.hid he; clear he
    by_cases hl : 2000 < l.length
    · have HV := Lib.hid (show checkL l = 3 by rw [HC.out, HE.out, if_neg (by simp), if_pos hl])
      go_enter Tryz.func25, Tryz.ntmps25
      go_wp2_with fail
      refine (containsEnded_any _ _ _ _ HS.out ).mono ?_
      rintro e w1 ⟨rfl, rfl⟩
      rw [HE.out]
      go_wp2_with fail
      go_ret
      exact ⟨by rw [HV.out]; rfl, rfl⟩
    · cases hg : l.any greatB
      all_goals
        have HG := Lib.hid hg; clear hg
        have HV := Lib.hid (HC.out); rw [HE.out, if_neg (by simp), if_neg hl, HG.out] at HV
        go_enter Tryz.func25, Tryz.ntmps25
        go_wp2_with fail
        refine (containsEnded_any _ _ _ _ HS.out ).mono ?_
        rintro e w1 ⟨rfl, rfl⟩
        rw [HE.out]
        go_wp2_with fail
        refine (containsLong_any _ _ _ _ HS.out ).mono ?_
        rintro e w1 ⟨rfl, rfl⟩
        rw [HG.out]
        go_wp2_with fail
        go_ret
        exact ⟨by rw [HV.out]; rfl, rfl⟩

/-! ### The reference's -/

theorem whole_any (t : List UInt8) (w : World) (hl : t.length ≤ 9223372036854775807) :
    Calls Tryz.prog 45 #[.string ⟨t.toArray⟩] w fun e w' => e = .returned (.bool (!endB t)) ∧ w' = w := by
  go_enter Tryz.func45, Tryz.ntmps45
  go_wp2_with fail
  go_loop [3] (fun i => ∃ k : Nat, i = .int .i64 k ∧ k ≤ t.length ∧ Hid (∀ j, j < k → t[j]? ≠ some 10)) (fun i => t.length - (intOf i).toNat)
  case atStart => exact ⟨0, rfl, by omega, Lib.hid (fun j hj => by omega)⟩
  case round =>
    obtain ⟨k, rfl, hk, hno⟩ := hrel
    by_cases hlt : k < t.length
    · obtain ⟨c, hc⟩ : ∃ c, t[k]? = some c := ⟨_, List.getElem?_eq_getElem hlt⟩
      have hby : ∀ h, (⟨t.toArray⟩ : ByteArray)[k]'h = c := fun _ => by
        obtain ⟨hx, rfl⟩ := List.getElem?_eq_some_iff.1 hc
        rfl
      have HC := Lib.hid hc; clear hc
      by_cases h10 : c = 10
      · have hq : ((c.toNat : Int) == 10) = true := by rw [h10]; rfl
        have HF := Lib.hid (show endB t = true by unfold endB; rw [List.contains_iff_mem, ← h10]; exact List.mem_of_getElem? HC.out)
        clear h10
        go_wp2_with fail
        go_ret
        exact ⟨by rw [HF.out]; rfl, rfl⟩
      · have hq : ((c.toNat : Int) == 10) = false := by
          rw [beq_eq_false_iff_ne]; intro e; exact h10 (UInt8.toNat_inj.1 (by show c.toNat = 10; omega))
        have HN := Lib.hid (show ∀ j, j < k + 1 → t[j]? ≠ some 10 from fun j hj => by
          by_cases e : j = k
          · subst e; rw [HC.out]; simpa using h10
          · exact hno.out j (by omega))
        clear h10
        go_wp2_with fail
        go_round
        case rel => exact ⟨k + 1, by go_num, by omega, HN⟩
        case measure => simp [intOf]; omega
    · have HF := Lib.hid (show endB t = false by
        unfold endB
        cases h : t.contains 10 with
        | false => rfl
        | true =>
          rw [List.contains_iff_mem] at h
          obtain ⟨i, hi⟩ := List.getElem?_of_mem h
          exact absurd hi (hno.out i (by have := (List.getElem?_eq_some_iff.1 hi).1; omega)))
      go_wp2_with fail
      go_ret
      exact ⟨by rw [HF.out]; rfl, rfl⟩

/-- Is a list too long, or has one of the first k texts too many bytes? -/
def longTo (l : List (List UInt8)) (k : Nat) : Bool := decide (2000 < l.length) || (l.take k).any greatB
theorem longTo_next {l : List (List UInt8)} {k : Nat} {t : List UInt8} (h : l[k]? = some t) : longTo l (k + 1) = (longTo l k || greatB t) := by
  obtain ⟨hk, rfl⟩ := List.getElem?_eq_some_iff.1 h
  unfold longTo
  rw [List.take_succ_eq_append_getElem hk, List.any_append]
  simp [Bool.or_assoc]
theorem longTo_all (l : List (List UInt8)) (he : l.any endB = false) : checkL l = if longTo l l.length = true then 3 else 0 := by
  rw [checkL_eq, he, if_neg (by simp)]
  unfold longTo
  rw [List.take_length]
  by_cases h : 2000 < l.length
  · simp [h]
  · simp [h]

set_option maxHeartbeats 1000000 in
theorem refCheck_any (ao : Option Addr) (cap : Nat) (l : List (List UInt8)) (w : World) (hs : SlOf IsStr w ao cap l) (hsh : ∀ t ∈ l, t.length ≤ 9223372036854775807) :
    Calls Tryz.prog 30 #[.slice ao l.length cap] w fun e w' => e = .returned (.int .i64 (checkL l)) ∧ w' = w := by
  have hc : l.length ≤ 9223372036854775807 := Nat.le_trans hs.1 hs.2.1
  have HS := Lib.hid hs; clear hs
  have HSH := Lib.hid hsh; clear hsh
  have h0 : longTo l 0 = decide ((2000 : Int) < (l.length : Int)) := by
    unfold longTo; rw [List.take_zero, List.any_nil, Bool.or_false, decide_eq_decide]; omega
  have H0 := Lib.hid h0; clear h0
  go_enter Tryz.func30, Tryz.ntmps30
  go_wp2_with fail
  go_loop [3, 4] (fun lv i => ∃ (k : Nat) (b : Bool), lv = .bool b ∧ i = .int .i64 k ∧ k ≤ l.length ∧ Hid (b = longTo l k) ∧ Hno endB l k) (fun _ i => l.length - (intOf i).toNat)
  case atStart => exact ⟨0, _, rfl, rfl, by omega, Lib.hid H0.out.symm, fun j y hj => by omega⟩
  case round =>
    obtain ⟨k, b, rfl, rfl, hk, hb, hno⟩ := hrel
    by_cases hlt : k < l.length
    · obtain ⟨t, hkt⟩ : ∃ t, l[k]? = some t := ⟨_, List.getElem?_eq_getElem hlt⟩
      obtain ⟨g, off, u, hao, hcell, hu⟩ := HS.out.2.2.2 k t hkt
      subst hao
      have hu' : u = .string ⟨t.toArray⟩ := hu
      subst hu'
      have HT := Lib.hid (HSH.out t (List.mem_of_getElem? hkt))
      have HN := Lib.hid (longTo_next hkt)
      have HK := Lib.hid hkt; clear hkt hu
      cases he : endB t
      · have HE := Lib.hid he; clear he
        by_cases hg : 1000 < t.length
        · have HG := Lib.hid (show greatB t = true by unfold greatB; simpa using hg)
          have hdg : decide ((1000 : Int) < (t.length : Int)) = true := by rw [decide_eq_true_iff]; omega
          cases b
          all_goals
            go_wp2_with fail
            refine (whole_any t _ HT.out).mono ?_
            rintro e w1 ⟨rfl, rfl⟩
            rw [HE.out]
            go_wp2_with fail
            go_round
            case rel => exact ⟨k + 1, true, rfl, by go_num, by omega, Lib.hid (by rw [HN.out, ← hb.out, HG.out]; rfl), hno.next HK.out HE.out⟩
            case measure => simp [intOf]; omega
        · have HG := Lib.hid (show greatB t = false by unfold greatB; simpa using hg)
          have hdg : decide ((1000 : Int) < (t.length : Int)) = false := by rw [decide_eq_false_iff_not]; omega
          cases b
          · go_wp2_with fail
            refine (whole_any t _ HT.out).mono ?_
            rintro e w1 ⟨rfl, rfl⟩
            rw [HE.out]
            go_wp2_with fail
            go_round
            case rel => exact ⟨k + 1, false, rfl, by go_num, by omega, Lib.hid (by rw [HN.out, ← hb.out, HG.out]; rfl), hno.next HK.out HE.out⟩
            case measure => simp [intOf]; omega
          · go_wp2_with fail
            refine (whole_any t _ HT.out).mono ?_
            rintro e w1 ⟨rfl, rfl⟩
            rw [HE.out]
            go_wp2_with fail
            go_round
            case rel => exact ⟨k + 1, true, rfl, by go_num, by omega, Lib.hid (by rw [HN.out, ← hb.out]; rfl), hno.next HK.out HE.out⟩
            case measure => simp [intOf]; omega
      · have HE := Lib.hid he; clear he
        have HF := Lib.hid (show checkL l = 2 by
          rw [checkL_eq, if_pos]
          rw [List.any_eq_true]; exact ⟨t, List.mem_of_getElem? HK.out, HE.out⟩)
        go_wp2_with fail
        refine (whole_any t _ HT.out).mono ?_
        rintro e w1 ⟨rfl, rfl⟩
        rw [HE.out]
        go_wp2_with fail
        go_ret
        exact ⟨by rw [HF.out]; rfl, rfl⟩
    · have hkl : k = l.length := by omega
      subst hkl
      have HA := Lib.hid (longTo_all l (by
        rw [List.any_eq_false]
        intro x hx
        obtain ⟨i, hi⟩ := List.getElem?_of_mem hx
        have := hno i x (by have := (List.getElem?_eq_some_iff.1 hi).1; omega) hi
        simpa using this))
      cases b
      · have HV := Lib.hid (show checkL l = 0 by rw [HA.out, ← hb.out]; rfl)
        go_wp2_with fail
        go_ret
        exact ⟨by rw [HV.out]; rfl, rfl⟩
      · have HV := Lib.hid (show checkL l = 3 by rw [HA.out, ← hb.out]; rfl)
        go_wp2_with fail
        go_ret
        exact ⟨by rw [HV.out]; rfl, rfl⟩
end Go.Proofs.YtgcncmhaihgldaaGreatDoor
