/- The walks of lines.Check and the reference's Check, of lists whose texts are short enough for the library's model. -/
import Derived.Test.YtlcjjcmfpmflcaaGreatDoorFind
import Derived.Test.YtlcjjcmfpmflcaaGreatDoorShelf
import Derived.Test.YtlcjjcmfpmflcaaGreatDoorSpl1
import Derived.Lib.IndexBytes
import Derived.Lib.IndexAny
import Derived.WalkSmall
import Derived.Deep.QuietTactic
import Derived.BigQuiet
set_option linter.unusedVariables false
set_option linter.unusedSimpArgs false
namespace Go.Proofs.YtlcjjcmfpmflcaaGreatDoor
open Go Go.Proofs Go.RowKit Go.Ink

def endB (t : List UInt8) : Bool := t.contains 10
def greatB (t : List UInt8) : Bool := decide (1000 < t.length)

theorem contains_end (t : List UInt8) : decide (0 ≤ Lib.indexByte t 10) = endB t := by
  unfold endB
  rw [Lib.contains_iff_indexByte]

theorem ended_any (t : List UInt8) (w : World) :
    Calls Tryz.prog 105 #[.string ⟨t.toArray⟩] w fun e w' => e = .returned (.bool (endB t)) ∧ w' = w := by
  have HC := Lib.hid (contains_end t)
  go_enter Tryz.func105, Tryz.ntmps105
  go_wp2_with fail
  refine (Tryz.strings_Contains_one ⟨t.toArray⟩ 10 _).mono ?_
  rintro e w1 ⟨rfl, rfl⟩
  go_wp2_with fail
  go_ret
  exact ⟨by rw [← HC.out]; rfl, rfl⟩
theorem long_any (t : List UInt8) (w : World) :
    Calls Tryz.prog 107 #[.string ⟨t.toArray⟩] w fun e w' => e = .returned (.bool (greatB t)) ∧ w' = w := by
  have hg : greatB t = decide ((1000 : Int) < (t.length : Int)) := by unfold greatB; rw [decide_eq_decide]; omega
  have HG := Lib.hid hg; clear hg
  go_enter Tryz.func107, Tryz.ntmps107
  go_wp2_with fail
  go_ret
  exact ⟨by rw [HG.out]; rfl, rfl⟩

set_option maxHeartbeats 1000000 in
theorem indexEnded_any (ao : Option Addr) (cap : Nat) (l : List (List UInt8)) (w : World) (hs : SlOf IsStr w ao cap l) :
    Calls Tryz.prog 144 #[.slice ao l.length cap, .func (.func 105) #[] #[]] w fun e w' => e = .returned (.int .i64 (idxI (l.findIdx? endB))) ∧ w' = w := by
  obtain ⟨h1, h2, h3, h4⟩ := hs
  unfold maxLen at h2
  have HS := Lib.hid h4; clear h4 h3
  generalize hr : idxI (l.findIdx? endB) = r
  have HR := Lib.hid hr; clear hr
  go_enter Tryz.func144, Tryz.ntmps144
  go_wp2_with fail
  go_loop [8] (fun i => ∃ k : Nat, i = .int .i64 k ∧ k ≤ l.length ∧ Hno endB l k) (fun i => l.length - (intOf i).toNat)
  case atStart => exact ⟨0, rfl, by omega, fun j y hj => by omega⟩
  case round =>
    obtain ⟨k, rfl, hk, hno⟩ := hrel
    by_cases hlt : k < l.length
    · obtain ⟨c, hkc⟩ : ∃ c, l[k]? = some c := ⟨_, List.getElem?_eq_getElem hlt⟩
      obtain ⟨b, off, u, rfl, hcell, hu⟩ := HS.out k c hkc
      have hu' : u = .string ⟨c.toArray⟩ := hu
      subst hu'
      have HK := Lib.hid hkc; clear hkc hu
      cases hb : endB c
      · have HB := Lib.hid hb; clear hb
        go_wp2_with fail
        refine (ended_any c _).mono ?_
        rintro e w1 ⟨rfl, rfl⟩
        rw [HB.out]
        go_wp2_with fail
        go_round
        case rel => exact ⟨k + 1, by go_num, by omega, hno.next HK.out HB.out⟩
        case measure => simp [intOf]; omega
      · have HB := Lib.hid hb; clear hb
        go_wp2_with fail
        refine (ended_any c _).mono ?_
        rintro e w1 ⟨rfl, rfl⟩
        rw [HB.out]
        go_wp2_with fail
        go_ret
        rw [← HR.out, findIdx_at HK.out HB.out hno]
        exact ⟨rfl, rfl⟩
    · go_wp2_with fail
      go_ret
      rw [← HR.out, findIdx_no (by omega) hno]
      exact ⟨rfl, rfl⟩
theorem containsEnded_any (ao : Option Addr) (cap : Nat) (l : List (List UInt8)) (w : World) (hs : SlOf IsStr w ao cap l) :
    Calls Tryz.prog 108 #[.slice ao l.length cap, .func (.func 105) #[] #[]] w fun e w' => e = .returned (.bool (l.any endB)) ∧ w' = w := by
  have HI := Lib.hid (idxI_any endB l)
  have HS := Lib.hid hs; clear hs
  go_enter Tryz.func108, Tryz.ntmps108
  go_wp2_with fail
  refine (indexEnded_any _ _ _ _ HS.out ).mono ?_
  rintro e w1 ⟨rfl, rfl⟩
  go_wp2_with fail
  go_ret
  rw [← HI.out]
  exact ⟨rfl, rfl⟩

set_option maxHeartbeats 1000000 in
theorem indexLong_any (ao : Option Addr) (cap : Nat) (l : List (List UInt8)) (w : World) (hs : SlOf IsStr w ao cap l) :
    Calls Tryz.prog 144 #[.slice ao l.length cap, .func (.func 107) #[] #[]] w fun e w' => e = .returned (.int .i64 (idxI (l.findIdx? greatB))) ∧ w' = w := by
  obtain ⟨h1, h2, h3, h4⟩ := hs
  unfold maxLen at h2
  have HS := Lib.hid h4; clear h4 h3
  generalize hr : idxI (l.findIdx? greatB) = r
  have HR := Lib.hid hr; clear hr
  go_enter Tryz.func144, Tryz.ntmps144
  go_wp2_with fail
  go_loop [8] (fun i => ∃ k : Nat, i = .int .i64 k ∧ k ≤ l.length ∧ Hno greatB l k) (fun i => l.length - (intOf i).toNat)
  case atStart => exact ⟨0, rfl, by omega, fun j y hj => by omega⟩
  case round =>
    obtain ⟨k, rfl, hk, hno⟩ := hrel
    by_cases hlt : k < l.length
    · obtain ⟨c, hkc⟩ : ∃ c, l[k]? = some c := ⟨_, List.getElem?_eq_getElem hlt⟩
      obtain ⟨b, off, u, rfl, hcell, hu⟩ := HS.out k c hkc
      have hu' : u = .string ⟨c.toArray⟩ := hu
      subst hu'
      have HK := Lib.hid hkc; clear hkc hu
      cases hb : greatB c
      · have HB := Lib.hid hb; clear hb
        go_wp2_with fail
        refine (long_any c _).mono ?_
        rintro e w1 ⟨rfl, rfl⟩
        rw [HB.out]
        go_wp2_with fail
        go_round
        case rel => exact ⟨k + 1, by go_num, by omega, hno.next HK.out HB.out⟩
        case measure => simp [intOf]; omega
      · have HB := Lib.hid hb; clear hb
        go_wp2_with fail
        refine (long_any c _).mono ?_
        rintro e w1 ⟨rfl, rfl⟩
        rw [HB.out]
        go_wp2_with fail
        go_ret
        rw [← HR.out, findIdx_at HK.out HB.out hno]
        exact ⟨rfl, rfl⟩
    · go_wp2_with fail
      go_ret
      rw [← HR.out, findIdx_no (by omega) hno]
      exact ⟨rfl, rfl⟩
theorem containsLong_any (ao : Option Addr) (cap : Nat) (l : List (List UInt8)) (w : World) (hs : SlOf IsStr w ao cap l) :
    Calls Tryz.prog 108 #[.slice ao l.length cap, .func (.func 107) #[] #[]] w fun e w' => e = .returned (.bool (l.any greatB)) ∧ w' = w := by
  have HI := Lib.hid (idxI_any greatB l)
  have HS := Lib.hid hs; clear hs
  go_enter Tryz.func108, Tryz.ntmps108
  go_wp2_with fail
  refine (indexLong_any _ _ _ _ HS.out ).mono ?_
  rintro e w1 ⟨rfl, rfl⟩
  go_wp2_with fail
  go_ret
  rw [← HI.out]
  exact ⟨rfl, rfl⟩

theorem checkL_eq (l : List (List UInt8)) : checkL l = if l.any endB = true then 2 else if 2000 < l.length then 3 else if l.any greatB = true then 3 else 0 := by
  unfold checkL endB greatB
  split
  · rfl
  · split
    · rename_i h
      split
      · rfl
      · rename_i h2; rw [if_pos (h.resolve_left h2)]
    · rename_i h
      rw [not_or] at h
      rw [if_neg h.1, if_neg h.2]

set_option maxHeartbeats 1000000 in
theorem check_any (ao : Option Addr) (cap : Nat) (l : List (List UInt8)) (w : World) (hs : SlOf IsStr w ao cap l) :
    Calls Tryz.prog 74 #[.slice ao l.length cap] w fun e w' => e = .returned (.int .i64 (checkL l)) ∧ w' = w := by
  have hc : l.length ≤ 9223372036854775807 := Nat.le_trans hs.1 hs.2.1
  have HC := Lib.hid (checkL_eq l)
  have HS := Lib.hid hs; clear hs
  cases he : l.any endB with
  | true =>
    have HE := Lib.hid he; clear he
    go_enter Tryz.func74, Tryz.ntmps74
    go_wp2_with fail
    refine (containsEnded_any _ _ _ _ HS.out ).mono ?_
    rintro e w1 ⟨rfl, rfl⟩
    rw [HE.out]
    go_wp2_with fail
    go_ret
    exact ⟨by rw [HC.out, HE.out]; rfl, rfl⟩
  | false =>
    have HE := Lib.hid he; clear he
    by_cases hl : 2000 < l.length
    · have HV := Lib.hid (show checkL l = 3 by rw [HC.out, HE.out, if_neg (by simp), if_pos hl])
      go_enter Tryz.func74, Tryz.ntmps74
      go_wp2_with fail
      refine (containsEnded_any _ _ _ _ HS.out ).mono ?_
      rintro e w1 ⟨rfl, rfl⟩
      rw [HE.out]
      go_wp2_with fail
      go_ret
      exact ⟨by rw [HV.out]; rfl, rfl⟩
    · cases hg : l.any greatB
      all_goals
        have HG := Lib.hid hg; clear hg
        have HV := Lib.hid (HC.out); rw [HE.out, if_neg (by simp), if_neg hl, HG.out] at HV
        go_enter Tryz.func74, Tryz.ntmps74
        go_wp2_with fail
        refine (containsEnded_any _ _ _ _ HS.out ).mono ?_
        rintro e w1 ⟨rfl, rfl⟩
        rw [HE.out]
        go_wp2_with fail
        refine (containsLong_any _ _ _ _ HS.out ).mono ?_
        rintro e w1 ⟨rfl, rfl⟩
        rw [HG.out]
        go_wp2_with fail
        go_ret
        exact ⟨by rw [HV.out]; rfl, rfl⟩

/-! ### The reference's -/
end Go.Proofs.YtlcjjcmfpmflcaaGreatDoor
