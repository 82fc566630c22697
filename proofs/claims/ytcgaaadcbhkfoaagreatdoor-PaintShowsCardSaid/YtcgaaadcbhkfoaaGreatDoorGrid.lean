/- The walks of grids.odd, grids.sized, grids.Check and the library's ContainsFunc and IndexFunc that these call. -/
import Derived.Test.YtcgaaadcbhkfoaaGreatDoorProg
import Derived.Test.YtcgaaadcbhkfoaaGreatDoorBase
import Derived.Test.YtcgaaadcbhkfoaaGreatDoorFind
namespace Go.Proofs.YtcgaaadcbhkfoaaGreatDoor
open Go Go.Proofs Go.RowKit Go.Ink

def oddB (c : UInt8) : Bool := decide (c < 32) || decide (126 < c)
theorem oddB_eq (c : UInt8) : oddB c = (decide ((c.toNat : Int) < 32) || decide (126 < (c.toNat : Int))) := by
  unfold oddB
  rw [Bool.eq_iff_iff]; simp [UInt8.lt_iff_toNat_lt]; omega

set_option maxHeartbeats 400000 in
theorem odd_any (c : UInt8) (w : World) :
    Calls Tryz.prog 21 #[.int .u8 (c.toNat : Int)] w fun e w' => e = .returned (.bool (oddB c)) ∧ w = w' := by
  have hc := oddB_eq c
  generalize oddB c = b at *
  have H := Lib.hid hc; clear hc
  go_each [(c.toNat : Int) < 32, (126 : Int) < (c.toNat : Int)] => (go_enter Tryz.func21, Tryz.ntmps21; go_wp2; go_ret; rw [H.out]; simp [*])

set_option maxHeartbeats 400000 in
theorem indexOdd_any (ao : Option Addr) (cap : Nat) (l : List UInt8) (w : World) (hs : SlOf IsByte w ao cap l) :
    Calls Tryz.prog 35 #[.slice ao l.length cap, .func (.func 21) #[] #[]] w fun e w' => e = .returned (.int .i64 (idxI (l.findIdx? oddB))) ∧ w = w' := by
  obtain ⟨h1, h2, h3, h4⟩ := hs
  unfold maxLen at h2
  have HS := Lib.hid h4; clear h4 h3
  generalize hr : idxI (l.findIdx? oddB) = r
  have HR := Lib.hid hr; clear hr
  go_enter Tryz.func35, Tryz.ntmps35
  go_wp2_with fail
  go_loop [8] (fun i => ∃ k : Nat, i = .int .i64 k ∧ k ≤ l.length ∧ Hno oddB l k) (fun i => l.length - (intOf i).toNat)
  case atStart => exact ⟨0, rfl, by omega, fun j y hj => by omega⟩
  case round =>
    obtain ⟨k, rfl, hk, hno⟩ := hrel
    by_cases hlt : k < l.length
    · obtain ⟨c, hkc⟩ : ∃ c, l[k]? = some c := ⟨_, List.getElem?_eq_getElem hlt⟩
      obtain ⟨b, off, u, rfl, hcell, rfl⟩ := HS.out k c hkc
      have HK := Lib.hid hkc; clear hkc
      cases hb : oddB c
      · have HB := Lib.hid hb; clear hb
        go_wp2_with (go_at_call 21; refine (odd_any _ _).mono ?_; rintro e w1 ⟨rfl, rfl⟩; rw [HB.out])
        go_round
        case rel => exact ⟨k + 1, by go_num, by omega, hno.next HK.out HB.out⟩
        case measure => simp [intOf]; omega
      · have HB := Lib.hid hb; clear hb
        go_wp2_with (go_at_call 21; refine (odd_any _ _).mono ?_; rintro e w1 ⟨rfl, rfl⟩; rw [HB.out])
        go_ret
        rw [← HR.out, findIdx_at HK.out HB.out hno]
        exact ⟨rfl, rfl⟩
    · go_wp2_with fail
      go_ret
      rw [← HR.out, findIdx_no (by omega) hno]
      exact ⟨rfl, rfl⟩

end Go.Proofs.YtcgaaadcbhkfoaaGreatDoor
