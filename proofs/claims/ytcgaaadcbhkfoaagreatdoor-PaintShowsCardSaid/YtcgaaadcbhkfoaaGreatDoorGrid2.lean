/- The walks of grids.Check and what it calls: it answers 0 just where the grid may be. -/
import Derived.Test.YtcgaaadcbhkfoaaGreatDoorGrid
namespace Go.Proofs.YtcgaaadcbhkfoaaGreatDoor
open Go Go.Proofs Go.RowKit Go.Ink

set_option maxHeartbeats 400000 in
theorem containsOdd_any (ao : Option Addr) (cap : Nat) (l : List UInt8) (w : World) (hs : SlOf IsByte w ao cap l) :
    Calls Tryz.prog 20 #[.slice ao l.length cap, .func (.func 21) #[] #[]] w fun e w' => e = .returned (.bool (l.any oddB)) ∧ w = w' := by
  have HI := Lib.hid (idxI_any oddB l)
  have HS := Lib.hid hs; clear hs
  go_enter Tryz.func20, Tryz.ntmps20
  go_wp2_with (go_at_call 35; refine (indexOdd_any _ _ _ _ HS.out).mono ?_; rintro e w1 ⟨rfl, rfl⟩)
  go_ret
  rw [← HI.out]
  exact ⟨rfl, rfl⟩

def wrongB (cols : Int) (l : List UInt8) : Bool := ((l.length : Int) != cols) || l.any oddB

set_option maxHeartbeats 400000 in
theorem wrong_any (ao : Option Addr) (cap : Nat) (l : List UInt8) (w : World) (hs : SlOf IsByte w ao cap l) (b : Nat) (cols : Int) (hb : w.cell? ⟨b, 1, none⟩ = some (.int .i64 cols)) :
    Calls Tryz.prog 19 #[.slice ao l.length cap, .pointer (some ⟨b, 0, none⟩)] w fun e w' => e = .returned (.bool (wrongB cols l)) ∧ w = w' := by
  have hm : l.length ≤ maxLen := Nat.le_trans hs.1 hs.2.1
  unfold maxLen at hm
  have HS := Lib.hid hs; clear hs
  have hw : wrongB cols l = (((l.length : Int) != cols) || l.any oddB) := rfl
  generalize wrongB cols l = r at *
  have HW := Lib.hid hw; clear hw
  cases hl : ((l.length : Int) != cols)
  · go_enter Tryz.func19, Tryz.ntmps19
    go_wp2_with (go_at_call 20; refine (containsOdd_any _ _ _ _ HS.out).mono ?_; rintro e w1 ⟨rfl, rfl⟩)
    go_ret
    rw [HW.out, hl]
    exact ⟨rfl, rfl⟩
  · go_enter Tryz.func19, Tryz.ntmps19
    go_wp2_with fail
    go_ret
    rw [HW.out, hl]
    exact ⟨rfl, rfl⟩

set_option maxHeartbeats 400000 in
theorem indexWrong_any (ao : Option Addr) (cap : Nat) (ls : List (List UInt8)) (w : World) (hs : SlOf IsBytes w ao cap ls) (b : Nat) (cols : Int) (hb : w.cell? ⟨b, 1, none⟩ = some (.int .i64 cols)) :
    Calls Tryz.prog 36 #[.slice ao ls.length cap, .func (.func 19) #[] #[.pointer (some ⟨b, 0, none⟩)]] w
      fun e w' => e = .returned (.int .i64 (idxI (ls.findIdx? (wrongB cols)))) ∧ w = w' := by
  obtain ⟨h1, h2, h3, h4⟩ := hs
  unfold maxLen at h2
  have HS := Lib.hid h4; clear h4 h3
  generalize hr : idxI (ls.findIdx? (wrongB cols)) = r
  have HR := Lib.hid hr; clear hr
  have HB := Lib.hid hb; clear hb
  go_enter Tryz.func36, Tryz.ntmps36
  go_wp2_with fail
  go_loop [8] (fun i => ∃ k : Nat, i = .int .i64 k ∧ k ≤ ls.length ∧ Hno (wrongB cols) ls k) (fun i => ls.length - (intOf i).toNat)
  case atStart => exact ⟨0, rfl, by omega, fun j y hj => by omega⟩
  case round =>
    obtain ⟨k, rfl, hk, hno⟩ := hrel
    by_cases hlt : k < ls.length
    · obtain ⟨c, hkc⟩ : ∃ c, ls[k]? = some c := ⟨_, List.getElem?_eq_getElem hlt⟩
      obtain ⟨b', off, u, rfl, hcell, ao', cap', rfl, hrow⟩ := HS.out k c hkc
      have HK := Lib.hid hkc; clear hkc
      have HRow := Lib.hid hrow; clear hrow
      cases hbb : wrongB cols c
      · have HBB := Lib.hid hbb; clear hbb
        go_wp2_with (go_at_call 19; refine (wrong_any _ _ _ _ HRow.out _ _ HB.out).mono ?_; rintro e w1 ⟨rfl, rfl⟩; rw [HBB.out])
        go_round
        case rel => exact ⟨k + 1, by go_num, by omega, hno.next HK.out HBB.out⟩
        case measure => simp [intOf]; omega
      · have HBB := Lib.hid hbb; clear hbb
        go_wp2_with (go_at_call 19; refine (wrong_any _ _ _ _ HRow.out _ _ HB.out).mono ?_; rintro e w1 ⟨rfl, rfl⟩; rw [HBB.out])
        go_ret
        rw [← HR.out, findIdx_at HK.out HBB.out hno]
        exact ⟨rfl, rfl⟩
    · go_wp2_with fail
      go_ret
      rw [← HR.out, findIdx_no (by omega) hno]
      exact ⟨rfl, rfl⟩

set_option maxHeartbeats 400000 in
theorem containsWrong_any (ao : Option Addr) (cap : Nat) (ls : List (List UInt8)) (w : World) (hs : SlOf IsBytes w ao cap ls) (b : Nat) (cols : Int) (hb : w.cell? ⟨b, 1, none⟩ = some (.int .i64 cols)) :
    Calls Tryz.prog 24 #[.slice ao ls.length cap, .func (.func 19) #[] #[.pointer (some ⟨b, 0, none⟩)]] w
      fun e w' => e = .returned (.bool (ls.any (wrongB cols))) ∧ w = w' := by
  have HI := Lib.hid (idxI_any (wrongB cols) ls)
  have HS := Lib.hid hs; clear hs
  have HB := Lib.hid hb; clear hb
  go_enter Tryz.func24, Tryz.ntmps24
  go_wp2_with (go_at_call 36; refine (indexWrong_any _ _ _ _ HS.out _ _ HB.out).mono ?_; rintro e w1 ⟨rfl, rfl⟩)
  go_ret
  rw [← HI.out]
  exact ⟨rfl, rfl⟩

def inB (n most : Int) : Bool := decide (0 ≤ n) && decide (n < most)
set_option maxHeartbeats 400000 in
theorem in_any (n most : Int) (w : World) :
    Calls Tryz.prog 22 #[.int .i64 n, .int .i64 most] w fun e w' => e = .returned (.bool (inB n most)) ∧ w = w' := by
  have hw : inB n most = (decide (0 ≤ n) && decide (n < most)) := rfl
  generalize inB n most = r at *
  have HW := Lib.hid hw; clear hw
  go_each [0 ≤ n, n < most] => (go_enter Tryz.func22, Tryz.ntmps22; go_wp2; go_ret; rw [HW.out]; simp [*])

def sizedB (r c : Int) : Bool := decide (2 ≤ r) && decide (r ≤ 60) && decide (8 ≤ c) && decide (c ≤ 132)
set_option maxHeartbeats 400000 in
theorem sized_any (m n : Int) (w : World) :
    Calls Tryz.prog 23 #[.int .i64 m, .int .i64 n] w fun e w' => e = .returned (.bool (sizedB m n)) ∧ w = w' := by
  have hw : sizedB m n = (decide (2 ≤ m) && decide (m ≤ 60) && decide (8 ≤ n) && decide (n ≤ 132)) := rfl
  generalize sizedB m n = r at *
  have HW := Lib.hid hw; clear hw
  go_each [2 ≤ m, m ≤ 60, 8 ≤ n, n ≤ 132] => (go_enter Tryz.func23, Tryz.ntmps23; go_wp2; go_ret; rw [HW.out]; simp [*])

end Go.Proofs.YtcgaaadcbhkfoaaGreatDoor
