/- The walk of inkhornlaw01's Great. -/
import Derived.Test.YtgfcnafhfgncoaaDoorGreat
import Derived.Test.YtgfcnafhfgncoaaDoorBase
import Derived.Test.YtgfcnafhfgncoaaDoorShelf
import Derived.Deep.QuietTactic
import Derived.BigQuiet
import Derived.WalkSmall
namespace Go.Proofs.YtgfcnafhfgncoaaDoor
open Go Go.Proofs Go.RowKit Go.Ink

theorem greatL_step {b : Int} {l : List (List UInt8)} {k : Nat} {t : List UInt8} (h : l[k]? = some t) : greatL b (l.drop k) = if b - min (t.length : Int) 1099511627776 < 0 then true else greatL (b - min (t.length : Int) 1099511627776) (l.drop (k + 1)) := by
  obtain ⟨hk, rfl⟩ := List.getElem?_eq_some_iff.1 h
  rw [List.drop_eq_getElem_cons hk, greatL]

set_option maxHeartbeats 1000000 in
theorem great_any (l : List (List UInt8)) (ao : Option Addr) (cap : Nat) (many bytes : Int) (w : World) (hl : SlOf IsStr w ao cap l) (hb0 : 0 ≤ bytes) (hb1 : bytes ≤ 1000000) :
    Calls Tryd.prog 10 #[.slice ao l.length cap, .int .i64 many, .int .i64 bytes] w fun e w' => e = .returned (.bool (greatS l many bytes)) ∧ w' = w := by
  have HS := Lib.hid hl
  have hc : l.length ≤ 9223372036854775807 := Nat.le_trans hl.1 hl.2.1
  clear hl
  by_cases hm : many < (l.length : Int)
  · have HF := Lib.hid (show greatS l many bytes = true by unfold greatS; rw [if_pos hm])
    go_enter Tryd.func10, Tryd.ntmps10
    go_wp2_with fail
    go_returns
    exact ⟨by rw [HF.out]; rfl, rfl⟩
  · have HF := Lib.hid (show greatS l many bytes = greatL bytes (l.drop 0) by unfold greatS; rw [if_neg hm]; rfl)
    have hd : decide (many < (l.length : Int)) = false := by simpa using hm
    go_enter Tryd.func10, Tryd.ntmps10
    go_wp2_with fail
    go_loop [2, 7] (fun bv iv => ∃ (k : Nat) (b : Int), bv = .int .i64 b ∧ iv = .int .i64 k ∧ k ≤ l.length ∧ 0 ≤ b ∧ b ≤ 1000000 ∧ Hid (greatS l many bytes = greatL b (l.drop k))) (fun _ iv => l.length - (intOf iv).toNat)
    case atStart => exact ⟨0, bytes, rfl, rfl, by omega, hb0, hb1, HF⟩
    case round =>
      obtain ⟨k, b, rfl, rfl, hk, hb2, hb3, HR⟩ := hrel
      by_cases hlt : k < l.length
      · obtain ⟨t, hkt⟩ : ∃ t, l[k]? = some t := ⟨_, List.getElem?_eq_getElem hlt⟩
        obtain ⟨g, off, u, hao, hcell, hu⟩ := HS.out.2.2.2 k t hkt
        subst hao
        have hu' : u = .string ⟨t.toArray⟩ := hu
        subst hu'
        clear hu
        have HST := Lib.hid (greatL_step (b := b) hkt); clear hkt
        by_cases ht : (1099511627776 : Int) < (t.length : Int)
        · have HN := Lib.hid (show greatS l many bytes = true by rw [HR.out, HST.out, if_pos (by omega)])
          go_wp2_with fail
          go_returns
          exact ⟨by rw [HN.out]; rfl, rfl⟩
        · have hmin := Lib.hid (show min (t.length : Int) 1099511627776 = (t.length : Int) by omega)
          by_cases hneg : b - (t.length : Int) < 0
          · have HN := Lib.hid (show greatS l many bytes = true by rw [HR.out, HST.out, hmin.out, if_pos hneg])
            go_wp2_with fail
            go_returns
            exact ⟨by rw [HN.out]; rfl, rfl⟩
          · have HN := Lib.hid (show greatS l many bytes = greatL (b - (t.length : Int)) (l.drop (k + 1)) by rw [HR.out, HST.out, hmin.out, if_neg hneg])
            go_wp2_with fail
            go_round
            case rel => exact ⟨k + 1, b - (t.length : Int), by go_num, by go_num, by omega, by omega, by omega, HN⟩
            case measure => simp [intOf]; omega
      · have hkl : k = l.length := by omega
        subst hkl
        have HN := Lib.hid (show greatS l many bytes = false by rw [HR.out, List.drop_length]; rfl)
        go_wp2_with fail
        go_returns
        exact ⟨by rw [HN.out]; rfl, rfl⟩

end Go.Proofs.YtgfcnafhfgncoaaDoor
