/- The walks of paint.full and paint.row. -/
import Derived.Test.YtcgaaadcbhkfoaaGreatDoorPaint1
import Derived.Deep.QuietTactic
import Derived.BigQuiet
namespace Go.Proofs.YtcgaaadcbhkfoaaGreatDoor
open Go Go.Proofs Go.RowKit Go.Ink

/-- How many of the first k cells there are without the blanks at their end. -/
def fullTo (l : List UInt8) : Nat → Nat
  | 0 => 0
  | k + 1 => if l[k]? = some 32 then fullTo l k else k + 1
def fullN (l : List UInt8) : Nat := fullTo l l.length
theorem fullTo_le (l : List UInt8) : ∀ k, fullTo l k ≤ k
  | 0 => Nat.le_refl _
  | k + 1 => by unfold fullTo; split; have := fullTo_le l k; omega; omega
theorem fullN_le (l : List UInt8) : fullN l ≤ l.length := fullTo_le l _

set_option maxRecDepth 100000 in
set_option maxHeartbeats 400000 in
theorem full_any (ao : Option Addr) (cap : Nat) (l : List UInt8) (w : World) (hs : SlOf IsByte w ao cap l) :
    Calls Tryz.prog 32 #[.slice ao l.length cap] w fun e w' => e = .returned (.int .i64 (fullN l)) ∧ w = w' := by
  obtain ⟨h1, h2, h3, h4⟩ := hs
  unfold maxLen at h2
  have HS := Lib.hid h4; clear h4 h3
  generalize hr : fullN l = r
  have HR := Lib.hid hr; clear hr
  go_enter Tryz.func32, Tryz.ntmps32
  go_wp2_with fail
  go_loop [3] (fun i => ∃ k : Nat, i = .int .i64 k ∧ k ≤ l.length ∧ Hid (fullTo l k = fullN l)) (fun i => (intOf i).toNat)
  case atStart => exact ⟨l.length, rfl, by omega, Lib.hid rfl⟩
  case round =>
    obtain ⟨k, rfl, hk, hinv⟩ := hrel
    cases k with
    | zero =>
      go_wp2_with fail
      go_ret
      rw [← HR.out, ← hinv.out]
      exact ⟨rfl, rfl⟩
    | succ k =>
      obtain ⟨c, hkc⟩ : ∃ c, l[k]? = some c := ⟨_, List.getElem?_eq_getElem hk⟩
      obtain ⟨b, off, u, rfl, hcell, rfl⟩ := HS.out k c hkc
      have HK := Lib.hid hkc; clear hkc
      have e1 : ((k + 1 : Nat) : Int) = (k : Int) + 1 := by omega
      rw [e1]; clear e1
      cases hb : ((c.toNat : Int) == 32)
      · have h2 : ¬ c = 32 := by rintro rfl; simp at hb
        have HC := Lib.hid h2; clear h2
        go_wp2_with fail
        go_ret
        rw [← HR.out, ← hinv.out, fullTo, if_neg (by rw [HK.out]; simpa using HC.out)]
        exact ⟨rfl, rfl⟩
      · have h2 : c = 32 := by
          apply UInt8.toNat_inj.1
          have := (beq_iff_eq.1 hb); simpa using (by omega : c.toNat = 32)
        have HC := Lib.hid h2; clear h2
        go_wp2_with fail
        go_round
        case rel => exact ⟨k, by go_num, by omega, by rw [← hinv.out, fullTo, if_pos (by rw [HK.out, HC.out])]; exact Lib.hid rfl⟩
        case measure => simp [intOf] <;> omega

end Go.Proofs.YtcgaaadcbhkfoaaGreatDoor
