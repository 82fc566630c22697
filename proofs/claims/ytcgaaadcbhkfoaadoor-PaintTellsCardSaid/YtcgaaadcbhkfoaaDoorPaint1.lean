/- The walks of paint.Go and paint.full. -/
import Derived.Test.YtcgaaadcbhkfoaaDoorBuild
import Derived.WalkSmall
namespace Go.Proofs.YtcgaaadcbhkfoaaDoor
open Go Go.Proofs Go.RowKit Go.Ink

/-- strconv's table of powers stands where the program's start laid it. -/
def Tab10 (w : World) : Prop := Lib.TabIs Tryd.prog w "internal/strconv.uint64pow10" .u64 Lib.pow10Tab ∧ 1 < w.heap.size
theorem tab10_named : Tryd.prog.globalNamed "internal/strconv.uint64pow10" = some 1 := by kernel_rfl
theorem Tab10.later {w w' : World} (h : Tab10 w) (hb : Below w.heap.size w w') : Tab10 w' := ⟨var?_below hb tab10_named h.2 h.1, Nat.lt_of_lt_of_le h.2 hb.size⟩

theorem below_grow {w : World} (k : Nat) (os : Array Obj) : Below w.heap.size w (Sort.grow (w.drewN k) os) :=
  ⟨rfl, rfl, rfl, by simp [Sort.grow], fun j hj => by
    have e : (w.drewN k).heap = w.heap := rfl
    simp only [Sort.grow, e]
    rw [Array.getElem?_append_left hj]⟩

/-- Decimal digits. -/
theorem itoa_any (n : Int) (w : World) (h1 : -9223372036854775808 ≤ n) (h2 : n ≤ 9223372036854775807) (ht : Tab10 w) :
    Calls Tryd.prog 23 #[.int .i64 n] w fun e w' => e = .returned (.string ⟨(Lib.itoa n).toArray⟩) ∧ Below w.heap.size w w' :=
  (Tryd.strconv_Itoa n h1 h2 w ht.1).mono fun e w' ⟨he, k, os, hw⟩ => ⟨he, hw ▸ below_grow k os⟩

theorem nDigits_le : ∀ (k u : Nat), u < 10 ^ (k + 1) → Lib.nDigits u ≤ k + 1
  | 0, u, h => by rw [Lib.nDigits_small (by simpa using h)]; omega
  | k + 1, u, h => by
    by_cases hu : u < 10
    · rw [Lib.nDigits_small hu]; omega
    · rw [Lib.nDigits_big hu]
      have := nDigits_le k (u / 10) (by rw [Nat.pow_succ] at h; omega)
      omega
theorem itoa_le (n : Int) (h0 : 0 ≤ n) (k : Nat) (h : n.toNat < 10 ^ (k + 1)) : (Lib.itoa n).length ≤ k + 1 := by
  unfold Lib.itoa
  rw [if_neg (by omega), Lib.decDigits_length]
  exact nDigits_le k _ h

def clampS (x : Int) : Int := min (max x 0) 9998
theorem clampS_le (x : Int) : (Lib.itoa (clampS x + 1)).length ≤ 4 := itoa_le _ (by unfold clampS; omega) 3 (by unfold clampS; omega)
def goS (row col : Int) : List UInt8 := [27, 91] ++ Lib.itoa (clampS row + 1) ++ [59] ++ Lib.itoa (clampS col + 1) ++ [72]
theorem goS_le (row col : Int) : (goS row col).length ≤ 12 := by
  have h1 := clampS_le row
  have h2 := clampS_le col
  simp [goS]; omega
theorem goS_pos (row col : Int) : 0 < (goS row col).length := by simp [goS]

set_option maxHeartbeats 1000000 in
theorem go_any (row col : Int) (w : World) (ht : Tab10 w) :
    Calls Tryd.prog 11 #[.int .i64 row, .int .i64 col] w fun e w' => e = .returned (.string ⟨(goS row col).toArray⟩) ∧ Below w.heap.size w w' := by
  have HT := Lib.hid ht; clear ht
  have hr : goS row col = [27, 91] ++ Lib.itoa (min (max row 0) 9998 + 1) ++ [59] ++ Lib.itoa (min (max col 0) 9998 + 1) ++ [72] := rfl
  have h1 := clampS_le row
  have h2 := clampS_le col
  unfold clampS at h1 h2
  generalize hA : Lib.itoa (min (max row 0) 9998 + 1) = A at *
  generalize hC : Lib.itoa (min (max col 0) 9998 + 1) = C at *
  have HR := Lib.hid hr; clear hr
  have HA := Lib.hid hA; clear hA
  have HC := Lib.hid hC; clear hC
  generalize goS row col = r at *
  go_enter Tryd.func11, Tryd.ntmps11
  go_wp2_with fail
  refine (itoa_any _ _ (by omega) (by omega) HT.out).mono ?_
  rintro e w1 ⟨rfl, hb1⟩
  rw [HA.out]
  have HB1 := Lib.hid hb1; clear hb1
  go_wp2_with fail
  refine (itoa_any _ _ (by omega) (by omega) (HT.out.later HB1.out)).mono ?_
  rintro e w2 ⟨rfl, hb2⟩
  rw [HC.out]
  have HB2 := Lib.hid hb2; clear hb2
  go_wp2_with fail
  go_ret
  rw [HR.out]
  exact ⟨congrArg (fun l : List UInt8 => Ending.returned (.string ⟨l.toArray⟩)) (by simp), HB1.out.trans (HB2.out.mono HB1.out.size)⟩

end Go.Proofs.YtcgaaadcbhkfoaaDoor
