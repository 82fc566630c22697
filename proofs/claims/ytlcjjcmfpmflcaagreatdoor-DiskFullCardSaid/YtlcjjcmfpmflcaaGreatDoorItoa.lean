/- strconv.Itoa at every int. -/
import Derived.Test.YtlcjjcmfpmflcaaGreatDoorShelf
import Derived.Test.YtlcjjcmfpmflcaaGreatDoorBase
import Derived.Laws.AppendOwnNone
import Derived.WalkSmall
set_option linter.unusedVariables false
set_option linter.unusedSimpArgs false
namespace Go.Proofs.YtlcjjcmfpmflcaaGreatDoor
open Go Go.Proofs Go.RowKit Go.Ink

/-- strconv's table of powers stands where the program's start laid it. -/
def Tab10 (w : World) : Prop := Lib.TabIs Tryz.prog w "internal/strconv.uint64pow10" .u64 Lib.pow10Tab ∧ 1 < w.heap.size
theorem tab10_named : Tryz.prog.globalNamed "internal/strconv.uint64pow10" = some 1 := by kernel_rfl
theorem Tab10.later {w w' : World} (h : Tab10 w) (hb : Below w.heap.size w w') : Tab10 w' := ⟨var?_below hb tab10_named h.2 h.1, Nat.lt_of_lt_of_le h.2 hb.size⟩

theorem below_grow {w : World} (k : Nat) (os : Array Obj) : Below w.heap.size w (Sort.grow (w.drewN k) os) :=
  ⟨rfl, rfl, rfl, by simp [Sort.grow], fun j hj => by
    have e : (w.drewN k).heap = w.heap := rfl
    simp only [Sort.grow, e]
    rw [Array.getElem?_append_left hj]⟩

/-- Decimal digits. -/
theorem itoa_any (n : Int) (w : World) (h1 : -9223372036854775808 ≤ n) (h2 : n ≤ 9223372036854775807) (ht : Tab10 w) :
    Calls Tryz.prog 149 #[.int .i64 n] w fun e w' => e = .returned (.string ⟨(Lib.itoa n).toArray⟩) ∧ Below w.heap.size w w' :=
  (Tryz.strconv_Itoa n h1 h2 w ht.1).mono fun _ _ ⟨he, k, os, hw⟩ => ⟨he, hw ▸ below_grow k os⟩

theorem nDigits_le : ∀ (k u : Nat), u < 10 ^ (k + 1) → Lib.nDigits u ≤ k + 1
  | 0, u, h => by rw [Lib.nDigits_small (by simpa using h)]; omega
  | k + 1, u, h => by
    by_cases hu : u < 10
    · rw [Lib.nDigits_small hu]; omega
    · rw [Lib.nDigits_big hu]
      have := nDigits_le k (u / 10) (by rw [Nat.pow_succ] at h; omega)
      omega
theorem itoa_le (n : Int) (h0 : 0 ≤ n) (k : Nat) (h : n.toNat < 10 ^ (k + 1)) : (Lib.itoa n).length ≤ k + 1 := by
  unfold Lib.itoa
  rw [if_neg (by omega), Lib.decDigits_length]
  exact nDigits_le k _ h

end Go.Proofs.YtlcjjcmfpmflcaaGreatDoor
