/- The walks of grids.odd, grids.sized, grids.Check and the library's ContainsFunc and IndexFunc that these call. -/
import Derived.Test.YtcgaaadcbhkfoaaDoorProg
import Derived.Test.YtcgaaadcbhkfoaaDoorBase
namespace Go.Proofs.YtcgaaadcbhkfoaaDoor
open Go Go.Proofs Go.RowKit Go.Ink

def oddB (c : UInt8) : Bool := decide (c < 32) || decide (126 < c)
theorem oddB_eq (c : UInt8) : oddB c = (decide ((c.toNat : Int) < 32) || decide (126 < (c.toNat : Int))) := by
  unfold oddB
  rw [Bool.eq_iff_iff]; simp [UInt8.lt_iff_toNat_lt]; omega

set_option maxHeartbeats 400000 in
theorem odd_any (c : UInt8) (w : World) :
    Calls Tryd.prog 26 #[.int .u8 (c.toNat : Int)] w fun e w' => e = .returned (.bool (oddB c)) ∧ w = w' := by
  have hc := oddB_eq c
  generalize oddB c = b at *
  have H := Lib.hid hc; clear hc
  go_each [(c.toNat : Int) < 32, (126 : Int) < (c.toNat : Int)] => (go_enter Tryd.func26, Tryd.ntmps26; go_wp2; go_ret; rw [H.out]; simp [*])

def idxI (o : Option Nat) : Int := match o with | some i => i | none => -1
theorem findIdx_at {α : Type} {p : α → Bool} {l : List α} {k : Nat} {x : α} (hk : l[k]? = some x) (hx : p x = true) (hno : ∀ (j : Nat) y, j < k → l[j]? = some y → p y = false) : l.findIdx? p = some k := by
  rw [List.findIdx?_eq_some_iff_getElem]
  obtain ⟨hlt, he⟩ := List.getElem?_eq_some_iff.1 hk
  refine ⟨hlt, by rw [he]; exact hx, fun j hj => ?_⟩
  simp [hno j _ hj (List.getElem?_eq_getElem (by omega))]
theorem findIdx_no {α : Type} {p : α → Bool} {l : List α} {k : Nat} (hk : l.length ≤ k) (hno : ∀ (j : Nat) y, j < k → l[j]? = some y → p y = false) : l.findIdx? p = none := by
  rw [List.findIdx?_eq_none_iff]
  intro x hx
  obtain ⟨i, hi, rfl⟩ := List.mem_iff_getElem.1 hx
  exact hno i _ (by omega) (List.getElem?_eq_getElem hi)
def Hno {α : Type} (p : α → Bool) (l : List α) (k : Nat) : Prop := ∀ (j : Nat) y, j < k → l[j]? = some y → p y = false
theorem Hno.next {α : Type} {p : α → Bool} {l : List α} {k : Nat} {x : α} (h : Hno p l k) (hk : l[k]? = some x) (hx : p x = false) : Hno p l (k + 1) := by
  intro j y hj hy
  by_cases e : j = k
  · subst e; rw [hk] at hy; cases hy; exact hx
  · exact h j y (by omega) hy

set_option maxHeartbeats 400000 in
theorem indexOdd_any (ao : Option Addr) (cap : Nat) (l : List UInt8) (w : World) (hs : SlOf IsByte w ao cap l) :
    Calls Tryd.prog 37 #[.slice ao l.length cap, .func (.func 26) #[] #[]] w fun e w' => e = .returned (.int .i64 (idxI (l.findIdx? oddB))) ∧ w = w' := by
  obtain ⟨h1, h2, h3, h4⟩ := hs
  unfold maxLen at h2
  have HS := Lib.hid h4; clear h4 h3
  generalize hr : idxI (l.findIdx? oddB) = r
  have HR := Lib.hid hr; clear hr
  go_enter Tryd.func37, Tryd.ntmps37
  go_wp2_with fail
  go_loop [8] (fun i => ∃ k : Nat, i = .int .i64 k ∧ k ≤ l.length ∧ Hno oddB l k) (fun i => l.length - (intOf i).toNat)
  case atStart => exact ⟨0, rfl, by omega, fun j y hj => by omega⟩
  case round =>
    obtain ⟨k, rfl, hk, hno⟩ := hrel
    by_cases hlt : k < l.length
    · obtain ⟨c, hkc⟩ : ∃ c, l[k]? = some c := ⟨_, List.getElem?_eq_getElem hlt⟩
      obtain ⟨b, off, u, rfl, hcell, rfl⟩ := HS.out k c hkc
      have HK := Lib.hid hkc; clear hkc
      cases hb : oddB c
      · have HB := Lib.hid hb; clear hb
        go_wp2_with (go_at_call 26; refine (odd_any _ _).mono ?_; rintro e w1 ⟨rfl, rfl⟩; rw [HB.out])
        go_round
        case rel => exact ⟨k + 1, by go_num, by omega, hno.next HK.out HB.out⟩
        case measure => simp [intOf]; omega
      · have HB := Lib.hid hb; clear hb
        go_wp2_with (go_at_call 26; refine (odd_any _ _).mono ?_; rintro e w1 ⟨rfl, rfl⟩; rw [HB.out])
        go_ret
        rw [← HR.out, findIdx_at HK.out HB.out hno]
        exact ⟨rfl, rfl⟩
    · go_wp2_with fail
      go_ret
      rw [← HR.out, findIdx_no (by omega) hno]
      exact ⟨rfl, rfl⟩

end Go.Proofs.YtcgaaadcbhkfoaaDoor
