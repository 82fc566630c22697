/- The walk of chapter 02's examples (inkhornlaw02.does): they come out. -/
import Derived.Test.YtnjbnncmpdpkfaaDoorNums4
namespace Go.Proofs.YtnjbnncmpdpkfaaDoor
open Go Go.Proofs Go.RowKit Go.Ink

theorem ex1 : getAt [51, 48, 48, 58, 120] 0 = some (300, 4) := by decide +kernel
theorem ex2 : getAt [51, 48, 48, 58, 120] 1 = none := by decide +kernel
theorem ex3 : getLAt [50, 58, 49, 58, 97, 48, 58] 0 = some ([[97], []], 7) := by decide +kernel
theorem ex4 : getTAt [50, 58, 120, 121, 122] 0 = some ([120, 121], 4) := by decide +kernel
theorem ex5 : putN 300 = [51, 48, 48, 58] := by decide +kernel
theorem ex6 : putN (-1) = [] := by decide +kernel
theorem ex7 : putL [[97], []] = [50, 58, 49, 58, 97, 48, 58] := by decide +kernel

theorem two_strs (w : World) (T : TypeId) (a b : List UInt8) : SlOf IsStr (w.alloc (.cells #[.string ⟨a.toArray⟩, .string ⟨b.toArray⟩] T (0, 0))) (some ⟨w.heap.size, 0, none⟩) 2 [a, b] := by
  refine ⟨by simp, by unfold maxLen; omega, by simp, fun k x hk => ?_⟩
  have hb : (w.alloc (.cells #[.string ⟨a.toArray⟩, .string ⟨b.toArray⟩] T (0, 0))).heap[w.heap.size]? = some (.cells #[.string ⟨a.toArray⟩, .string ⟨b.toArray⟩] T (0, 0)) := by
    show (w.heap.push _)[w.heap.size]? = _
    rw [Array.getElem?_push, if_pos rfl]
  refine ⟨w.heap.size, 0, .string ⟨x.toArray⟩, rfl, ?_, rfl⟩
  rw [Lib.cell_of_heap hb]
  match k, hk with
  | 0, hk => simp at hk; subst hk; rfl
  | 1, hk => simp at hk; subst hk; rfl

set_option maxRecDepth 100000 in
set_option maxHeartbeats 1000000 in
theorem does_any (w : World) (he : Env w) :
    Calls Tryd.prog 19 #[] w fun e w' => e = .returned (.bool true) ∧ Below w.heap.size w w' := by
  have HE := Lib.hid he; clear he
  have H1 := Lib.hid (fun w he => by have := get_any [51, 48, 48, 58, 120] 0 w (by unfold maxLen; simp) he; rw [ex1] at this; exact this)
  have H2 := Lib.hid (fun w he => by have := get_any [51, 48, 48, 58, 120] 1 w (by unfold maxLen; simp) he; rw [ex2] at this; exact this)
  have H3 := Lib.hid (fun w he => by have := getList_any [50, 58, 49, 58, 97, 48, 58] 0 w (by simp) he; rw [ex3] at this; exact this)
  have H4 := Lib.hid (fun w he => by have := getText_any [50, 58, 120, 121, 122] 0 w (by unfold maxLen; simp) he; rw [ex4] at this; exact this)
  have H5 := Lib.hid (fun w he => by have := put_any 300 w (by omega) (by omega) he; rw [ex5] at this; exact this)
  have H6 := Lib.hid (fun w he => by have := put_any (-1) w (by omega) (by omega) he; rw [ex6] at this; exact this)
  have H7 := Lib.hid (fun ao cap w hl he => by have := putList_any [[97], []] ao cap w hl (by rw [ex7]; simp) he; rw [ex7] at this; exact this)
  have H8 := Lib.hid (fun (ao1 ao2 cap1 cap2 w ha hb) => by have := same_any [[97], []] [[97], []] ao1 ao2 cap1 cap2 w ha hb; rw [sameS_self] at this; exact this)
  have HAL := Lib.hid (fun (w : World) o => (Below.refl w.heap.size w).alloc (Nat.le_refl _) o)
  go_enter Tryd.func19, Tryd.ntmps19
  go_wp2_with fail
  refine (H1.out _ HE.out).mono ?_
  rintro e w1 ⟨rfl, hb⟩
  have HE1 := Lib.hid (HE.out.later hb)
  have HB1 := Lib.hid hb; clear hb
  simp only [getV]
  go_wp2_with fail
  refine (H2.out _ HE1.out).mono ?_
  rintro e w2 ⟨rfl, hb⟩
  have HE2 := Lib.hid (HE1.out.later hb)
  have HB2 := Lib.hid (HB1.out.trans (hb.mono HB1.out.size)); clear hb
  simp only [getV]
  go_wp2_with fail
  refine (H3.out _ HE2.out).mono ?_
  rintro e w3 ⟨v, rfl, ho, hb⟩
  obtain ⟨ao, cap, hv, hs⟩ := ho.slOf
  simp only [Option.map_some, Option.getD_some, List.length_cons, List.length_nil] at hv hs
  subst hv
  have HS3 := Lib.hid hs
  have HE3 := Lib.hid (HE2.out.later hb)
  have HB3 := Lib.hid (HB2.out.trans (hb.mono HB2.out.size)); clear hb hs ho
  simp only [Option.map_some, Option.getD_some, Option.isSome_some]
  go_wp2_with fail
  refine (H4.out _ HE3.out).mono ?_
  rintro e w4 ⟨rfl, hb⟩
  have HE4 := Lib.hid (HE3.out.later hb)
  have HS4 := Lib.hid (HS3.out.later lasts_str hb)
  have HB4 := Lib.hid (HB3.out.trans (hb.mono HB3.out.size)); clear hb
  simp only [getTV]
  go_wp2_with fail
  refine (H5.out _ HE4.out.h10).mono ?_
  rintro e w5 ⟨rfl, hb⟩
  have HE5 := Lib.hid (HE4.out.later hb)
  have HS5 := Lib.hid (HS4.out.later lasts_str hb)
  have HB5 := Lib.hid (HB4.out.trans (hb.mono HB4.out.size)); clear hb
  go_wp2_with fail
  refine (H6.out _ HE5.out.h10).mono ?_
  rintro e w6 ⟨rfl, hb⟩
  have HE6 := Lib.hid (HE5.out.later hb)
  have HS6 := Lib.hid (HS5.out.later lasts_str hb)
  have HB6 := Lib.hid (HB5.out.trans (hb.mono HB5.out.size)); clear hb
  go_wp2_with fail
  refine (H8.out _ _ _ _ _ (HS6.out.later lasts_str (HAL.out _ _)) (two_strs w6 _ [97] [])).mono ?_
  rintro e w7 ⟨rfl, n, rfl⟩
  have hb := below_drewN (HAL.out w6 (.cells #[.string ⟨[97].toArray⟩, .string ⟨[].toArray⟩] 9 (0, 0))) n
  have HE7 := Lib.hid (HE6.out.later hb)
  have HS7 := Lib.hid (HS6.out.later lasts_str hb)
  have HB7 := Lib.hid (HB6.out.trans (hb.mono HB6.out.size)); clear hb
  go_wp2_with fail
  refine (H7.out _ _ _ HS7.out HE7.out.h10).mono ?_
  rintro e w8 ⟨rfl, hb⟩
  have HB8 := Lib.hid (HB7.out.trans (hb.mono HB7.out.size)); clear hb
  go_wp2_with fail
  go_returns
  exact ⟨rfl, HB8.out⟩
end Go.Proofs.YtnjbnncmpdpkfaaDoor
