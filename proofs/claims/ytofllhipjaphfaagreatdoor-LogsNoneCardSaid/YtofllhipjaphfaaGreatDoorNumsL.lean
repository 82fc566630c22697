/- The walk of nums.PutList. -/
import Derived.Test.YtofllhipjaphfaaGreatDoorNumsT
import Derived.Test.YtofllhipjaphfaaGreatDoorBuild
namespace Go.Proofs.YtofllhipjaphfaaGreatDoor
open Go Go.Proofs Go.RowKit Go.Ink

set_option maxHeartbeats 1000000 in
theorem putList_any (l : List (List UInt8)) (ao : Option Addr) (cap : Nat) (w : World) (hl : SlOf IsStr w ao cap l) (hsz : (putL l).length ≤ 140737488355328) (h10 : Tab10 w) :
    Calls Tryz.prog 20 #[.slice ao l.length cap] w fun e w' => e = .returned (.string ⟨(putL l).toArray⟩) ∧ Below w.heap.size w w' := by
  have HS := Lib.hid hl
  have H10 := Lib.hid h10
  have hc : l.length ≤ 9223372036854775807 := Nat.le_trans hl.1 hl.2.1
  clear hl h10
  have hpl : putL l = putN l.length ++ putTs l := rfl
  have hll : (putN (l.length : Int)).length + (putTs l).length ≤ 140737488355328 := by rw [hpl, List.length_append] at hsz; exact hsz
  have HPL := Lib.hid hpl; clear hpl hsz
  have HP := Lib.hid (fun w ht => put_any (l.length : Int) w (by omega) (by omega) ht)
  generalize putN (l.length : Int) = A at *
  have HBN := Lib.hid (bdr_new (w := w))
  have HBA := Lib.hid (show Below w.heap.size w (w.alloc (.cells #[.pointer none, .slice none 0 0] 81 (0, 0))) from (Below.refl _ _).alloc (Nat.le_refl _) _)
  go_enter Tryz.func20, Tryz.ntmps20
  go_wp2_with fail
  refine (HP.out _ (H10.out.later HBA.out)).mono ?_
  rintro e w1 ⟨rfl, hb⟩
  have HBd1 := Lib.hid (HBN.out.later hb)
  have HB1 := Lib.hid (HBA.out.trans (hb.mono HBA.out.size)); clear hb
  go_wp2_with fail
  refine (writeString_any _ _ _ _ _ HBd1.out (by rw [size_mk]; simp; omega) HB1.out.size).mono ?_
  rintro e w2 ⟨rfl, hbd, hb⟩
  have HBd2 : Hid (Bdr w2 w.heap.size w.heap.size A) := Lib.hid (by simpa using hbd)
  have HB2 := Lib.hid (HB1.out.trans hb); clear hb hbd
  clear HB1 HBd1 HBA HBN
  go_wp2_with fail
  go_loopw [12] (fun i wr => ∃ k : Nat, i = .int .i64 k ∧ k ≤ l.length ∧ Hid (Bdr wr w.heap.size w.heap.size (A ++ putTs (l.take k))) ∧ Hid (Below w.heap.size w wr)) (fun i _ => l.length - (intOf i).toNat)
  case atStart => exact ⟨0, rfl, by omega, Lib.hid (by simpa [putTs] using HBd2.out), HB2.out⟩
  case round =>
    obtain ⟨k, rfl, hk, HBd, HB⟩ := hrel
    by_cases hlt : k < l.length
    · obtain ⟨t, hkt⟩ : ∃ t, l[k]? = some t := ⟨_, List.getElem?_eq_getElem hlt⟩
      obtain ⟨g, off, u, hao, hcell, hu⟩ := HS.out.2.2.2 k t hkt
      subst hao
      have hu' : u = .string ⟨t.toArray⟩ := hu
      subst hu'
      have hcell' := ((HB.out.cell (p := ⟨g, off + k, none⟩) (lt_of_cell hcell))).trans hcell
      clear hcell hu
      have HT1 := Lib.hid (putT_le_putTs hkt)
      have HT2 := Lib.hid (putTs_snoc hkt)
      have HT3 := Lib.hid (putTs_take_le l (k + 1))
      clear hkt
      go_wp2_with fail
      have ht1 := HT1.out
      refine (putText_any t _ (by omega) (H10.out.later HB.out)).mono ?_
      rintro e w3 ⟨rfl, hb⟩
      have HBd3 := Lib.hid (HBd.out.later hb)
      have HB3 := Lib.hid (HB.out.trans (hb.mono HB.out.size)); clear hb
      go_wp2_with fail
      refine (writeString_any _ _ _ _ _ HBd3.out (by have h2 := HT2.out; have h3 := HT3.out; rw [h2, List.length_append] at h3; rw [size_mk, List.length_append]; omega) HB3.out.size).mono ?_
      rintro e w4 ⟨rfl, hbd, hb⟩
      have HBd4 : Hid (Bdr w4 w.heap.size w.heap.size (A ++ putTs (l.take (k + 1)))) := by rw [HT2.out, ← List.append_assoc]; exact hbd
      have HB4 := Lib.hid (HB3.out.trans hb); clear hb hbd
      go_wp2_with fail
      go_roundw
      case rel => exact ⟨k + 1, by go_num, by omega, HBd4, HB4⟩
      case measure => simp [intOf] <;> omega
    · have hkt : k = l.length := by omega
      subst hkt
      have HBd' : Hid (Bdr wr w.heap.size w.heap.size (A ++ putTs l)) := Lib.hid (by simpa using HBd.out)
      go_wp2_with fail
      refine (Tryz.Builder_String_any_k _ _ _ _ (Lib.IsBuilderF.of HBd'.out) HB.out.size).mono ?_
      rintro e w7 ⟨rfl, _, hb7, _⟩
      have HB7 := Lib.hid (HB.out.trans hb7); clear hb7
      go_wp2_with fail
      go_returns
      exact ⟨by rw [HPL.out]; rfl, HB7.out⟩

end Go.Proofs.YtofllhipjaphfaaGreatDoor
