/- lines.Join, lines.Split of lines that were joined (chapter 24). -/
import Derived.Test.YtlcjjcmfpmflcaaGreatDoorDr4
import Derived.Test.YtlcjjcmfpmflcaaGreatDoorBuild
import Derived.Test.YtlcjjcmfpmflcaaGreatDoorSplt
set_option linter.unusedVariables false
set_option linter.unusedSimpArgs false
namespace Go.Proofs.YtlcjjcmfpmflcaaGreatDoor
open Go Go.Proofs Go.RowKit Go.Ink

set_option maxRecDepth 100000 in
set_option maxHeartbeats 1000000 in
theorem linesJoin_any (l : List (List UInt8)) (ao : Option Addr) (cap : Nat) (w : World) (hs : SlOf IsStr w ao cap l) (hN : (joinL l).length ≤ 1000000) :
    Calls Tryz.prog 18 #[.slice ao l.length cap] w fun e w' => e = .returned (.string ⟨(joinL l).toArray⟩) ∧ Below w.heap.size w w' := by
  have HS := Lib.hid hs
  have HBN := Lib.hid (bdr_new (w := w))
  have HBA := Lib.hid (show Below w.heap.size w (w.alloc (.cells #[.pointer none, .slice none 0 0] 111 (0, 0))) from (Below.refl _ _).alloc (Nat.le_refl _) _)
  have hc : l.length ≤ 9223372036854775807 := Nat.le_trans hs.1 hs.2.1
  clear hs
  go_enter Tryz.func18, Tryz.ntmps18
  go_wp2_with fail
  go_loopw [8] (fun i wr => ∃ k : Nat, i = .int .i64 (k : Int) ∧ k ≤ l.length ∧ Hid (Bdr wr w.heap.size w.heap.size (joinL (l.take k))) ∧ Hid (Below w.heap.size w wr)) (fun i _ => l.length - (intOf i).toNat)
  case atStart => exact ⟨0, rfl, by omega, HBN, HBA⟩
  case round =>
    obtain ⟨k, rfl, hk, HBd, HB⟩ := hrel
    by_cases hlt : k < l.length
    · obtain ⟨x, hkx⟩ : ∃ x, l[k]? = some x := ⟨_, List.getElem?_eq_getElem hlt⟩
      obtain ⟨g1, off1, u, hao1, hcell1, hu⟩ := (HS.out.later lasts_str HB.out).2.2.2 k x hkx
      have hu' : u = .string ⟨x.toArray⟩ := hu
      subst hu'
      subst hao1
      have HJ := Lib.hid (joinL_take hkx)
      have HL := Lib.hid (show (joinL (l.take k)).length + x.length + 1 ≤ 1000000 by
        have h1 : (joinL (l.take (k + 1))).length ≤ (joinL l).length := by
          have := congrArg (fun q => (joinL q).length) (List.take_append_drop (k + 1) l)
          simp only [joinL_append, List.length_append] at this
          omega
        rw [joinL_take hkx] at h1
        simp only [List.length_append, List.length_singleton] at h1
        omega)
      clear hu hkx
      generalize joinL (l.take k) = J at *
      go_wp2_with fail
      refine (writeString_any _ _ _ _ _ HBd.out (by have := HL.out; rw [size_mk]; omega) HB.out.size).mono ?_
      rintro e w1 ⟨rfl, hbd, hb⟩
      have HBd1 := Lib.hid hbd
      have HB1 := Lib.hid (HB.out.trans hb)
      clear hbd hb HBd HB
      go_wp2_with fail
      refine (writeString_any _ _ _ _ _ HBd1.out (by have := HL.out; simp only [List.length_append]; show _ + 1 ≤ _; omega) HB1.out.size).mono ?_
      rintro e w2 ⟨rfl, hbd, hb⟩
      have HBd2 : Hid (Bdr w2 w.heap.size w.heap.size (joinL (l.take (k + 1)))) := Lib.hid (by rw [HJ.out]; exact hbd)
      have HB2 := Lib.hid (HB1.out.trans hb)
      clear hbd hb HBd1 HB1
      go_wp2_with fail
      go_roundw
      case rel => exact ⟨k + 1, by go_num, by omega, HBd2, HB2⟩
      case measure => simp [intOf]; omega
    · have hkt : k = l.length := by omega
      subst hkt
      rw [List.take_length] at HBd
      obtain ⟨J, hJ⟩ : ∃ J, joinL l = J := ⟨_, rfl⟩
      rw [hJ] at HBd
      have HJ := Lib.hid hJ
      clear hJ
      go_wp2_with fail
      refine (Tryz.Builder_String_any_k _ _ _ _ (Lib.IsBuilderF.of HBd.out) HB.out.size).mono ?_
      rintro e w7 ⟨rfl, _, hb7, _⟩
      have HB7 := Lib.hid (HB.out.trans hb7); clear hb7
      go_wp2_with fail
      go_returns
      exact ⟨by rw [HJ.out]; rfl, HB7.out⟩
theorem splitJoin_any (l : List (List UInt8)) (w : World) (hN : (joinL l).length ≤ 1000000) (hl : ∀ x ∈ l, (10 : UInt8) ∉ x) :
    Calls Tryz.prog 148 #[.string ⟨(joinL l).toArray⟩] w fun e w' => ∃ v b, e = .returned (.tuple #[v, .bool b]) ∧ OwnStrs w' w.heap.size v l ∧ Below w.heap.size w w' := by
  refine (split_any (joinL l) w (by omega)).mono ?_
  rintro e w' ⟨v, rfl, ho, _, hb⟩
  rw [linesA_join l hl] at ho
  refine ⟨v, _, rfl, ?_, hb⟩
  have h1 : (l.map fun x => (x, true)).length = l.length := by simp
  have h2 : rowVs (l.map fun x => (x, true)) = strVs l := by simp [rowVs, strVs, Function.comp_def]
  rw [h1, h2] at ho
  exact ho
end Go.Proofs.YtlcjjcmfpmflcaaGreatDoor
