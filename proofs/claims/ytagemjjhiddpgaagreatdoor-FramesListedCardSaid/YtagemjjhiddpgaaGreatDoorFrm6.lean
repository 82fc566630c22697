/- The walks of frames.Frame and Whole. -/
import Derived.Test.YtagemjjhiddpgaaGreatDoorFrm5
import Derived.Test.YtagemjjhiddpgaaGreatDoorLaw0
namespace Go.Proofs.YtagemjjhiddpgaaGreatDoor
open Go Go.Proofs Go.RowKit Go.Ink Go.Sort

theorem tabOf {w : World} (h : EnvF w) : Tab10 w := h.e.h10
theorem frame_any (p : List UInt8) (w : World) (hp : p.length ≤ 4194304) (he : EnvF w) :
    Calls Tryz.prog 6 #[.string ⟨p.toArray⟩] w fun e w' => e = .returned (.tuple #[.string ⟨(frameB p).toArray⟩, .int .i64 0]) ∧ Below w.heap.size w w' := by
  have HE := Lib.hid he; clear he
  have HP := Lib.hid (fun w ht => putText_any p w (by omega) ht)
  have HS := Lib.hid (fun w => sum_any p w (by omega))
  have HX := Lib.hid (fun w => hex_any (sumN p) w (sumN_lt p))
  have HF := Lib.hid (show frameB p = putT p ++ (hex8 (sumN p) ++ [10]) from rfl)
  have hl := putN_le (p.length : Int) (by omega)
  have hpt : (putT p).length = (putN p.length).length + p.length := by unfold putT; rw [List.length_append]
  have hl8 : (hex8 (sumN p)).length = 8 := rfl
  rw [HF.out]
  generalize sumN p = n at *
  generalize hex8 n = x at *
  have ha : (putT p).length ≤ 5000000 := by omega
  clear hl hpt HF
  generalize putT p = t at *
  have HL8 := Lib.hid hl8
  have hc1 : ¬ 9223372036854775807 < t.length + x.length := by omega
  have hc2 : ¬ 9223372036854775807 < t.length + x.length + 1 := by omega
  clear hl8
  go_enter Tryz.func6, Tryz.ntmps6
  go_wp2_with fail
  refine (HP.out _ (tabOf HE.out)).mono ?_
  rintro e w1 ⟨rfl, hb1⟩
  have HB1 := Lib.hid hb1; clear hb1
  go_wp2_with fail
  refine (HS.out _).mono ?_
  rintro e w2 ⟨rfl, hb2⟩
  have HB2 := Lib.hid (step2 HB1.out hb2); clear hb2
  go_wp2_with fail
  refine (HX.out _).mono ?_
  rintro e w3 ⟨rfl, hb3⟩
  have HB3 := Lib.hid (step2 HB2.out hb3); clear hb3
  go_wp2_with fail
  go_returns
  have e : (⟨t.toArray⟩ : ByteArray) ++ ⟨x.toArray⟩ ++ ⟨#[10]⟩ = ⟨(t ++ (x ++ [10])).toArray⟩ := by apply ByteArray.ext; simp
  exact ⟨by rw [← e]; rfl, HB3.out⟩

/-- A place's frame, in parts. -/
def nP (o : Option (List UInt8 × Int)) : List UInt8 := (o.map (·.1)).getD []
def nJ (o : Option (List UInt8 × Int)) : Int := (o.map (·.2)).getD 0
theorem getTV_eq (o : Option (List UInt8 × Int)) : getTV o = .tuple #[.string ⟨(nP o).toArray⟩, .int .i64 (nJ o), .bool o.isSome] := by
  cases o with
  | none => rfl
  | some x => rfl
/-- The answer of Whole. -/
def WholePost (s : List UInt8) (w : World) (e : Ending) (w' : World) : Prop := ∃ v, e = .returned (.tuple #[v, .int .i64 (wholeS s).2]) ∧ OwnStrs w' w.heap.size v (wholeS s).1 ∧ Below w.heap.size w w'
set_option maxRecDepth 100000 in
set_option maxHeartbeats 1000000 in
theorem whole_any (s : List UInt8) (w : World) (hs : s.length ≤ 4194304) (he : EnvF w) : Calls Tryz.prog 10 #[.string ⟨s.toArray⟩] w (WholePost s w) := by
  have HE := Lib.hid he; clear he
  have HN := Lib.hid (fun i w he => by have := next_any s i w hs he; rw [getTV_eq] at this; exact this)
  obtain ⟨i0, hi, hz0, hz1, hz2⟩ := info_parts str_info
  go_enter Tryz.func10, Tryz.ntmps10
  go_wp2_with fail
  refine (HN.out 0 _ HE.out).mono ?_
  rintro e w1 ⟨rfl, hb1⟩
  have HB1 := Lib.hid hb1; clear hb1
  have H0 := Lib.hid (show wholeS s = ([] ++ (wholeR s 0).1, (wholeR s 0).2) by simp [wholeS])
  go_wp2_with fail
  go_loopw [2, 3, 4, 5, 6] (fun v en pv jv ov wr => ∃ (acc : List (List UInt8)) (i : Nat), en = .int .i64 (i : Int) ∧ i ≤ s.length ∧ acc.length ≤ i ∧ pv = .string ⟨(nP (nextS s i)).toArray⟩ ∧ jv = .int .i64 (nJ (nextS s i)) ∧ ov = .bool (nextS s i).isSome ∧
    Hid (wholeS s = (acc ++ (wholeR s i).1, (wholeR s i).2)) ∧ Hid (OwnStrs wr w.heap.size v acc) ∧ Hid (Below w.heap.size w wr)) (fun _ en _ _ _ _ => s.length + 1 - (intOf en).toNat)
  case atStart => exact ⟨[], 0, rfl, by omega, by simp, rfl, rfl, rfl, H0, Lib.hid (OwnStrs.nil _ _), HB1⟩
  case round =>
    obtain ⟨acc, i, rfl, his, hai, rfl, rfl, rfl, HW, HO, HB⟩ := hrel
    cases hn : nextS s (i : Int) with
    | none =>
      have hR := wholeR_eq (s := s) (by omega) (i : Int) (by omega)
      rw [hn] at hR
      have HF := Lib.hid (show wholeS s = (acc, (i : Int)) by rw [HW.out, hR]; simp)
      clear hR hn
      simp only [nP, nJ, Option.map_none, Option.getD_none, Option.isSome_none]
      go_wp2_with fail
      go_returns
      unfold WholePost
      rw [HF.out]
      exact ⟨_, rfl, HO.out, HB.out⟩
    | some x =>
      obtain ⟨p, j⟩ := x
      have hin := nextS_in (by omega) hn
      obtain ⟨k, rfl⟩ := Int.eq_ofNat_of_zero_le (show 0 ≤ j by omega)
      have hR := wholeR_eq (s := s) (by omega) (i : Int) (by omega)
      rw [hn] at hR
      have HF := Lib.hid (show wholeS s = ((acc ++ [p]) ++ (wholeR s k).1, (wholeR s k).2) by rw [HW.out, hR]; simp)
      have hk1 : i + 11 ≤ k := by omega
      have hk2 : k ≤ s.length := by omega
      clear hR hn hin
      simp only [nP, nJ, Option.map_some, Option.getD_some, Option.isSome_some]
      go_wp2_with (at_builtin; refine wpList_append_own _ rfl _ _ 29 rfl w.heap.size 9 i0 (.string ⟨#[]⟩) 1 16 Tryz.underlying29 hi hz0 hz1 hz2 rfl (by decide) _ _ _ rfl (HO.out.alloc _) ⟨wr.heap.size, 0, none⟩ 1 1 [.string ⟨p.toArray⟩] rfl rfl ?c1 ?c2 ?c3 ?c4 ?c5 ?_)
      case c1 => exact cell_one_new _ _ _
      case c2 => intro u hu; simp at hu; subst hu; rfl
      case c3 => unfold maxLen; omega
      case c4 => omega
      case c5 => have := HB.out.size; simp; omega
      intro v' w3 hown' hgrow _
      have HO3 : Hid (OwnStrs w3 w.heap.size v' (acc ++ [p])) := Lib.hid (by simpa [OwnStrs, strVs] using hown')
      have HB3 : Hid (Below w.heap.size w w3) := Lib.hid ((HB.out.alloc HB.out.size _).grown hgrow (by have := HB.out.size; simp; omega) (fun k hk => (HO.out.lt k hk).1))
      clear hown' hgrow
      go_wp2_with fail
      refine (HN.out (k : Int) _ (HE.out.later HB3.out)).mono ?_
      rintro e w4 ⟨rfl, hb4⟩
      have HO4 := Lib.hid (HO3.out.later hb4)
      have HB4 := Lib.hid (step2 HB3.out hb4); clear hb4
      go_wp2_with fail
      go_roundw
      case rel => exact ⟨acc ++ [p], k, rfl, hk2, by rw [List.length_append, List.length_singleton]; omega, rfl, rfl, rfl, HF, HO4, HB4⟩
      case measure => simp [intOf]; omega
end Go.Proofs.YtagemjjhiddpgaaGreatDoor
