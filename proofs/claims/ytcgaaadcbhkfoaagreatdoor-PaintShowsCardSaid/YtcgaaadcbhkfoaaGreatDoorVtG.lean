/- The walk of numbers: an escape's parameters. -/
import Derived.Test.YtcgaaadcbhkfoaaGreatDoorVtF
import Derived.Test.YtcgaaadcbhkfoaaGreatDoorVt6
import Derived.Test.YtcgaaadcbhkfoaaGreatDoorShelf
import Derived.Shelf.Strings.SlTrimAscii
import Derived.Lib.SplitLaws
import Derived.Lib.SmallJoins
namespace Go.Proofs.YtcgaaadcbhkfoaaGreatDoor
open Go Go.Proofs Go.RowKit Go.Ink Go.Shelf

/-- bytealg's variable holds some number. -/
def MaxAt (w : World) : Prop := ∃ m, w.cell? ⟨0, 0, none⟩ = some (.int .i64 m)
theorem MaxAt.later {w w' : World} (h : MaxAt w) (hb : Below w.heap.size w w') : MaxAt w' := by
  obtain ⟨m, h⟩ := h
  exact ⟨m, (hb.cell (p := ⟨_, 0, none⟩) (lt_of_cell h)).trans h⟩
theorem ba_mk (x : ByteArray) : x = ⟨x.data.toList.toArray⟩ := by cases x; simp
theorem split_cells (s : List UInt8) : (Lib.splitB ⟨#[59]⟩ 0 (Lib.countB ⟨s.toArray⟩ ⟨#[59]⟩) ⟨s.toArray⟩).map Value.string = (segs s).map fun l => .string ⟨l.toArray⟩ := by
  have h := Lib.splitB_data ⟨#[59]⟩ 0 (Lib.countB ⟨s.toArray⟩ ⟨#[59]⟩) ⟨s.toArray⟩
  have e : Lib.splitK [59] 0 (Lib.countB ⟨s.toArray⟩ ⟨#[59]⟩) s = segs s := by rw [← split_segs s]; rfl
  have h' : (Lib.splitB ⟨#[59]⟩ 0 (Lib.countB ⟨s.toArray⟩ ⟨#[59]⟩) ⟨s.toArray⟩).map (·.data.toList) = segs s := h.trans e
  rw [← h', List.map_map]
  refine List.map_congr_left fun x _ => ?_
  simp only [Function.comp]
theorem split_len (s : List UInt8) : Lib.countB ⟨s.toArray⟩ ⟨#[59]⟩ + 1 = (segs s).length := by
  have h := congrArg List.length (split_cells s)
  rw [List.length_map, List.length_map, Lib.splitB_all ⟨#[59]⟩ (by decide) 0 _ _ rfl] at h
  exact h
theorem split_any (s : List UInt8) (w : World) (hs : s.length < 4294967281) (hm : MaxAt w) :
    Calls Tryz.prog 52 #[.string ⟨s.toArray⟩, .string ⟨#[59]⟩] w fun e w' => e = .returned (.slice (some ⟨w.heap.size, 0, none⟩) (segs s).length (segs s).length) ∧ w' = w.alloc (.cells ((segs s).map fun l => Value.string ⟨l.toArray⟩).toArray 9) := by
  obtain ⟨m, hm⟩ := hm
  have h := Tryz.strings_Split ⟨s.toArray⟩ ⟨#[59]⟩ m w (by simpa using hs) hm (by decide)
  rw [split_len, split_cells] at h
  exact h
theorem trimDigits_any (d : List UInt8) (w : World) :
    Calls Tryz.prog 53 #[.string ⟨d.toArray⟩, .string ⟨#[48, 49, 50, 51, 52, 53, 54, 55, 56, 57]⟩] w fun e w' => e = .returned (.string ⟨(Lib.trimLeftS d tenD).toArray⟩) ∧ Below w.heap.size w w' := by
  have h := Any.strings_TrimLeft_laid Tryz.lays161 (by kernel_rfl) ⟨d.toArray⟩ ⟨#[48, 49, 50, 51, 52, 53, 54, 55, 56, 57]⟩ w (by decide) (by
    intro j b hj
    have hb : b ∈ tenD := List.mem_of_getElem? hj
    have := digB_iff.1 ((tenD_iff b).symm.trans (by simpa using hb))
    omega)
  have e : (⟨#[48, 49, 50, 51, 52, 53, 54, 55, 56, 57]⟩ : ByteArray).data.toList = tenD := rfl
  have e2 : (⟨d.toArray⟩ : ByteArray).data.toList = d := by simp
  rw [e, e2] at h
  exact h
theorem trimZero_any (d : List UInt8) (w : World) :
    Calls Tryz.prog 53 #[.string ⟨d.toArray⟩, .string ⟨#[48]⟩] w fun e w' => e = .returned (.string ⟨(noZero d).toArray⟩) ∧ Below w.heap.size w w' := by
  have h := Any.strings_TrimLeft_laid Tryz.lays161 (by kernel_rfl) ⟨d.toArray⟩ ⟨#[48]⟩ w (by decide) (by
    intro j b hj
    have hb : b = 48 := by simpa using List.mem_of_getElem? hj
    subst hb; decide)
  have e : (⟨#[48]⟩ : ByteArray).data.toList = [48] := rfl
  rw [e] at h
  have e2 : (⟨d.toArray⟩ : ByteArray).data.toList = d := by simp
  rw [e2, trim_zeros] at h
  exact h
theorem atoi5_any (d : List UInt8) (w : World) (h : d.all digB = true) (hl : d.length ≤ 5) :
    Calls Tryz.prog 54 #[.string ⟨(48 :: d).toArray⟩] w fun e w' => e = .returned (.tuple #[.int .i64 (valD d 0 : Int), .nilIface]) ∧ Below w.heap.size w w' := by
  refine (Tryz.strconv_Atoi_ok ⟨(48 :: d).toArray⟩ (by simp; omega) (valD d 0 : Int) (by simpa using atoi_val d h hl) w).mono ?_
  rintro e w' ⟨he, rfl | ⟨t, rfl⟩⟩
  · exact ⟨he, Below.refl _ _⟩
  · exact ⟨he, Joins.below_bytesWorld _ w _ t (Nat.le_refl _)⟩
/-- What numbers answers. -/
structure NumsPost (w : World) (r : Option (List Int)) (e : Ending) (w' : World) : Prop where
  below : Below w.heap.size w w'
  no : r = none → e = .returned (.tuple #[.slice none 0 0, .bool false])
  yes : ∀ l, r = some l → ∃ g cp, e = .returned (.tuple #[.slice (some ⟨g, 0, none⟩) l.length cp, .bool true]) ∧ w'.ownsRow w.heap.size 3 1 (.slice (some ⟨g, 0, none⟩) l.length cp) l.length (intVs l)
theorem seg_in {d : List UInt8} : -1 ≤ segV d ∧ segV d ≤ 9999 := by
  unfold segV
  split
  · exact ⟨by omega, by omega⟩
  · exact ⟨by omega, by omega⟩
theorem nums_step {ps : List (List UInt8)} {k : Nat} {d : List UInt8} (hd : ps[k]? = some d) : intVs ((ps.take (k + 1)).map segV) = intVs ((ps.take k).map segV) ++ [.int .i64 (segV d)] := by
  rw [List.take_add_one, hd]; simp [intVs]
theorem nums_all {ps : List (List UInt8)} {k : Nat} {d : List UInt8} (hd : ps[k]? = some d) (h : (ps.take k).all (fun d => d.all digB) = true) (h2 : d.all digB = true) : (ps.take (k + 1)).all (fun d => d.all digB) = true := by
  rw [List.take_add_one, hd, List.all_append, h]; simp [h2]
theorem valD_five (d : List UInt8) (h : d.all digB = true) : valD ((noZero d).take 5) 0 ≤ 99999 := by
  have h5 : ((noZero d).take 5).all digB = true := by
    rw [List.all_eq_true] at *
    intro x hx
    exact (List.all_eq_true.1 (noZero_all (List.all_eq_true.2 h))) x (List.mem_of_mem_take hx)
  have h1 := valD_lt ((noZero d).take 5) 0 h5
  have h2 : ((noZero d).take 5).length ≤ 5 := by rw [List.length_take]; omega
  have h3 := Nat.pow_le_pow_right (show 0 < 10 by decide) h2
  omega

set_option maxRecDepth 100000 in
set_option maxHeartbeats 1000000 in
theorem numbers_any (s : List UInt8) (w : World) (hs : s.length ≤ 1000000) (hm : MaxAt w) :
    Calls Tryz.prog 47 #[.string ⟨s.toArray⟩] w (NumsPost w (numsP s)) := by
  obtain ⟨i0, hi, hz0, hz1, hz2⟩ := info_parts int_info
  have HSP := Lib.hid (split_any s w (by omega) hm)
  have hsl : (segs s).length ≤ s.length + 1 := by
    rw [← split_len]
    have := Lib.countB_le ⟨#[59]⟩ (by decide) _ ⟨s.toArray⟩ (Nat.le_refl _)
    rw [size_mk] at this
    omega
  have HNE := Lib.hid (segs_ne s)
  obtain ⟨ps, hps⟩ : ∃ ps, segs s = ps := ⟨_, rfl⟩
  have HR : Hid (numsP s = if ps.all (fun d => d.all digB) then some (ps.map segV) else none) := Lib.hid (by unfold numsP; rw [hps])
  rw [hps] at HSP hsl HNE
  clear hps hm
  generalize numsP s = r at *
  go_enter Tryz.func47, Tryz.ntmps47
  go_wp2_with fail
  refine HSP.out.mono ?_
  rintro e w1 ⟨rfl, hw1⟩
  have hp1 : w1.heap[w.heap.size]? = some (.cells (ps.map fun l => Value.string ⟨l.toArray⟩).toArray 9 (0, 0)) := by rw [hw1]; exact heap_alloc_new w _
  have hb1 : Below w.heap.size w w1 := by rw [hw1]; exact (Below.refl _ _).alloc (Nat.le_refl _) _
  have hz1' : w1.heap.size = w.heap.size + 1 := by rw [hw1]; simp
  have HP1 := Lib.hid hp1
  have HB1 := Lib.hid hb1
  have HZ1 := Lib.hid hz1'
  clear hw1 hp1 hb1 hz1' HSP
  go_wp2_with fail
  go_loopw [4, 12] (fun v i wr => ∃ k : Nat, i = .int .i64 k ∧ k ≤ ps.length ∧ Hid ((ps.take k).all (fun d => d.all digB) = true) ∧ Hid (wr.ownsRow w1.heap.size 3 1 v k (intVs ((ps.take k).map segV))) ∧ Hid (Below w1.heap.size w1 wr)) (fun _ i _ => ps.length - (intOf i).toNat)
  case atStart => exact ⟨0, rfl, by omega, Lib.hid (by simp), Lib.hid (by simpa [intVs] using World.ownsRow_nil _ _ _ _), Lib.hid (Below.refl _ _)⟩
  case round =>
    obtain ⟨k, rfl, hk, HA, HO, HB⟩ := hrel
    by_cases hlt : k < ps.length
    · obtain ⟨d, hd⟩ : ∃ d, ps[k]? = some d := ⟨_, List.getElem?_eq_getElem hlt⟩
      have hcell : wr.cell? ⟨w.heap.size, k, none⟩ = some (.string ⟨d.toArray⟩) := by
        rw [Lib.cell_of_heap ((HB.out.block _ (by have := HZ1.out; omega)).trans HP1.out)]
        simp [hd]
      have HD := Lib.hid hd
      have HZ := HB.out.size
      have hz9 : w.heap.size + 1 ≤ wr.heap.size := by have := HZ1.out; omega
      by_cases hall : d.all digB = true
      · have HALL := Lib.hid (nums_all hd HA.out hall)
        have HST := Lib.hid (nums_step hd)
        have ht : Lib.trimLeftS d tenD = [] := (trim_digits d).2 hall
        have HT := Lib.hid (trimDigits_any d wr)
        rw [ht] at HT
        have hv5 := valD_five d hall
        have hd5 : ((noZero d).take 5).all digB = true := by
          rw [List.all_eq_true] at *
          intro x hx
          exact (List.all_eq_true.1 (noZero_all (List.all_eq_true.2 hall))) x (List.mem_of_mem_take hx)
        have HAT := Lib.hid (fun W => atoi5_any ((noZero d).take 5) W hd5 (by rw [List.length_take]; omega))
        clear hall ht hd5 hd
        rcases d with _ | ⟨c, d'⟩
        · go_wp2_with fail
          refine HT.out.mono ?_
          rintro e w2 ⟨rfl, hb2⟩
          have HB2 := Lib.hid (HB.out.trans (hb2.mono HZ))
          have HO2 := Lib.hid (ownsRow_below HO.out hb2)
          have hz2w := hb2.size
          clear hb2
          go_wp2_with (at_builtin; refine wpList_append_own _ rfl _ _ 80 rfl w1.heap.size 3 i0 (.int .i64 0) 1 8 Tryz.underlying80 hi hz0 hz1 hz2 rfl (by decide) _ _ _ rfl (HO2.out.alloc _) ⟨w2.heap.size, 0, none⟩ 1 1 [.int .i64 (-1)] rfl rfl (news_one _ _ _) (news_ok rfl) (by unfold maxLen; omega) (by omega) (by simp; omega) ?_)
          intro v' w3 hown' hgrow _
          have HO3 : Hid (w3.ownsRow w1.heap.size 3 1 v' (k + 1) (intVs ((ps.take (k + 1)).map segV))) := Lib.hid (by rw [HST.out, List.map_take]; exact hown')
          have HB3 : Hid (Below w1.heap.size w1 w3) := Lib.hid ((HB2.out.alloc HB2.out.size _).grown hgrow (by simp; omega) (fun j hj => (HO2.out.lt j hj).1))
          clear hown' hgrow
          go_wp2_with fail
          go_roundw
          case rel => exact ⟨k + 1, by go_num, by omega, HALL, HO3, HB3⟩
          case measure => simp [intOf]; omega
        · have HSV : Hid (segV (c :: d') = min (valD ((noZero (c :: d')).take 5) 0 : Int) 9999) := Lib.hid (by unfold segV; rw [if_neg (by simp)])
          have HTZ := Lib.hid (fun W => trimZero_any (c :: d') W)
          have HX : Hid ((⟨#[48]⟩ : ByteArray) ++ (⟨(noZero (c :: d')).toArray⟩ : ByteArray).extract 0 (min (((noZero (c :: d')).length : Nat) : Int) 5).toNat = ⟨(48 :: (noZero (c :: d')).take 5).toArray⟩) := Lib.hid (by
            apply ByteArray.ext
            rw [show (min (((noZero (c :: d')).length : Nat) : Int) 5).toNat = min 5 (noZero (c :: d')).length by omega]
            simp [ByteArray.data_extract])
          generalize noZero (c :: d') = z at *
          generalize valD (z.take 5) 0 = x at *
          go_wp2_with fail
          refine HT.out.mono ?_
          rintro e w2 ⟨rfl, hb2⟩
          have HB2 := Lib.hid (HB.out.trans (hb2.mono HZ))
          have HO2 := Lib.hid (ownsRow_below HO.out hb2)
          have hz2w := hb2.size
          clear hb2
          go_wp2_with fail
          refine (HTZ.out _).mono ?_
          rintro e w3 ⟨rfl, hb3⟩
          have HB3 := Lib.hid (HB2.out.trans (hb3.mono HB2.out.size))
          have HO3 := Lib.hid (ownsRow_below HO2.out hb3)
          have hz3w := hb3.size
          clear hb3
          go_wp2_with fail
          rw [HX.out]
          refine (HAT.out _).mono ?_
          rintro e w4 ⟨rfl, hb4⟩
          have HB4 := Lib.hid (HB3.out.trans (hb4.mono HB3.out.size))
          have HO4 := Lib.hid (ownsRow_below HO3.out hb4)
          have hz4w := hb4.size
          clear hb4
          go_wp2_with (at_builtin; refine wpList_append_own _ rfl _ _ 80 rfl w1.heap.size 3 i0 (.int .i64 0) 1 8 Tryz.underlying80 hi hz0 hz1 hz2 rfl (by decide) _ _ _ rfl (HO4.out.alloc _) ⟨w4.heap.size, 0, none⟩ 1 1 [.int .i64 (min (x : Int) 9999)] rfl rfl (news_one _ _ _) (news_ok rfl) (by unfold maxLen; omega) (by omega) (by simp; omega) ?_)
          intro v' w5 hown' hgrow _
          have HO5 : Hid (w5.ownsRow w1.heap.size 3 1 v' (k + 1) (intVs ((ps.take (k + 1)).map segV))) := Lib.hid (by rw [HST.out, List.map_take, HSV.out]; exact hown')
          have HB5 : Hid (Below w1.heap.size w1 w5) := Lib.hid ((HB4.out.alloc HB4.out.size _).grown hgrow (by simp; omega) (fun j hj => (HO4.out.lt j hj).1))
          clear hown' hgrow
          go_wp2_with fail
          go_roundw
          case rel => exact ⟨k + 1, by go_num, by omega, HALL, HO5, HB5⟩
          case measure => simp [intOf]; omega
      · obtain ⟨c, r', hcr⟩ : ∃ c r', Lib.trimLeftS d tenD = c :: r' := by
          cases h : Lib.trimLeftS d tenD with
          | nil => exact absurd ((trim_digits d).1 h) hall
          | cons c r' => exact ⟨c, r', rfl⟩
        have HT := Lib.hid (trimDigits_any d wr)
        rw [hcr] at HT
        have HNO : Hid (r = none) := Lib.hid (by
          rw [HR.out, if_neg]
          intro h
          exact hall ((List.all_eq_true.1 h) d (List.mem_of_getElem? hd)))
        clear hcr hall hd
        go_wp2_with fail
        refine HT.out.mono ?_
        rintro e w2 ⟨rfl, hb2⟩
        have HF : Hid (Below w.heap.size w w2) := Lib.hid (HB1.out.trans ((HB.out.trans (hb2.mono HZ)).mono (by have := HZ1.out; omega)))
        clear hb2
        go_wp2_with fail
        go_returns
        exact ⟨HF.out, fun _ => rfl, (fun l h => by rw [HNO.out] at h; cases h)⟩
    · obtain rfl : k = ps.length := by omega
      have hall := HA.out
      have hown := HO.out
      rw [List.take_length] at hall hown
      have HF : Hid (Below w.heap.size w wr) := Lib.hid (HB1.out.trans (HB.out.mono (by have := HZ1.out; omega)))
      have HY : Hid (r = some (ps.map segV)) := Lib.hid (by rw [HR.out, if_pos hall])
      have hown2 := ownsRow_base hown (show w.heap.size ≤ w1.heap.size by have := HZ1.out; omega)
      obtain ⟨ao, cp, rfl⟩ := ownsRow_shape hown
      have hpos : ps.length ≠ 0 := fun e => HNE.out (List.eq_nil_of_length_eq_zero e)
      obtain ⟨g, rfl⟩ : ∃ g, ao = some ⟨g, 0, none⟩ := by
        rcases hown.2 with ⟨_, h2⟩ | ⟨g', c', cu, h1, _⟩
        · exact absurd h2 hpos
        · injection h1 with h1; exact ⟨g', h1⟩
      have HOW := Lib.hid hown2
      clear hall hown hown2
      go_wp2_with fail
      go_returns
      refine ⟨HF.out, (fun h => by rw [HY.out] at h; cases h), fun l h => ?_⟩
      rw [HY.out] at h
      injection h with h
      subst h
      rw [List.length_map]
      exact ⟨g, cp, rfl, HOW.out⟩
end Go.Proofs.YtcgaaadcbhkfoaaGreatDoor
