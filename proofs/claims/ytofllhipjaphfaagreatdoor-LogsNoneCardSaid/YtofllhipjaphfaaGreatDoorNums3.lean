/- The walks of nums.digits and nums.Get. -/
import Derived.Test.YtofllhipjaphfaaGreatDoorNums2
import Derived.Test.YtofllhipjaphfaaGreatDoorErrIs
import Derived.Lib.IndexBytes
import Derived.Lib.SmallJoins
namespace Go.Proofs.YtofllhipjaphfaaGreatDoor
open Go Go.Proofs Go.RowKit Go.Ink

/-- What the number texts' calls ask of a world: strconv's table and its two errors, and that bytealg's variable holds some number. -/
structure Env (w : World) : Prop where
  h10 : Tab10 w
  max : ∃ m, w.cell? ⟨3, 0, none⟩ = some (.int .i64 m)
  err : ∃ (a b : Addr) (ca cb : Array Value) (ta tb : TypeId), w.cell? ⟨1, 0, none⟩ = some (.iface 226 (.pointer (some a))) ∧ w.cell? ⟨2, 0, none⟩ = some (.iface 226 (.pointer (some b))) ∧
    a ≠ b ∧ w.heap[a.block]? = some (.cells ca ta (0, 0)) ∧ w.heap[b.block]? = some (.cells cb tb (0, 0))
theorem Env.later {w w' : World} (h : Env w) (hb : Below w.heap.size w w') : Env w' := by
  obtain ⟨h1, ⟨m, h2⟩, a, b, ca, cb, ta, tb, h3, h4, h5, h6, h7⟩ := h
  exact ⟨h1.later hb, ⟨m, (hb.cell (p := ⟨_, 0, none⟩) (lt_of_cell h2)).trans h2⟩, a, b, ca, cb, ta, tb, (hb.cell (p := ⟨_, 0, none⟩) (lt_of_cell h3)).trans h3, (hb.cell (p := ⟨_, 0, none⟩) (lt_of_cell h4)).trans h4, h5,
    (hb.block _ (lt_of_heap h6)).trans h6, (hb.block _ (lt_of_heap h7)).trans h7⟩

theorem indexByte_colon : ∀ l : List UInt8, (58 ∈ l → Lib.indexByte l 58 = ((l.takeWhile (· != 58)).length : Int)) ∧ (58 ∉ l → Lib.indexByte l 58 = -1)
  | [] => by simp [Lib.indexByte]
  | c :: l => by
    obtain ⟨h1, h2⟩ := indexByte_colon l
    by_cases hc : c = 58
    · subst hc; simp [Lib.indexByte]
    · have hc' : ¬ (58 : UInt8) = c := fun e => hc e.symm
      constructor
      · intro h
        rw [List.mem_cons] at h
        have h := h.resolve_left hc'
        have := h1 h
        simp [Lib.indexByte, hc, this]
      · intro h
        rw [List.mem_cons, not_or] at h
        have := h2 h.2
        simp [Lib.indexByte, hc, this]

theorem cut_digits (s : List UInt8) : (Lib.cut (s.take 20) [58]).1 = (digits s).getD (s.take 20) ∧ (Lib.cut (s.take 20) [58]).2.2 = (digits s).isSome := by
  obtain ⟨h1, h2⟩ := indexByte_colon (s.take 20)
  unfold Lib.cut digits
  rw [Lib.index_one]
  by_cases h : (58 : UInt8) ∈ s.take 20
  · obtain ⟨r, hr⟩ := takeWhile_split _ h
    rw [if_pos (by rw [h1 h]; omega), if_pos h, h1 h]
    refine ⟨?_, rfl⟩
    simp only [Int.toNat_natCast, Option.getD_some]
    generalize List.takeWhile (fun x => x != 58) (List.take 20 s) = d at *
    rw [hr]
    exact List.take_left
  · rw [if_neg (by rw [h2 h]; omega), if_neg h]
    exact ⟨rfl, rfl⟩

theorem digits_any (s : List UInt8) (w : World) (hs : s.length ≤ maxLen) (he : Env w) :
    Calls Tryz.prog 103 #[.string ⟨s.toArray⟩] w fun e w' => e = .returned (.tuple #[.string ⟨((digits s).getD (s.take 20)).toArray⟩, .bool (digits s).isSome]) ∧ ∃ n, w' = w.drewN n := by
  obtain ⟨m, hm⟩ := he.max
  have HM := Lib.hid hm
  have HC := Lib.hid (cut_digits s)
  clear he hm
  unfold maxLen at hs
  have HX := Lib.hid (show (⟨s.toArray⟩ : ByteArray).extract 0 (min (s.length : Int) 20).toNat = ⟨(s.take 20).toArray⟩ by
    apply ByteArray.ext
    rw [show (min (s.length : Int) 20).toNat = min 20 s.length by omega]
    simp [ByteArray.data_extract])
  go_enter Tryz.func103, Tryz.ntmps103
  go_wp2_with fail
  rw [HX.out]
  refine (Tryz.strings_Cut ⟨(s.take 20).toArray⟩ ⟨#[58]⟩ m _ (by rw [size_mk]; rw [List.length_take]; omega) HM.out).mono ?_
  rintro e w1 ⟨rfl, n, rfl⟩
  go_wp2_with fail
  go_ret2
  exact ⟨by rw [← HC.out.1, ← HC.out.2]; rfl, n, rfl⟩

/-- The number and the place behind it, as Get hands them back. -/
def getV : Option (Int × Int) → Value
  | none => .tuple #[.int .i64 0, .int .i64 0, .bool false]
  | some (n, j) => .tuple #[.int .i64 n, .int .i64 j, .bool true]

theorem getN_syntax {r : List UInt8} (h : Lib.atoiAll ((digits r).getD (r.take 20)) = .«syntax») : getN r = none := by
  unfold getN
  cases hd : digits r with
  | none => rfl
  | some d => rw [hd] at h; simp only [Option.getD_some] at h; simp only [h]
theorem getN_range {r : List UInt8} (h : Lib.atoiAll ((digits r).getD (r.take 20)) = .range) : getN r = none := by
  unfold getN
  cases hd : digits r with
  | none => rfl
  | some d => rw [hd] at h; simp only [Option.getD_some] at h; simp only [h]
theorem getN_ok {r d : List UInt8} {v : Int} (hd : digits r = some d) (h : Lib.atoiAll d = .ok v) : getN r = if v < 0 ∨ Lib.itoa v ≠ d then none else some v := by
  unfold getN
  rw [hd]; simp only [h]
theorem digits_len {r : List UInt8} : ((digits r).getD (r.take 20)).length ≤ 20 := by
  unfold digits
  split
  · have := (List.takeWhile_sublist (fun x : UInt8 => x != 58) (l := r.take 20)).length_le
    rw [List.length_take] at this
    simp only [Option.getD_some]; omega
  · simp only [Option.getD_none, List.length_take]; omega
theorem atoi_below {w w' : World} (h : w' = w ∨ ∃ t, w' = Lib.bytesWorld w 5 t) : Below w.heap.size w w' := by
  rcases h with rfl | ⟨t, rfl⟩
  · exact Below.refl _ _
  · exact Joins.below_bytesWorld _ _ _ _ (Nat.le_refl _)

set_option maxHeartbeats 1000000 in
theorem get_in (s : List UInt8) (i : Nat) (w : World) (hs : s.length ≤ maxLen) (he : Env w) (hi : i ≤ s.length) :
    Calls Tryz.prog 82 #[.string ⟨s.toArray⟩, .int .i64 i] w fun e w' => e = .returned (getV (getAt s i)) ∧ Below w.heap.size w w' := by
  rw [getAt_eq s i hi]
  have HE := Lib.hid he; clear he
  have HDG := Lib.hid (fun w he => digits_any (s.drop i) w (by rw [List.length_drop]; omega) he)
  have HX := Lib.hid (show (⟨s.toArray⟩ : ByteArray).extract i s.length = ⟨(s.drop i).toArray⟩ by
    apply ByteArray.ext
    simp only [ByteArray.data_extract, List.extract_toArray, List.extract_eq_take_drop]
    rw [List.take_of_length_le (by rw [List.length_drop]; omega)])
  have hl : (s.drop i).length = s.length - i := List.length_drop
  unfold maxLen at hs
  generalize s.drop i = r at *
  have HL := Lib.hid hl; clear hl
  have hd20 := digits_len (r := r)
  cases hat : Lib.atoiAll ((digits r).getD (r.take 20))
  case «syntax» =>
    have HF := Lib.hid (getN_syntax hat)
    generalize (digits r).isSome = okb at *
    generalize (digits r).getD (r.take 20) = d at *
    have HA := Lib.hid hat; clear hat
    go_enter Tryz.func82, Tryz.ntmps82
    go_wp2_with fail
    rw [HX.out]
    refine (HDG.out _ HE.out).mono ?_
    rintro e w1 ⟨rfl, n, rfl⟩
    have HB1 := Lib.hid (below_drewN (Below.refl w.heap.size w) n)
    have HE1 := Lib.hid (HE.out.later HB1.out)
    generalize w.drewN n = w1 at *
    obtain ⟨a, b, ca, cb, ta, tb, e1, e2, e3, e4, e5⟩ := HE1.out.err
    have E3 := Lib.hid e3; clear e3
    go_wp2_with fail
    refine (Tryz.strconv_Atoi_syntax _ (by rw [size_mk]; omega) HA.out _ _ e1 (.inr ⟨_, _, rfl⟩)).mono ?_
    rintro e w2 ⟨N, rfl, hN, hc, hb⟩
    have HC2 := Lib.hid hc; clear hc
    have HB2 := Lib.hid (HB1.out.trans (hb.mono HB1.out.size))
    have HE2 := Lib.hid (HE1.out.later hb)
    have e1' := (hb.cell (p := ⟨1, 0, none⟩) (lt_of_cell e1)).trans e1
    clear e1 e2 e4 e5 hb hN
    go_wp2_with fail
    refine (is_wrap_same N 0 a _ (by rw [Lib.cell_of_heap HC2.out]; rfl)).mono ?_
    rintro e w3 ⟨rfl, rfl⟩
    go_wp2_with fail
    go_returns
    exact ⟨by rw [HF.out]; rfl, HB2.out⟩
  case range =>
    have HF := Lib.hid (getN_range hat)
    generalize (digits r).isSome = okb at *
    generalize (digits r).getD (r.take 20) = d at *
    have HA := Lib.hid hat; clear hat
    go_enter Tryz.func82, Tryz.ntmps82
    go_wp2_with fail
    rw [HX.out]
    refine (HDG.out _ HE.out).mono ?_
    rintro e w1 ⟨rfl, n, rfl⟩
    have HB1 := Lib.hid (below_drewN (Below.refl w.heap.size w) n)
    have HE1 := Lib.hid (HE.out.later HB1.out)
    generalize w.drewN n = w1 at *
    obtain ⟨a, b, ca, cb, ta, tb, e1, e2, e3, e4, e5⟩ := HE1.out.err
    have E3 := Lib.hid e3; clear e3
    go_wp2_with fail
    refine (Tryz.strconv_Atoi_range _ (by rw [size_mk]; omega) HA.out _ _ e2 (.inr ⟨_, _, rfl⟩)).mono ?_
    rintro e w2 ⟨N, rfl, hN, hc, hb⟩
    have HC2 := Lib.hid hc; clear hc
    have HB2 := Lib.hid (HB1.out.trans (hb.mono HB1.out.size))
    have e1' := (hb.cell (p := ⟨1, 0, none⟩) (lt_of_cell e1)).trans e1
    have e2' := (hb.cell (p := ⟨2, 0, none⟩) (lt_of_cell e2)).trans e2
    have E4 := Lib.hid ((hb.block _ (lt_of_heap e4)).trans e4)
    have E5 := Lib.hid ((hb.block _ (lt_of_heap e5)).trans e5)
    clear e1 e2 e4 e5 hb hN
    go_wp2_with fail
    refine (is_wrap_other N 0 a b _ _ _ _ _ (by rw [Lib.cell_of_heap HC2.out]; rfl) (fun e => E3.out e.symm) E5.out E4.out).mono ?_
    rintro e w3 ⟨rfl, rfl⟩
    go_wp2_with fail
    refine (is_wrap_same N 0 b _ (by rw [Lib.cell_of_heap HC2.out]; rfl)).mono ?_
    rintro e w3 ⟨rfl, rfl⟩
    go_wp2_with fail
    go_returns
    exact ⟨by rw [HF.out]; rfl, HB2.out⟩
  case ok v =>
    have hv := atoi_range hat
    cases hdg : digits r with
    | none =>
      have HF := Lib.hid (show getN r = none by unfold getN; rw [hdg])
      simp only [hdg, Option.isSome_none, Option.getD_none] at HDG hat hd20
      generalize r.take 20 = d at *
      have HA := Lib.hid hat; clear hat hdg
      go_enter Tryz.func82, Tryz.ntmps82
      go_wp2_with fail
      rw [HX.out]
      refine (HDG.out _ HE.out).mono ?_
      rintro e w1 ⟨rfl, n, rfl⟩
      have HB1 := Lib.hid (below_drewN (Below.refl w.heap.size w) n)
      have HE1 := Lib.hid (HE.out.later HB1.out)
      generalize w.drewN n = w1 at *
      obtain ⟨a, b, ca, cb, ta, tb, e1, e2, e3, e4, e5⟩ := HE1.out.err
      have E3 := Lib.hid e3; clear e3
      go_wp2_with fail
      refine (Tryz.strconv_Atoi_ok _ (by rw [size_mk]; omega) v HA.out _).mono ?_
      rintro e w2 ⟨rfl, hb'⟩
      have hb := atoi_below hb'
      have HB2 := Lib.hid (HB1.out.trans (hb.mono HB1.out.size))
      have e1' := (hb.cell (p := ⟨1, 0, none⟩) (lt_of_cell e1)).trans e1
      have e2' := (hb.cell (p := ⟨2, 0, none⟩) (lt_of_cell e2)).trans e2
      clear e1 e2 e4 e5 hb hb'
      go_wp2_with fail
      refine (is_nil a _).mono ?_
      rintro e w3 ⟨rfl, rfl⟩
      go_wp2_with fail
      refine (is_nil b _).mono ?_
      rintro e w3 ⟨rfl, rfl⟩
      go_wp2_with fail
      go_returns
      exact ⟨by rw [HF.out]; rfl, HB2.out⟩
    | some d =>
      have hf := getN_ok hdg (v := v) (by simpa only [hdg, Option.getD_some] using hat)
      have hsp : d.length + 1 ≤ r.length := by
        obtain ⟨q, hq⟩ := digits_some hdg
        rw [hq]; simp
      simp only [hdg, Option.isSome_some, Option.getD_some] at HDG hat hd20
      have hrl : r.length = s.length - i := HL.out
      have hb1 : i + d.length + 1 ≤ s.length := by omega
      clear hrl
      have HA := Lib.hid hat; clear hat hdg
      by_cases hneg : v < 0
      · have HF := Lib.hid (show getN r = none by rw [hf, if_pos (.inl hneg)]); clear hf
        go_enter Tryz.func82, Tryz.ntmps82
        go_wp2_with fail
        rw [HX.out]
        refine (HDG.out _ HE.out).mono ?_
        rintro e w1 ⟨rfl, n, rfl⟩
        have HB1 := Lib.hid (below_drewN (Below.refl w.heap.size w) n)
        have HE1 := Lib.hid (HE.out.later HB1.out)
        generalize w.drewN n = w1 at *
        obtain ⟨a, b, ca, cb, ta, tb, e1, e2, e3, e4, e5⟩ := HE1.out.err
        have E3 := Lib.hid e3; clear e3
        go_wp2_with fail
        refine (Tryz.strconv_Atoi_ok _ (by rw [size_mk]; omega) v HA.out _).mono ?_
        rintro e w2 ⟨rfl, hb'⟩
        have hb := atoi_below hb'
        have HB2 := Lib.hid (HB1.out.trans (hb.mono HB1.out.size))
        have e1' := (hb.cell (p := ⟨1, 0, none⟩) (lt_of_cell e1)).trans e1
        have e2' := (hb.cell (p := ⟨2, 0, none⟩) (lt_of_cell e2)).trans e2
        clear e1 e2 e4 e5 hb hb'
        go_wp2_with fail
        refine (is_nil a _).mono ?_
        rintro e w3 ⟨rfl, rfl⟩
        go_wp2_with fail
        refine (is_nil b _).mono ?_
        rintro e w3 ⟨rfl, rfl⟩
        go_wp2_with fail
        go_returns
        exact ⟨by rw [HF.out]; rfl, HB2.out⟩
      · have HIT := Lib.hid (fun w ht => itoa_any v w hv.1 hv.2 ht)
        have hnn : 0 ≤ v := by omega
        by_cases hsame : Lib.itoa v = d
        · have HF := Lib.hid (show getN r = some v by rw [hf, if_neg (by rintro (h | h); exact hneg h; exact h hsame)])
          have HP := Lib.hid (show putN v = d ++ [58] by unfold putN; rw [if_neg hneg, hsame])
          clear hf hneg
          generalize Lib.itoa v = A at *
          subst hsame
          go_enter Tryz.func82, Tryz.ntmps82
          go_wp2_with fail
          rw [HX.out]
          refine (HDG.out _ HE.out).mono ?_
          rintro e w1 ⟨rfl, n, rfl⟩
          have HB1 := Lib.hid (below_drewN (Below.refl w.heap.size w) n)
          have HE1 := Lib.hid (HE.out.later HB1.out)
          generalize w.drewN n = w1 at *
          obtain ⟨a, b, ca, cb, ta, tb, e1, e2, e3, e4, e5⟩ := HE1.out.err
          have E3 := Lib.hid e3; clear e3
          go_wp2_with fail
          refine (Tryz.strconv_Atoi_ok _ (by rw [size_mk]; omega) v HA.out _).mono ?_
          rintro e w2 ⟨rfl, hb'⟩
          have hb := atoi_below hb'
          have HB2 := Lib.hid (HB1.out.trans (hb.mono HB1.out.size))
          have HE2 := Lib.hid (HE1.out.later hb)
          have e1' := (hb.cell (p := ⟨1, 0, none⟩) (lt_of_cell e1)).trans e1
          have e2' := (hb.cell (p := ⟨2, 0, none⟩) (lt_of_cell e2)).trans e2
          clear e1 e2 e4 e5 hb hb'
          go_wp2_with fail
          refine (is_nil a _).mono ?_
          rintro e w3 ⟨rfl, rfl⟩
          go_wp2_with fail
          refine (is_nil b _).mono ?_
          rintro e w3 ⟨rfl, rfl⟩
          go_wp2_with fail
          refine (HIT.out _ HE2.out.h10).mono ?_
          rintro e w3 ⟨rfl, hb3⟩
          have HB3 := Lib.hid (HB2.out.trans (hb3.mono HB2.out.size)); clear hb3
          go_wp2_with fail
          go_returns
          refine ⟨?_, HB3.out⟩
          rw [HF.out, Option.map_some, HP.out]
          simp [getV]
          omega
        · have HF := Lib.hid (show getN r = none by rw [hf, if_pos (.inr hsame)]); clear hf hneg
          generalize Lib.itoa v = A at *
          go_enter Tryz.func82, Tryz.ntmps82
          go_wp2_with fail
          rw [HX.out]
          refine (HDG.out _ HE.out).mono ?_
          rintro e w1 ⟨rfl, n, rfl⟩
          have HB1 := Lib.hid (below_drewN (Below.refl w.heap.size w) n)
          have HE1 := Lib.hid (HE.out.later HB1.out)
          generalize w.drewN n = w1 at *
          obtain ⟨a, b, ca, cb, ta, tb, e1, e2, e3, e4, e5⟩ := HE1.out.err
          have E3 := Lib.hid e3; clear e3
          go_wp2_with fail
          refine (Tryz.strconv_Atoi_ok _ (by rw [size_mk]; omega) v HA.out _).mono ?_
          rintro e w2 ⟨rfl, hb'⟩
          have hb := atoi_below hb'
          have HB2 := Lib.hid (HB1.out.trans (hb.mono HB1.out.size))
          have HE2 := Lib.hid (HE1.out.later hb)
          have e1' := (hb.cell (p := ⟨1, 0, none⟩) (lt_of_cell e1)).trans e1
          have e2' := (hb.cell (p := ⟨2, 0, none⟩) (lt_of_cell e2)).trans e2
          clear e1 e2 e4 e5 hb hb'
          go_wp2_with fail
          refine (is_nil a _).mono ?_
          rintro e w3 ⟨rfl, rfl⟩
          go_wp2_with fail
          refine (is_nil b _).mono ?_
          rintro e w3 ⟨rfl, rfl⟩
          go_wp2_with fail
          refine (HIT.out _ HE2.out.h10).mono ?_
          rintro e w3 ⟨rfl, hb3⟩
          have HB3 := Lib.hid (HB2.out.trans (hb3.mono HB2.out.size)); clear hb3
          have hne : (A == d) = false := by simpa using hsame
          go_wp2_with fail
          go_returns
          exact ⟨by rw [HF.out]; rfl, HB3.out⟩

theorem get_any (s : List UInt8) (i : Int) (w : World) (hs : s.length ≤ maxLen) (he : Env w) :
    Calls Tryz.prog 82 #[.string ⟨s.toArray⟩, .int .i64 i] w fun e w' => e = .returned (getV (getAt s i)) ∧ Below w.heap.size w w' := by
  by_cases h : i < 0 ∨ (s.length : Int) < i
  · have HF := Lib.hid (show getAt s i = none by unfold getAt; rw [if_pos h])
    by_cases h1 : i < 0
    · clear h
      go_enter Tryz.func82, Tryz.ntmps82
      go_wp2_with fail
      go_returns
      exact ⟨by rw [HF.out]; rfl, Below.refl _ _⟩
    · have h2 : (s.length : Int) < i := h.resolve_left h1
      clear h
      go_enter Tryz.func82, Tryz.ntmps82
      go_wp2_with fail
      go_returns
      exact ⟨by rw [HF.out]; rfl, Below.refl _ _⟩
  · obtain ⟨k, rfl⟩ := Int.eq_ofNat_of_zero_le (show 0 ≤ i by omega)
    exact get_in s k w hs he (by omega)
end Go.Proofs.YtofllhipjaphfaaGreatDoor
