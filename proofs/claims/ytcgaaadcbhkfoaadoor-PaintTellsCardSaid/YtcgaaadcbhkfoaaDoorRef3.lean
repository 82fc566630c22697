/- The walk of the reference's row. -/
import Derived.Test.YtcgaaadcbhkfoaaDoorRef1
import Derived.Test.YtcgaaadcbhkfoaaDoorPaint3
import Derived.Test.YtcgaaadcbhkfoaaDoorConv
namespace Go.Proofs.YtcgaaadcbhkfoaaDoor
open Go Go.Proofs Go.RowKit Go.Ink

/-- The first and the last place, among the first k, where two rows are unlike; -1: there is none. -/
def flTo (f t : List UInt8) : Nat → Int × Int
  | 0 => (-1, -1)
  | k + 1 => if f[k]? = t[k]? then flTo f t k else (if (flTo f t k).1 < 0 then (k : Int) else (flTo f t k).1, (k : Int))
theorem flTo_range (f t : List UInt8) : ∀ k, -1 ≤ (flTo f t k).1 ∧ (flTo f t k).1 < k + 1 ∧ -1 ≤ (flTo f t k).2 ∧ (flTo f t k).2 < k + 1
  | 0 => by simp [flTo]
  | k + 1 => by
    have := flTo_range f t k
    unfold flTo
    split
    · omega
    · dsimp only; split <;> omega
theorem flTo_none {f t : List UInt8} : ∀ {k}, (∀ j, j < k → f[j]? = t[j]?) → flTo f t k = (-1, -1)
  | 0, _ => rfl
  | k + 1, h => by rw [flTo, if_pos (h k (by omega)), flTo_none (fun j hj => h j (by omega))]
/-- Behind the first unlike place: the first one stays, the last one is what lastTo says. -/
theorem flTo_some {f t : List UInt8} {a : Nat} (h1 : ∀ j, j < a → f[j]? = t[j]?) (h2 : f[a]? ≠ t[a]?) : ∀ k, a < k → flTo f t k = ((a : Int), (lastTo f t a k : Int) - 1)
  | 0, h => by omega
  | k + 1, h => by
    by_cases e : a = k
    · subst e
      have e1 : lastTo f t a (a + 1) = a + 1 := by rw [lastTo, if_neg]; rintro ⟨_, h⟩; exact h2 h
      rw [flTo, if_neg h2, flTo_none h1, e1]
      simp
    · have ih := flTo_some h1 h2 k (by omega)
      by_cases he : f[k]? = t[k]?
      · have e1 : lastTo f t a (k + 1) = lastTo f t a k := by rw [lastTo, if_pos ⟨by omega, he⟩]
        rw [flTo, if_pos he, e1, ih]
      · have e1 : lastTo f t a (k + 1) = k + 1 := by rw [lastTo, if_neg]; rintro ⟨_, h⟩; exact he h
        have e2 : ¬ (a : Int) < 0 := by omega
        rw [flTo, if_neg he, e1, ih]
        simp [e2]
theorem firstD_spec : ∀ (f t : List UInt8), f.length = t.length → (∀ j, j < firstD f t → f[j]? = t[j]?) ∧ (firstD f t < t.length → f[firstD f t]? ≠ t[firstD f t]?)
  | [], [], _ => by simp [firstD]
  | x :: xs, y :: ys, h => by
    have ih := firstD_spec xs ys (by simpa using h)
    by_cases e : x = y
    · subst e
      simp only [firstD, if_true]
      refine ⟨fun j hj => ?_, fun hlt => ?_⟩
      · cases j with
        | zero => rfl
        | succ j => simpa using ih.1 j (by omega)
      · simpa using ih.2 (by simpa using hlt)
    · simp only [firstD, if_neg e]
      exact ⟨fun j hj => by omega, fun _ => by simpa using e⟩
/-- What the reference writes for a row, by its own two places. -/
theorem rowS_fl {f t : List UInt8} (at' : Int) (h : f.length = t.length) :
    (firstD f t = t.length → flTo f t t.length = (-1, -1)) ∧ (firstD f t < t.length → flTo f t t.length = ((firstD f t : Int), (lastD f t : Int) - 1) ∧ firstD f t < lastD f t ∧ lastD f t ≤ t.length) := by
  obtain ⟨h1, h2⟩ := firstD_spec f t h
  refine ⟨fun e => flTo_none (fun j hj => h1 j (by omega)), fun hlt => ?_⟩
  have h3 := flTo_some h1 (h2 hlt) t.length hlt
  refine ⟨h3, ?_, lastTo_le f t _ _⟩
  have : ∀ k, firstD f t < k → firstD f t < lastTo f t (firstD f t) k := by
    intro k
    induction k with
    | zero => omega
    | succ k ih =>
      intro hk
      unfold lastTo
      split
      · rename_i hc
        rcases Nat.lt_or_ge (firstD f t) k with h | h
        · exact ih h
        · have : firstD f t = k := by omega
          rw [this] at h2
          exact absurd hc.2 (h2 (by omega))
      · omega
  exact this _ hlt

set_option maxHeartbeats 2000000 in
theorem refRow_any (at' : Int) (ao1 ao2 : Option Addr) (cap1 cap2 : Nat) (f t : List UInt8) (w : World) (hft : f.length = t.length)
    (hf : SlOf IsByte w ao1 cap1 f) (ht : SlOf IsByte w ao2 cap2 t) (h10 : Tab10 w) (hlen : t.length ≤ 1000000) :
    Calls Tryd.prog 20 #[.int .i64 at', .slice ao1 f.length cap1, .slice ao2 t.length cap2] w
      fun e w' => e = .returned (.string ⟨(rowS at' f t).toArray⟩) ∧ Below w.heap.size w w' := by
  have HF := Lib.hid hf; clear hf
  have HT := Lib.hid ht; clear ht
  have H10 := Lib.hid h10; clear h10
  have hm : t.length ≤ 9223372036854775807 := by omega
  rw [hft]
  have HFT := Lib.hid hft; clear hft
  go_enter Tryd.func20, Tryd.ntmps20
  go_wp2_with fail
  go_loopw [7, 8, 9] (fun a z i wr => ∃ k : Nat, i = .int .i64 k ∧ k ≤ t.length ∧ a = .int .i64 (flTo f t k).1 ∧ z = .int .i64 (flTo f t k).2 ∧ ∃ n, wr = w.drewN n) (fun _ _ i _ => t.length - (intOf i).toNat)
  case atStart => exact ⟨0, rfl, by omega, rfl, rfl, 0, rfl⟩
  case round =>
    obtain ⟨k, rfl, hk, rfl, rfl, n, rfl⟩ := hrel
    by_cases hlt : k < t.length
    · obtain ⟨c, hkc⟩ : ∃ c, t[k]? = some c := ⟨_, List.getElem?_eq_getElem hlt⟩
      obtain ⟨d, hkd⟩ : ∃ d, f[k]? = some d := ⟨_, List.getElem?_eq_getElem (by have := HFT.out; omega)⟩
      obtain ⟨g2, off2, u, hao2, hcell2, hu⟩ := HT.out.2.2.2 k c hkc
      obtain ⟨g1, off1, u', hao1, hcell1, hu'⟩ := HF.out.2.2.2 k d hkd
      subst hao1 hao2 hu hu'
      have HKC := Lib.hid hkc; clear hkc
      have HKD := Lib.hid hkd; clear hkd
      have hlti : (k : Int) < (t.length : Int) := by omega
      have hstep : Hid (flTo f t (k + 1) = _) := Lib.hid (by rw [flTo])
      by_cases hcd : d = c
      · have hb : ((d.toNat : Int) != (c.toNat : Int)) = false := by rw [hcd]; simp
        have HE := Lib.hid (show flTo f t (k + 1) = flTo f t k by rw [flTo, if_pos (by rw [HKC.out, HKD.out, hcd])])
        clear hcd hstep
        generalize flTo f t k = p at *
        go_wp2_with fail
        go_quiet (fail)
        go_wp2_with fail
        go_roundw
        case rel => exact ⟨k + 1, by go_num, by omega, by rw [HE.out], by rw [HE.out], _, rfl⟩
        case measure => simp [intOf] <;> omega
      · have hb : ((d.toNat : Int) != (c.toNat : Int)) = true := by
          rw [bne_iff_ne]; intro e; exact hcd (UInt8.toNat_inj.1 (by omega))
        have HE := Lib.hid (show flTo f t (k + 1) = (if (flTo f t k).1 < 0 then (k : Int) else (flTo f t k).1, (k : Int)) by rw [flTo, if_neg (by rw [HKC.out, HKD.out]; simpa using hcd)])
        clear hcd hstep
        by_cases hneg : (flTo f t k).1 < 0
        · rw [if_pos hneg] at HE
          generalize flTo f t k = p at *
          go_wp2_with fail
          go_quiet (fail)
          go_wp2_with fail
          go_roundw
          case rel => exact ⟨k + 1, by go_num, by omega, by rw [HE.out], by rw [HE.out], _, rfl⟩
          case measure => simp [intOf] <;> omega
        · rw [if_neg hneg] at HE
          generalize flTo f t k = p at *
          go_wp2_with fail
          go_quiet (fail)
          go_wp2_with fail
          go_roundw
          case rel => exact ⟨k + 1, by go_num, by omega, by rw [HE.out], by rw [HE.out], _, rfl⟩
          case measure => simp [intOf] <;> omega
    · obtain rfl : k = t.length := by omega
      obtain ⟨hfl1, hfl2⟩ := rowS_fl (f := f) (t := t) at' HFT.out
      by_cases hd : firstD f t = t.length
      · have hfl := Lib.hid (hfl1 hd)
        have hrow := Lib.hid (show rowS at' f t = [] by rw [rowS, if_pos hd])
        clear hfl1 hfl2 hd
        rw [hfl.out]
        dsimp only
        go_wp2_with fail
        go_ret
        exact ⟨by rw [hrow.out]; rfl, below_drewN (Below.refl _ _) _⟩
      · have hdl : firstD f t < t.length := by have := firstD_le f t HFT.out; omega
        obtain ⟨h3, h4, h5⟩ := hfl2 hdl
        have hfl := Lib.hid h3
        have hrow := Lib.hid (show rowS at' f t = _ by rw [rowS, if_neg hd])
        clear hfl1 hfl2 hd h3
        rw [hfl.out]
        generalize firstD f t = a at *
        generalize hz : lastD f t = z at *
        have HZ := Lib.hid hz; clear hz
        dsimp only
        have HF' := Lib.hid (show Below w.heap.size w (w.drewN n) from below_drewN (Below.refl _ _) _)
        have hrf : Hid ((fullN t : Nat) = fullTo t t.length) := rfl
        go_wp2_with fail
        go_loopw [10] (fun i wr => ∃ k : Nat, i = .int .i64 k ∧ k ≤ t.length ∧ Hid (fullTo t k = fullN t) ∧ wr = w.drewN n) (fun i _ => (intOf i).toNat)
        case atStart => exact ⟨t.length, rfl, by omega, Lib.hid rfl, rfl⟩
        case round =>
          obtain ⟨k, rfl, hk2, hinv, rfl⟩ := hrel
          have hgo : k = 0 ∨ (0 < k ∧ t[k - 1]? ≠ some 32) ∨ (0 < k ∧ t[k - 1]? = some 32) := by
            rcases Nat.eq_zero_or_pos k with h | h
            · exact .inl h
            · by_cases e : t[k - 1]? = some 32
              · exact .inr (.inr ⟨h, e⟩)
              · exact .inr (.inl ⟨h, e⟩)
          rcases hgo with rfl | ⟨hpos, hne⟩ | ⟨hpos, heq⟩
          case inr.inr =>
            obtain ⟨y, rfl⟩ : ∃ y, k = y + 1 := ⟨k - 1, by omega⟩
            simp only [Nat.add_sub_cancel] at heq
            obtain ⟨g2, off2, u, hao2, hcell2, hu⟩ := HT.out.2.2.2 y 32 heq
            subst hao2 hu
            have HE := Lib.hid heq; clear heq
            have e1 : ((y + 1 : Nat) : Int) = (y : Int) + 1 := by omega
            rw [e1]; clear e1
            have hyl : (y : Int) < (t.length : Int) := by omega
            simp at hcell2
            go_wp2_with fail
            go_roundw
            case rel => exact ⟨y, by go_num, by omega, Lib.hid (by rw [← hinv.out, fullTo, if_pos HE.out]), by first | rfl | trivial⟩
            case measure => simp [intOf] <;> omega
          case inr.inl =>
            obtain ⟨y, rfl⟩ : ∃ y, k = y + 1 := ⟨k - 1, by omega⟩
            simp only [Nat.add_sub_cancel] at hne
            obtain ⟨c, hkc⟩ : ∃ c, t[y]? = some c := ⟨_, List.getElem?_eq_getElem (by omega)⟩
            have hq := Lib.hid (show fullN t = y + 1 by rw [← hinv.out, fullTo, if_neg hne])
            obtain ⟨g2, off2, u, hao2, hcell2, hu⟩ := HT.out.2.2.2 y c hkc
            subst hao2 hu
            have hb : ((c.toNat : Int) == 32) = false := by
              rw [beq_eq_false_iff_ne]; intro e
              exact hne (by rw [hkc]; congr 1; apply UInt8.toNat_inj.1; have : c.toNat = 32 := by omega
                            rw [this]; rfl)
            have e1 : ((y + 1 : Nat) : Int) = (y : Int) + 1 := by omega
            rw [e1]; clear e1
            have hyl : (y : Int) < (t.length : Int) := by omega
            clear hkc hne
            go_wp2_with fail
            have hfin := Lib.hid (show ∀ i : Nat, a ≤ i → i ≤ z → (i = a ∨ i ≤ y + 1) → ¬ (i < z ∧ i < y + 1) → (goS at' (a : Int) ++ (t.take i).drop a) ++ (if y + 1 < z then [27, 91, 75] else []) = rowS at' f t by
              intro i h1 h2 h3 h4
              rw [hrow.out, hq.out]
              by_cases hqz : y + 1 < z
              · obtain rfl : i = max a (y + 1) := by omega
                rw [if_pos hqz, if_pos hqz, List.append_assoc]
              · obtain rfl : i = z := by omega
                rw [if_neg hqz, if_neg hqz, List.append_nil])
            clear hrow
            refine (refGo_any _ _ _ (H10.out.later HF'.out)).mono ?_
            rintro e w3 ⟨rfl, hb3⟩
            have HB3 := Lib.hid (HF'.out.trans (hb3.mono HF'.out.size)); clear hb3
            have hgs := goS_le at' (a : Int)
            generalize goS at' (a : Int) = gs at *
            go_wp2_with fail
            go_loop [11, 12] (fun o i => ∃ (j : Nat) (l : List UInt8), i = .int .i64 j ∧ o = .string ⟨l.toArray⟩ ∧ a ≤ j ∧ j ≤ z ∧ Hid (j = a ∨ j ≤ y + 1) ∧ Hid (l = gs ++ (t.take j).drop a) ∧ l.length ≤ 12 + j) (fun _ i => z - (intOf i).toNat)
            case atStart => exact ⟨a, gs, rfl, rfl, by omega, by omega, Lib.hid (.inl rfl), Lib.hid (by rw [List.drop_eq_nil_of_le (by simp; omega), List.append_nil]), by omega⟩
            case round =>
              obtain ⟨j, l, rfl, rfl, ha1, ha2, hor, hl, hll⟩ := hrel
              by_cases hgo : j < z ∧ j < y + 1
              · obtain ⟨hj1, hj2⟩ := hgo
                obtain ⟨c9, hk9⟩ : ∃ c, t[j]? = some c := ⟨_, List.getElem?_eq_getElem (by omega)⟩
                obtain ⟨g9, off9, u9, hao9, hcell9, hu9⟩ := HT.out.2.2.2 j c9 hk9
                have htl : (t.take (j + 1)).drop j = [c9] := by
                  rw [List.drop_take, Nat.add_sub_cancel_left, List.drop_eq_getElem_cons (by omega), List.take_succ_cons, List.take_zero]
                  congr 1
                  exact Option.some.inj ((List.getElem?_eq_getElem (by omega)).symm.trans hk9)
                have HT9 := HT.out
                rw [hao9] at HT9
                have hcut := (HT9.cut j (j + 1) (by omega) (by omega))
                rw [htl] at hcut
                have hcv := hcut.convert (P := Tryd.prog) Tryd.underlying30 Tryd.underlying5 Tryd.underlying9 HB3.out
                simp only [List.length_cons, List.length_nil, Nat.zero_add] at hcv
                have hcap := HT9.1
                have hcap2 : cap2 ≤ 9223372036854775807 := HT9.2.1
                clear HT9 hcut
                have hj3 : (j : Int) ≤ (z : Int) - 1 := by omega
                have hj4 : (j : Int) < (y : Int) + 1 := by omega
                have hne9 : ¬ cap2 = j := by omega
                have hlen9 : l.length + 1 ≤ 9223372036854775807 := by omega
                have HL9 : Hid (l ++ [c9] = gs ++ (t.take (j + 1)).drop a) := by
                  show l ++ [c9] = _
                  rw [hl.out, List.append_assoc, ← List.drop_append_of_le_length (by simp; omega)]
                  congr 2
                  rw [List.take_add_one, hk9]; rfl
                clear hk9 htl hcell9
                go_wp2_with fail
                go_round
                case rel => exact ⟨j + 1, l ++ [c9], by go_num, congrArg Value.string (mk_append l [c9]), by omega, by omega, Lib.hid (.inr (by omega)), HL9, by simp; omega⟩
                case measure => simp [intOf] <;> omega
              · have hout := Lib.hid (hfin.out j ha1 ha2 hor.out hgo)
                by_cases hj1 : (j : Int) ≤ (z : Int) - 1
                all_goals by_cases hj2 : (j : Int) < (y : Int) + 1
                all_goals first | (exfalso; omega) | skip
                all_goals by_cases hqz : (y : Int) + 1 ≤ (z : Int) - 1
                all_goals go_wp2_with fail
                all_goals go_ret
                all_goals refine ⟨?_, HB3.out⟩
                all_goals (rw [← hout.out, ← hl.out]; first | (rw [if_pos (by omega)]; exact congrArg (fun s => Ending.returned (Value.string s)) (mk_append l [27, 91, 75])) | (rw [if_neg (by omega), List.append_nil]; rfl))
          case inl =>
            have hq := Lib.hid (show fullN t = 0 by rw [← hinv.out]; rfl)
            go_wp2_with fail
            have hfin := Lib.hid (show ∀ i : Nat, a ≤ i → i ≤ z → (i = a ∨ i ≤ 0) → ¬ (i < z ∧ i < 0) → (goS at' (a : Int) ++ (t.take i).drop a) ++ (if 0 < z then [27, 91, 75] else []) = rowS at' f t by
              intro i h1 h2 h3 h4
              rw [hrow.out, hq.out]
              by_cases hqz : 0 < z
              · obtain rfl : i = max a (0) := by omega
                rw [if_pos hqz, if_pos hqz, List.append_assoc]
              · obtain rfl : i = z := by omega
                rw [if_neg hqz, if_neg hqz, List.append_nil])
            clear hrow
            refine (refGo_any _ _ _ (H10.out.later HF'.out)).mono ?_
            rintro e w3 ⟨rfl, hb3⟩
            have HB3 := Lib.hid (HF'.out.trans (hb3.mono HF'.out.size)); clear hb3
            have hgs := goS_le at' (a : Int)
            generalize goS at' (a : Int) = gs at *
            go_wp2_with fail
            go_loop [11, 12] (fun o i => ∃ (j : Nat) (l : List UInt8), i = .int .i64 j ∧ o = .string ⟨l.toArray⟩ ∧ a ≤ j ∧ j ≤ z ∧ Hid (j = a ∨ j ≤ 0) ∧ Hid (l = gs ++ (t.take j).drop a) ∧ l.length ≤ 12 + j) (fun _ i => z - (intOf i).toNat)
            case atStart => exact ⟨a, gs, rfl, rfl, by omega, by omega, Lib.hid (.inl rfl), Lib.hid (by rw [List.drop_eq_nil_of_le (by simp; omega), List.append_nil]), by omega⟩
            case round =>
              obtain ⟨j, l, rfl, rfl, ha1, ha2, hor, hl, hll⟩ := hrel
              by_cases hgo : j < z ∧ j < 0
              · exact absurd hgo.2 (by omega)
              · have hout := Lib.hid (hfin.out j ha1 ha2 hor.out hgo)
                by_cases hj1 : (j : Int) ≤ (z : Int) - 1
                all_goals by_cases hj2 : (j : Int) < 0
                all_goals first | (exfalso; omega) | skip
                all_goals by_cases hqz : (0 : Int) ≤ (z : Int) - 1
                all_goals go_wp2_with fail
                all_goals go_ret
                all_goals refine ⟨?_, HB3.out⟩
                all_goals (rw [← hout.out, ← hl.out]; first | (rw [if_pos (by omega)]; exact congrArg (fun s => Ending.returned (Value.string s)) (mk_append l [27, 91, 75])) | (rw [if_neg (by omega), List.append_nil]; rfl))
end Go.Proofs.YtcgaaadcbhkfoaaDoor
-- 
