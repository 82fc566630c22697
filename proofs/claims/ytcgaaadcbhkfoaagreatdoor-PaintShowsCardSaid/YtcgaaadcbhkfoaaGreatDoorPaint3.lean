/- The walk of paint.row: it writes what makes a row another one. -/
import Derived.Test.YtcgaaadcbhkfoaaGreatDoorPaint2
namespace Go.Proofs.YtcgaaadcbhkfoaaGreatDoor
open Go Go.Proofs Go.RowKit Go.Ink

/-- From where on two rows of one length are unlike. -/
def firstD : List UInt8 → List UInt8 → Nat
  | x :: xs, y :: ys => if x = y then firstD xs ys + 1 else 0
  | _, _ => 0
/-- Up to where, of the first k cells, ahead of a. -/
def lastTo (f t : List UInt8) (a : Nat) : Nat → Nat
  | 0 => 0
  | k + 1 => if a ≤ k ∧ f[k]? = t[k]? then lastTo f t a k else k + 1
def lastD (f t : List UInt8) : Nat := lastTo f t (firstD f t) t.length
def rowS (at' : Int) (f t : List UInt8) : List UInt8 :=
  if firstD f t = t.length then []
  else goS at' (firstD f t) ++
    (if fullN t < lastD f t then (t.take (max (firstD f t) (fullN t))).drop (firstD f t) ++ [27, 91, 75] else (t.take (lastD f t)).drop (firstD f t))

theorem firstD_le : ∀ (f t : List UInt8), f.length = t.length → firstD f t ≤ t.length
  | x :: xs, y :: ys, h => by
    simp only [firstD, List.length_cons] at *
    split
    · have := firstD_le xs ys (by omega); omega
    · omega
  | [], [], _ => by simp [firstD]
theorem firstD_of : ∀ (f t : List UInt8) (k : Nat), f.length = t.length → k ≤ t.length → (∀ j, j < k → f[j]? = t[j]?) → (k < t.length → f[k]? ≠ t[k]?) → firstD f t = k
  | [], [], k, _, hk, _, _ => by simp at hk; simp [firstD, hk]
  | x :: xs, y :: ys, 0, h, _, _, hne => by
    have := hne (by simp)
    simp at this
    simp [firstD, this]
  | x :: xs, y :: ys, k + 1, h, hk, heq, hne => by
    have h0 := heq 0 (by omega)
    simp at h0
    subst h0
    simp only [firstD, if_true]
    rw [firstD_of xs ys k (by simpa using h) (by simpa using hk) (fun j hj => by simpa using heq (j + 1) (by omega)) (fun hlt => by simpa using hne (by simpa using hlt))]

theorem firstD_spec : ∀ (f t : List UInt8), f.length = t.length → (∀ j, j < firstD f t → f[j]? = t[j]?) ∧ (firstD f t < t.length → f[firstD f t]? ≠ t[firstD f t]?)
  | [], [], _ => by simp [firstD]
  | x :: xs, y :: ys, h => by
    have ih := firstD_spec xs ys (by simpa using h)
    by_cases e : x = y
    · subst e
      simp only [firstD, if_true]
      refine ⟨fun j hj => ?_, fun hlt => ?_⟩
      · cases j with
        | zero => rfl
        | succ j => simpa using ih.1 j (by omega)
      · simpa using ih.2 (by simpa using hlt)
    · simp only [firstD, if_neg e]
      exact ⟨fun j hj => by omega, fun _ => by simpa using e⟩
set_option maxRecDepth 100000 in
set_option maxHeartbeats 2000000 in
theorem row_any (w0 : World) (b : Nat) (l : List UInt8) (at' : Int) (ao1 ao2 : Option Addr) (cap1 cap2 : Nat) (f t : List UInt8) (w : World) (h : Bdr w w0.heap.size b l) (hft : f.length = t.length)
    (hf : SlOf IsByte w0 ao1 cap1 f) (ht : SlOf IsByte w0 ao2 cap2 t) (hlen : l.length + t.length + 100 ≤ 140737488355328) (h0 : Below w0.heap.size w0 w) (h10 : Tab10 w0) :
    Calls Tryz.prog 15 #[.pointer (some ⟨b, 0, none⟩), .int .i64 at', .slice ao1 f.length cap1, .slice ao2 t.length cap2] w
      fun e w' => e = .returned (.tuple #[]) ∧ Bdr w' w0.heap.size b (l ++ rowS at' f t) ∧ Below w0.heap.size w0 w' := by
  have HF := Lib.hid (hf.later lasts_byte h0)
  have HT := Lib.hid (ht.later lasts_byte h0)
  have HT0 := Lib.hid ht; clear hf ht
  have H10 := Lib.hid h10; clear h10
  have HBd := Lib.hid h; clear h
  have H0 := Lib.hid h0; clear h0
  have hm : t.length ≤ 9223372036854775807 := Nat.le_trans HT.out.1 HT.out.2.1
  rw [hft]
  have HFT := Lib.hid hft; clear hft
  go_enter Tryz.func15, Tryz.ntmps15
  go_wp2_with fail
  go_loopw [8] (fun i wr => ∃ k : Nat, i = .int .i64 k ∧ k ≤ t.length ∧ Hid (∀ j, j < k → f[j]? = t[j]?) ∧ ∃ n, wr = w.drewN n) (fun i _ => t.length - (intOf i).toNat)
  case atStart => exact ⟨0, rfl, by omega, Lib.hid (fun j hj => by omega), 0, rfl⟩
  case round =>
    obtain ⟨k, rfl, hk, heq, n, rfl⟩ := hrel
    by_cases hlt : k < t.length
    · obtain ⟨c, hkc⟩ : ∃ c, t[k]? = some c := ⟨_, List.getElem?_eq_getElem hlt⟩
      obtain ⟨d, hkd⟩ : ∃ d, f[k]? = some d := ⟨_, List.getElem?_eq_getElem (by have := HFT.out; omega)⟩
      obtain ⟨g2, off2, u, hao2, hcell2, hu⟩ := HT.out.2.2.2 k c hkc
      obtain ⟨g1, off1, u', hao1, hcell1, hu'⟩ := HF.out.2.2.2 k d hkd
      subst hao1 hao2 hu hu'
      have HKC := Lib.hid hkc; clear hkc
      have HKD := Lib.hid hkd; clear hkd
      have hlti : (k : Int) < (t.length : Int) := by omega
      by_cases hcd : d = c
      · have hb : ((d.toNat : Int) == (c.toNat : Int)) = true := by rw [hcd]; simp
        have HCD := Lib.hid hcd; clear hcd
        go_wp2_with fail
        go_quiet (fail)
        go_wp2_with fail
        go_roundw
        case rel => exact ⟨k + 1, by go_num, by omega, fun j hj => by
          by_cases e : j = k
          · subst e; rw [HKC.out, HKD.out, HCD.out]
          · exact heq.out j (by omega), _, rfl⟩
        case measure => simp [intOf] <;> omega
      · have hb : ((d.toNat : Int) == (c.toNat : Int)) = false := by
          rw [beq_eq_false_iff_ne]; intro e; exact hcd (UInt8.toNat_inj.1 (by omega))
        have HCD := Lib.hid hcd; clear hcd
        have hkl : ((k : Int) == (t.length : Int)) = false := by rw [beq_eq_false_iff_ne]; omega
        have hfd := Lib.hid (firstD_of f t k HFT.out hk heq.out (fun _ => by rw [HKC.out, HKD.out]; simpa using HCD.out))
        go_wp2_with fail
        go_quiet (fail)
        go_wp2_with fail
        go_loopw [9] (fun i wr => ∃ z : Nat, i = .int .i64 z ∧ k + 1 ≤ z ∧ z ≤ t.length ∧ Hid (lastTo f t k z = lastTo f t k t.length) ∧ ∃ n, wr = w.drewN n) (fun i _ => (intOf i).toNat)
        case atStart => exact ⟨t.length, rfl, by omega, by omega, Lib.hid rfl, _, rfl⟩
        case round =>
          obtain ⟨z, rfl, hz1, hz2, hlast, n2, rfl⟩ := hrel
          obtain ⟨y, rfl⟩ : ∃ y, z = y + 1 := ⟨z - 1, by omega⟩
          have e1 : ((y + 1 : Nat) : Int) = (y : Int) + 1 := by omega
          rw [e1]; clear e1
          obtain ⟨c2, hkc2⟩ : ∃ c, t[y]? = some c := ⟨_, List.getElem?_eq_getElem (by omega)⟩
          obtain ⟨d2, hkd2⟩ : ∃ d, f[y]? = some d := ⟨_, List.getElem?_eq_getElem (by have := HFT.out; omega)⟩
          obtain ⟨g3, off3, u, hao2, hcellc, hu⟩ := HT.out.2.2.2 y c2 hkc2
          obtain ⟨g4, off4, u', hao1, hcelld, hu'⟩ := HF.out.2.2.2 y d2 hkd2
          simp only [Option.some.injEq, Addr.mk.injEq, and_true] at hao1 hao2
          obtain ⟨rfl, rfl⟩ := hao1
          obtain ⟨rfl, rfl⟩ := hao2
          subst hu hu'
          have HKC2 := Lib.hid hkc2; clear hkc2
          have HKD2 := Lib.hid hkd2; clear hkd2
          have hky : (k : Int) < (y : Int) + 1 := by omega
          clear hcell1 hcell2 hb
          have hyl : (y : Int) < (t.length : Int) := by omega
          have hyf : (y : Int) < (t.length : Int) := by omega
          by_cases hcd2 : d2 = c2
          · have hb2 : ((d2.toNat : Int) == (c2.toNat : Int)) = true := by rw [hcd2]; simp
            have HCD2 := Lib.hid hcd2; clear hcd2
            have hyk : k + 1 ≤ y := by
              rcases Nat.lt_or_ge y (k + 1) with hh | hh
              · have : y = k := by omega
                subst this
                have h1 := HKC.out; rw [HKC2.out] at h1; cases h1
                have h2 := HKD.out; rw [HKD2.out] at h2; cases h2
                exact absurd HCD2.out HCD.out
              · exact hh
            go_wp2_with fail
            go_quiet (fail)
            go_wp2_with fail
            go_roundw
            case rel => exact ⟨y, by go_num, by omega, by omega, by rw [← hlast.out, lastTo, if_pos ⟨by omega, by rw [HKC2.out, HKD2.out, HCD2.out]⟩]; exact Lib.hid rfl, _, rfl⟩
            case measure => simp [intOf] <;> omega
          · have hb2 : ((d2.toNat : Int) == (c2.toNat : Int)) = false := by
              rw [beq_eq_false_iff_ne]; intro e; exact hcd2 (UInt8.toNat_inj.1 (by omega))
            have HCD2 := Lib.hid hcd2; clear hcd2
            have hld := Lib.hid (show lastD f t = y + 1 by
              unfold lastD; rw [hfd.out, ← hlast.out, lastTo, if_neg]; rintro ⟨_, h⟩; rw [HKC2.out, HKD2.out] at h; exact HCD2.out (by simpa using h))
            go_wp2_with fail
            go_quiet (fail)
            go_wp2_with fail
            clear hcellc hcelld hb2 hkl
            refine (go_any _ _ _ (H10.out.later (below_drewN H0.out _))).mono ?_
            rintro e w2 ⟨rfl, hb2⟩
            have HB2 := Lib.hid (show Below w.heap.size w w2 from (below_drewN (Below.refl _ _) _).trans hb2); clear hb2
            have HBd2 := Lib.hid (HBd.out.later HB2.out)
            have HG := Lib.hid (goS_le at' (k : Int))
            generalize hgo : goS at' (k : Int) = gs at *
            have Hgo := Lib.hid hgo; clear hgo
            go_wp2_with fail
            refine (writeString_any _ _ _ _ _ HBd2.out (by have := HG.out; rw [size_mk]; omega) (by have h1 := H0.out.size; have h2 := HB2.out.size; omega)).mono ?_
            rintro e w3 ⟨rfl, HBd3', hb3⟩
            have HBd3 := Lib.hid HBd3'; clear HBd3'
            have HB3 := Lib.hid (show Below w0.heap.size w0 w3 from (H0.out.trans (HB2.out.mono H0.out.size)).trans hb3); clear hb3
            go_wp2_with fail
            refine (full_any _ _ _ _ (HT0.out.later lasts_byte HB3.out)).mono ?_
            rintro e w3 ⟨rfl, rfl⟩
            have Hrow : Hid (rowS at' f t = gs ++ (if fullN t < y + 1 then (t.take (max k (fullN t))).drop k ++ [27, 91, 75] else (t.take (y + 1)).drop k)) := by
              unfold rowS; rw [hfd.out, hld.out, if_neg (by omega), Hgo.out]; exact Lib.hid rfl
            have hful := fullN_le t
            generalize fullN t = q at *
            have hg2 : g2 < w0.heap.size := by
              obtain ⟨b', o', u', e1, e2, _⟩ := HT0.out.2.2.2 k c HKC.out
              simp only [Option.some.injEq, Addr.mk.injEq, and_true] at e1
              obtain ⟨rfl, rfl⟩ := e1
              exact lt_of_cell e2
            have hw3 := HB3.out.size
            have hcap1 := HT0.out.1
            have hcap2 : cap2 ≤ 9223372036854775807 := HT0.out.2.1
            have HG2 := Lib.hid hg2; clear hg2
            by_cases hq : q < y + 1
            · obtain ⟨mx, hmx, hmx1, hmx2, hmx3⟩ : ∃ mx : Nat, max (k : Int) (q : Int) = (mx : Int) ∧ Hid (mx = max k q) ∧ k ≤ mx ∧ mx ≤ t.length := ⟨max k q, by omega, Lib.hid rfl, by omega, by omega⟩
              go_wp2_with fail
              refine (write_any _ _ _ ((t.take mx).drop k) _ _ _ _ (by simp; omega) _ HBd3.out ((HT0.out.later lasts_byte HB3.out).cut k mx hmx2 hmx3) HG2.out (by have := HG.out; simp; omega) (by omega)).mono ?_
              rintro e w4 ⟨rfl, HBd4', hb4⟩
              have HBd4 := Lib.hid HBd4'; clear HBd4'
              have HB4 := Lib.hid (HB3.out.trans hb4); clear hb4
              have hw4 := HB4.out.size
              go_wp2_with fail
              refine (writeString_any _ _ _ _ _ HBd4.out (by have := HG.out; simp; omega) (by omega)).mono ?_
              rintro e w5 ⟨rfl, HBd5', hb5⟩
              have HBd5 := Lib.hid HBd5'; clear HBd5'
              have HB5 := Lib.hid (HB4.out.trans hb5); clear hb5
              go_wp2_with fail
              go_returns
              refine ⟨rfl, ?_, HB5.out⟩
              rw [Hrow.out, if_pos hq, ← hmx1.out]
              have := HBd5.out
              simpa only [List.append_assoc] using this
            · go_wp2_with fail
              refine (write_any _ _ _ ((t.take (y + 1)).drop k) _ _ _ _ (by simp; omega) _ HBd3.out ((HT0.out.later lasts_byte HB3.out).cut k (y + 1) (by omega) (by omega)) HG2.out (by have := HG.out; simp; omega) (by omega)).mono ?_
              rintro e w4 ⟨rfl, HBd4', hb4⟩
              have HBd4 := Lib.hid HBd4'; clear HBd4'
              have HB4 := Lib.hid (HB3.out.trans hb4); clear hb4
              go_wp2_with fail
              go_returns
              refine ⟨rfl, ?_, HB4.out⟩
              rw [Hrow.out, if_neg hq]
              have := HBd4.out
              simpa only [List.append_assoc] using this
    · have hkt : k = t.length := by omega
      subst hkt
      have hd : decide ((t.length : Int) < (t.length : Int)) = false := by simp
      have hfd := Lib.hid (firstD_of f t t.length HFT.out (by omega) heq.out (fun h => by omega))
      go_wp2_with fail
      go_quiet (fail)
      go_wp2_with fail
      go_returns
      refine ⟨rfl, ?_, below_drewN H0.out _⟩
      rw [rowS, if_pos hfd.out, List.append_nil]
      exact HBd.out.later (below_drewN (Below.refl _ _) _)
end Go.Proofs.YtcgaaadcbhkfoaaGreatDoor
