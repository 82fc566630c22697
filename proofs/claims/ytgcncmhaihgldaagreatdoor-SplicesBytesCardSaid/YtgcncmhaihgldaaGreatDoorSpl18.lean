/- The walk of splices.Decode. -/
import Derived.Test.YtgcncmhaihgldaaGreatDoorSpl12
import Derived.Test.YtgcncmhaihgldaaGreatDoorSplAid
namespace Go.Proofs.YtgcncmhaihgldaaGreatDoor
open Go Go.Proofs Go.RowKit Go.Ink

/-- What stands behind the first k rounds of Decode's loop. -/
def decSt (b : List UInt8) : Nat → Int × Bool × Int × Int
  | 0 => (0, true, 0, 0)
  | 1 => match getAt b 0 with
    | none => (0, false, 0, 0)
    | some (a, j) => (j, true, a, 0)
  | _ => match getAt b 0 with
    | none => (0, false, 0, 0)
    | some (a, j) => match getAt b j with
      | none => (0, false, a, 0)
      | some (d, k) => (k, true, a, d)
theorem decSt_no {b : List UInt8} {at_ p d : Int} (h : decSt b 2 = (at_, false, p, d)) : decS b = (noSpl, 40) := by
  unfold decS decO
  simp only [decSt] at h
  split at h
  · rename_i h1; rw [h1]
  · rename_i h1
    split at h
    · rename_i h2; rw [h1]; simp only [h2]
    · cases h
theorem decSt_yes {b : List UInt8} {at_ p d : Int} (h : decSt b 2 = (at_, true, p, d)) : decS b = (match getLAt b at_ with
    | none => (noSpl, 40)
    | some (l, q) => if q < b.length ∨ checkS ⟨p, d, l⟩ ≠ 0 then (noSpl, 40) else (⟨p, d, l⟩, 0)) := by
  unfold decS decO
  simp only [decSt] at h
  split at h
  · cases h
  · rename_i h1
    split at h
    · cases h
    · rename_i h2
      simp only [Prod.mk.injEq, true_and] at h
      obtain ⟨rfl, rfl, rfl⟩ := h
      simp only [h1, h2]
      split
      · rename_i h3
        split at h3
        · rename_i h4; rw [h4]
        · rename_i h4
          rw [h4]
          simp only
          split at h3
          · rename_i h5; rw [if_pos h5]
          · cases h3
      · rename_i h3
        split at h3
        · cases h3
        · rename_i h4
          rw [h4]
          simp only
          split at h3
          · cases h3
          · rename_i h5
            rw [if_neg h5]
            injection h3 with h3
            rw [h3]
theorem decSt_in {b : List UInt8} : ∀ (k : Nat), 0 ≤ (decSt b k).1 := by
  intro k
  match k with
  | 0 => simp [decSt]
  | 1 =>
    simp only [decSt]
    split
    · simp
    · rename_i h; have := getAt_some h; simp only; omega
  | k + 2 =>
    simp only [decSt]
    split
    · simp
    · split
      · simp
      · rename_i h; have := getAt_some h; simp only; omega

set_option maxRecDepth 100000 in
set_option maxHeartbeats 2000000 in
theorem decode_any (b : List UInt8) (w : World) (hb : b.length ≤ 1099511627776) (he : Env w) :
    Calls Tryz.prog 7 #[.string ⟨b.toArray⟩] w (SplPost w (decS b)) := by
  have HE := Lib.hid he; clear he
  have H3 := Lib.hid (three_blocks w (.cells #[.int .i64 0, .int .i64 0, .slice none 0 0] 24 (0, 0)) (.cells #[.int .i64 0, .int .i64 0, .slice none 0 0] 24 (0, 0)) (.cells #[.pointer (some ⟨w.heap.size + 1, 0, none⟩), .pointer (some ⟨w.heap.size + 1, 1, none⟩)] 39 (0, 0)))
  have HG := Lib.hid (fun i w he => get_any b i w (by unfold maxLen; omega) he)
  have HGL := Lib.hid (fun i w he => getList_any b i w hb he)
  go_enter Tryz.func7, Tryz.ntmps7
  go_wp2_with fail
  have HP0 := Lib.hid H3.out.1
  have HQ0 := Lib.hid H3.out.2.1
  have HR0 := Lib.hid H3.out.2.2.1
  have HB0 := Lib.hid H3.out.2.2.2
  go_loopw [5, 6, 13] (fun av ov iv wr => ∃ (k : Nat) (A : Int) (O : Bool) (p d : Int), av = .int .i64 A ∧ ov = .bool O ∧ iv = .int .i64 k ∧ k ≤ 2 ∧ Hid (decSt b k = (A, O, p, d)) ∧ Hid (wr.heap[w.heap.size]? = some (.cells #[.int .i64 0, .int .i64 0, .slice none 0 0] 24 (0, 0))) ∧ Hid (wr.heap[w.heap.size + 1]? = some (.cells #[.int .i64 p, .int .i64 d, .slice none 0 0] 24 (0, 0))) ∧ Hid (wr.heap[w.heap.size + 2]? = some (.cells #[.pointer (some ⟨w.heap.size + 1, 0, none⟩), .pointer (some ⟨w.heap.size + 1, 1, none⟩)] 39 (0, 0))) ∧ Hid (Below w.heap.size w wr)) (fun _ _ iv _ => 2 - (intOf iv).toNat)
  case atStart => exact ⟨0, 0, true, 0, 0, rfl, rfl, rfl, by omega, Lib.hid rfl, HP0, HQ0, HR0, HB0⟩
  case round =>
    obtain ⟨k, A, O, p, d, rfl, rfl, rfl, hk, HD, HP, HQ, HR, HB⟩ := hrel
    have HE1 := Lib.hid (HE.out.later HB.out)
    clear H3 HP0 HQ0 HR0 HB0
    rcases (show k = 0 ∨ k = 1 ∨ k = 2 by omega) with rfl | rfl | rfl
    · have hd := HD.out
      simp only [decSt, Prod.mk.injEq] at hd
      obtain ⟨rfl, rfl, rfl, rfl⟩ := hd
      clear HD
      have e0 := Lib.cell_of_heap HR.out 0
      simp only [List.getElem?_toArray, List.getElem?_cons_succ, List.getElem?_cons_zero] at e0
      have hz := lt_of_heap HR.out
      cases hg : getAt b 0 with
      | none =>
        go_wp2_with fail
        refine (HG.out _ _ HE1.out).mono ?_
        rintro e w2 ⟨rfl, hb2⟩
        rw [hg]
        have HB2 := Lib.hid (HB.out.trans (hb2.mono HB.out.size))
        have HP2 := Lib.hid ((hb2.block _ (lt_of_heap HP.out)).trans HP.out)
        have HQ2 := Lib.hid ((hb2.block _ (lt_of_heap HQ.out)).trans HQ.out)
        have HR2 := Lib.hid ((hb2.block _ (lt_of_heap HR.out)).trans HR.out)
        have g0 := Lib.cell_of_heap HQ2.out 0
        simp only [List.getElem?_toArray, List.getElem?_cons_succ, List.getElem?_cons_zero] at g0
        have z0 := Lib.frozen_of_heap HQ2.out 0
        have HQ3 := Lib.hid (heap_set (j := 0) HQ2.out (.int .i64 0))
        have HP3 : Hid ((w2.setCell ⟨w.heap.size + 1, 0, none⟩ (.int .i64 0)).heap[w.heap.size]? = _) := Lib.hid ((Below.heap_setCell _ _ _ _ (by simp)).trans HP2.out)
        have HR3 : Hid ((w2.setCell ⟨w.heap.size + 1, 0, none⟩ (.int .i64 0)).heap[w.heap.size + 2]? = _) := Lib.hid ((Below.heap_setCell _ _ _ _ (by simp)).trans HR2.out)
        have HB3 : Hid (Below w.heap.size w (w2.setCell ⟨w.heap.size + 1, 0, none⟩ (.int .i64 0))) := Lib.hid (HB2.out.setCell (by simp) _)
        clear hb2 HB2 HP2 HQ2 HR2 HP HQ HR HB
        simp only [getV]
        go_wp2_with fail
        go_roundw
        case rel => exact ⟨1, 0, false, 0, 0, rfl, rfl, by go_num, by omega, Lib.hid (by simp [decSt, hg]), HP3, HQ3, HR3, HB3⟩
        case measure => simp [intOf]
      | some x =>
        obtain ⟨a, j⟩ := x
        go_wp2_with fail
        refine (HG.out _ _ HE1.out).mono ?_
        rintro e w2 ⟨rfl, hb2⟩
        rw [hg]
        have HB2 := Lib.hid (HB.out.trans (hb2.mono HB.out.size))
        have HP2 := Lib.hid ((hb2.block _ (lt_of_heap HP.out)).trans HP.out)
        have HQ2 := Lib.hid ((hb2.block _ (lt_of_heap HQ.out)).trans HQ.out)
        have HR2 := Lib.hid ((hb2.block _ (lt_of_heap HR.out)).trans HR.out)
        have g0 := Lib.cell_of_heap HQ2.out 0
        simp only [List.getElem?_toArray, List.getElem?_cons_succ, List.getElem?_cons_zero] at g0
        have z0 := Lib.frozen_of_heap HQ2.out 0
        have HQ3 := Lib.hid (heap_set (j := 0) HQ2.out (.int .i64 a))
        have HP3 : Hid ((w2.setCell ⟨w.heap.size + 1, 0, none⟩ (.int .i64 a)).heap[w.heap.size]? = _) := Lib.hid ((Below.heap_setCell _ _ _ _ (by simp)).trans HP2.out)
        have HR3 : Hid ((w2.setCell ⟨w.heap.size + 1, 0, none⟩ (.int .i64 a)).heap[w.heap.size + 2]? = _) := Lib.hid ((Below.heap_setCell _ _ _ _ (by simp)).trans HR2.out)
        have HB3 : Hid (Below w.heap.size w (w2.setCell ⟨w.heap.size + 1, 0, none⟩ (.int .i64 a))) := Lib.hid (HB2.out.setCell (by simp) _)
        clear hb2 HB2 HP2 HQ2 HR2 HP HQ HR HB
        simp only [getV]
        go_wp2_with fail
        go_roundw
        case rel => exact ⟨1, j, true, a, 0, rfl, rfl, by go_num, by omega, Lib.hid (by simp [decSt, hg]), HP3, HQ3, HR3, HB3⟩
        case measure => simp [intOf]
    · cases hg : getAt b 0 with
      | none =>
        have hd := HD.out
        simp only [decSt, hg, Prod.mk.injEq] at hd
        obtain ⟨rfl, rfl, rfl, rfl⟩ := hd
        clear HD
        have e0 := Lib.cell_of_heap HR.out 1
        simp only [List.getElem?_toArray, List.getElem?_cons_succ, List.getElem?_cons_zero] at e0
        have hz := lt_of_heap HR.out
        go_wp2_with fail
        go_roundw
        case rel => exact ⟨2, 0, false, 0, 0, rfl, rfl, by go_num, by omega, Lib.hid (by simp [decSt, hg]), HP, HQ, HR, HB⟩
        case measure => simp [intOf]
      | some x =>
        obtain ⟨a, j⟩ := x
        have hd := HD.out
        simp only [decSt, hg, Prod.mk.injEq] at hd
        obtain ⟨rfl, rfl, rfl, rfl⟩ := hd
        clear HD
        have e0 := Lib.cell_of_heap HR.out 1
        simp only [List.getElem?_toArray, List.getElem?_cons_succ, List.getElem?_cons_zero] at e0
        have hz := lt_of_heap HR.out
        cases hg2 : getAt b j with
        | none =>
          go_wp2_with fail
          refine (HG.out _ _ HE1.out).mono ?_
          rintro e w2 ⟨rfl, hb2⟩
          rw [hg2]
          have HB2 := Lib.hid (HB.out.trans (hb2.mono HB.out.size))
          have HP2 := Lib.hid ((hb2.block _ (lt_of_heap HP.out)).trans HP.out)
          have HQ2 := Lib.hid ((hb2.block _ (lt_of_heap HQ.out)).trans HQ.out)
          have HR2 := Lib.hid ((hb2.block _ (lt_of_heap HR.out)).trans HR.out)
          have g0 := Lib.cell_of_heap HQ2.out 1
          simp only [List.getElem?_toArray, List.getElem?_cons_succ, List.getElem?_cons_zero] at g0
          have z0 := Lib.frozen_of_heap HQ2.out 1
          have HQ3 := Lib.hid (heap_set (j := 1) HQ2.out (.int .i64 0))
          have HP3 : Hid ((w2.setCell ⟨w.heap.size + 1, 1, none⟩ (.int .i64 0)).heap[w.heap.size]? = _) := Lib.hid ((Below.heap_setCell _ _ _ _ (by simp)).trans HP2.out)
          have HR3 : Hid ((w2.setCell ⟨w.heap.size + 1, 1, none⟩ (.int .i64 0)).heap[w.heap.size + 2]? = _) := Lib.hid ((Below.heap_setCell _ _ _ _ (by simp)).trans HR2.out)
          have HB3 : Hid (Below w.heap.size w (w2.setCell ⟨w.heap.size + 1, 1, none⟩ (.int .i64 0))) := Lib.hid (HB2.out.setCell (by simp) _)
          clear hb2 HB2 HP2 HQ2 HR2 HP HQ HR HB
          simp only [getV]
          go_wp2_with fail
          go_roundw
          case rel => exact ⟨2, 0, false, a, 0, rfl, rfl, by go_num, by omega, Lib.hid (by simp [decSt, hg, hg2]), HP3, HQ3, HR3, HB3⟩
          case measure => simp [intOf]
        | some x =>
          obtain ⟨d, q⟩ := x
          go_wp2_with fail
          refine (HG.out _ _ HE1.out).mono ?_
          rintro e w2 ⟨rfl, hb2⟩
          rw [hg2]
          have HB2 := Lib.hid (HB.out.trans (hb2.mono HB.out.size))
          have HP2 := Lib.hid ((hb2.block _ (lt_of_heap HP.out)).trans HP.out)
          have HQ2 := Lib.hid ((hb2.block _ (lt_of_heap HQ.out)).trans HQ.out)
          have HR2 := Lib.hid ((hb2.block _ (lt_of_heap HR.out)).trans HR.out)
          have g0 := Lib.cell_of_heap HQ2.out 1
          simp only [List.getElem?_toArray, List.getElem?_cons_succ, List.getElem?_cons_zero] at g0
          have z0 := Lib.frozen_of_heap HQ2.out 1
          have HQ3 := Lib.hid (heap_set (j := 1) HQ2.out (.int .i64 d))
          have HP3 : Hid ((w2.setCell ⟨w.heap.size + 1, 1, none⟩ (.int .i64 d)).heap[w.heap.size]? = _) := Lib.hid ((Below.heap_setCell _ _ _ _ (by simp)).trans HP2.out)
          have HR3 : Hid ((w2.setCell ⟨w.heap.size + 1, 1, none⟩ (.int .i64 d)).heap[w.heap.size + 2]? = _) := Lib.hid ((Below.heap_setCell _ _ _ _ (by simp)).trans HR2.out)
          have HB3 : Hid (Below w.heap.size w (w2.setCell ⟨w.heap.size + 1, 1, none⟩ (.int .i64 d))) := Lib.hid (HB2.out.setCell (by simp) _)
          clear hb2 HB2 HP2 HQ2 HR2 HP HQ HR HB
          simp only [getV]
          go_wp2_with fail
          go_roundw
          case rel => exact ⟨2, q, true, a, d, rfl, rfl, by go_num, by omega, Lib.hid (by simp [decSt, hg, hg2]), HP3, HQ3, HR3, HB3⟩
          case measure => simp [intOf]
    · cases O with
      | false =>
        have HV := Lib.hid (decSt_no HD.out)
        clear HD
        have y0 : wr.cell? ⟨w.heap.size, 0, none⟩ = some (.int .i64 0) := by rw [Lib.cell_of_heap HP.out]; rfl
        have y1 : wr.cell? ⟨w.heap.size, 1, none⟩ = some (.int .i64 0) := by rw [Lib.cell_of_heap HP.out]; rfl
        have y2 : wr.cell? ⟨w.heap.size, 2, none⟩ = some (.slice none 0 0) := by rw [Lib.cell_of_heap HP.out]; rfl
        have f0 := Lib.frozen_of_heap HP.out 0
        have f1 := Lib.frozen_of_heap HP.out 1
        have f2 := Lib.frozen_of_heap HP.out 2
        obtain ⟨s0, s1, s2⟩ := three_cells HP.out (.int .i64 0) (.int .i64 0) (.slice none 0 0)
        have HFB : Hid (Below w.heap.size w (((wr.setCell ⟨w.heap.size, 0, none⟩ (.int .i64 0)).setCell ⟨w.heap.size, 1, none⟩ (.int .i64 0)).setCell ⟨w.heap.size, 2, none⟩ (.slice none 0 0))) := Lib.hid (((HB.out.setCell (by simp) _).setCell (by simp) _).setCell (by simp) _)
        go_wp2_with fail
        refine bodyPost_ret (v := .tuple #[.agg #[(.int .i64 0), (.int .i64 0), (.slice none 0 0)], .int .i64 40]) (by simp [results, Tryz.results7, go_sem, s0, s1, s2]) rfl ?_
        rw [HV.out]
        exact ⟨_, rfl, OwnStrs.nil _ _, HFB.out⟩
      | true =>
        have hv := decSt_yes HD.out
        have hA := decSt_in (b := b) 2
        rw [HD.out] at hA
        simp only at hA
        clear HD
        cases hg : getLAt b A with
        | none =>
          rw [hg] at hv
          have HV := Lib.hid hv
          clear hv
          go_wp2_with fail
          refine (HGL.out _ _ HE1.out).mono ?_
          rintro e w2 ⟨v2, rfl, ho2, hb2⟩
          rw [hg] at ho2 ⊢
          simp only [Option.map_none, Option.getD_none, Option.isSome_none] at ho2 ⊢
          obtain ⟨a2, k2, hv2⟩ := ownsRow_shape ho2
          subst hv2
          have HB2 := Lib.hid (HB.out.trans (hb2.mono HB.out.size))
          have HP2 := Lib.hid ((hb2.block _ (lt_of_heap HP.out)).trans HP.out)
          have HQ2 := Lib.hid ((hb2.block _ (lt_of_heap HQ.out)).trans HQ.out)
          have x2 := Lib.cell_of_heap HQ2.out 2
          simp only [List.getElem?_toArray, List.getElem?_cons_succ, List.getElem?_cons_zero] at x2
          have z2 := Lib.frozen_of_heap HQ2.out 2
          have HP3 : Hid ((w2.setCell ⟨w.heap.size + 1, 2, none⟩ (.slice a2 ([] : List (List UInt8)).length k2)).heap[w.heap.size]? = _) := Lib.hid ((Below.heap_setCell _ _ _ _ (by simp)).trans HP2.out)
          have HB3 : Hid (Below w.heap.size w (w2.setCell ⟨w.heap.size + 1, 2, none⟩ (.slice a2 ([] : List (List UInt8)).length k2))) := Lib.hid (HB2.out.setCell (by simp) _)
          simp only [List.length_nil] at HP3 HB3
          clear ho2 hb2 HB2 HP2 HQ2 HP HQ HR HB
          have y0 : (w2.setCell ⟨w.heap.size + 1, 2, none⟩ (.slice a2 0 k2)).cell? ⟨w.heap.size, 0, none⟩ = some (.int .i64 0) := by rw [Lib.cell_of_heap HP3.out]; rfl
          have y1 : (w2.setCell ⟨w.heap.size + 1, 2, none⟩ (.slice a2 0 k2)).cell? ⟨w.heap.size, 1, none⟩ = some (.int .i64 0) := by rw [Lib.cell_of_heap HP3.out]; rfl
          have y2 : (w2.setCell ⟨w.heap.size + 1, 2, none⟩ (.slice a2 0 k2)).cell? ⟨w.heap.size, 2, none⟩ = some (.slice none 0 0) := by rw [Lib.cell_of_heap HP3.out]; rfl
          have f0 := Lib.frozen_of_heap HP3.out 0
          have f1 := Lib.frozen_of_heap HP3.out 1
          have f2 := Lib.frozen_of_heap HP3.out 2
          obtain ⟨s0, s1, s2⟩ := three_cells HP3.out (.int .i64 0) (.int .i64 0) (.slice none 0 0)
          have HFB : Hid (Below w.heap.size w ((((w2.setCell ⟨w.heap.size + 1, 2, none⟩ (.slice a2 0 k2)).setCell ⟨w.heap.size, 0, none⟩ (.int .i64 0)).setCell ⟨w.heap.size, 1, none⟩ (.int .i64 0)).setCell ⟨w.heap.size, 2, none⟩ (.slice none 0 0))) := Lib.hid (((HB3.out.setCell (by simp) _).setCell (by simp) _).setCell (by simp) _)
          go_wp2_with fail
          refine bodyPost_ret (v := .tuple #[.agg #[(.int .i64 0), (.int .i64 0), (.slice none 0 0)], .int .i64 40]) (by simp [results, Tryz.results7, go_sem, s0, s1, s2]) rfl ?_
          rw [HV.out]
          exact ⟨_, rfl, OwnStrs.nil _ _, HFB.out⟩
        | some x =>
          obtain ⟨l, q⟩ := x
          rw [hg] at hv
          simp only at hv
          obtain ⟨_, _, _, _, hqb, hqA, _⟩ := getLAt_way (by omega) hg
          have hq0 : 0 ≤ q := by omega
          have HVX := Lib.hid hv
          clear hqA hv
          go_wp2_with fail
          refine (HGL.out _ _ HE1.out).mono ?_
          rintro e w2 ⟨v2, rfl, ho2, hb2⟩
          rw [hg] at ho2 ⊢
          simp only [Option.map_some, Option.getD_some, Option.isSome_some] at ho2 ⊢
          obtain ⟨a2, k2, hv2⟩ := ownsRow_shape ho2
          subst hv2
          have HB2 := Lib.hid (HB.out.trans (hb2.mono HB.out.size))
          have HP2 := Lib.hid ((hb2.block _ (lt_of_heap HP.out)).trans HP.out)
          have HQ2 := Lib.hid ((hb2.block _ (lt_of_heap HQ.out)).trans HQ.out)
          have x2 := Lib.cell_of_heap HQ2.out 2
          simp only [List.getElem?_toArray, List.getElem?_cons_succ, List.getElem?_cons_zero] at x2
          have z2 := Lib.frozen_of_heap HQ2.out 2
          have HWZ := Lib.hid (lt_of_heap HR.out)
          have HP3 : Hid ((w2.setCell ⟨w.heap.size + 1, 2, none⟩ (.slice a2 l.length k2)).heap[w.heap.size]? = _) := Lib.hid ((Below.heap_setCell _ _ _ _ (by simp)).trans HP2.out)
          have HQ3 : Hid ((w2.setCell ⟨w.heap.size + 1, 2, none⟩ (.slice a2 l.length k2)).heap[w.heap.size + 1]? = some (.cells #[.int .i64 p, .int .i64 d, .slice a2 l.length k2] 24 (0, 0))) := Lib.hid (heap_set (j := 2) HQ2.out (.slice a2 l.length k2))
          have HB3 : Hid (Below w.heap.size w (w2.setCell ⟨w.heap.size + 1, 2, none⟩ (.slice a2 l.length k2))) := Lib.hid (HB2.out.setCell (by simp) _)
          have HO3 : Hid (OwnStrs (w2.setCell ⟨w.heap.size + 1, 2, none⟩ (.slice a2 l.length k2)) wr.heap.size (.slice a2 l.length k2) l) := Lib.hid (ownsRow_setCell_below ho2 (a := ⟨w.heap.size + 1, 2, none⟩) (by have := HWZ.out; simp only; omega) _)
          clear ho2 hb2 HB2 HP2 HQ2 HP HQ HR HB
          by_cases hql : q < (b.length : Int)
          · have HV := Lib.hid (HVX.out.trans (if_pos (.inl hql)))
            clear HVX
            have y0 : (w2.setCell ⟨w.heap.size + 1, 2, none⟩ (.slice a2 l.length k2)).cell? ⟨w.heap.size, 0, none⟩ = some (.int .i64 0) := by rw [Lib.cell_of_heap HP3.out]; rfl
            have y1 : (w2.setCell ⟨w.heap.size + 1, 2, none⟩ (.slice a2 l.length k2)).cell? ⟨w.heap.size, 1, none⟩ = some (.int .i64 0) := by rw [Lib.cell_of_heap HP3.out]; rfl
            have y2 : (w2.setCell ⟨w.heap.size + 1, 2, none⟩ (.slice a2 l.length k2)).cell? ⟨w.heap.size, 2, none⟩ = some (.slice none 0 0) := by rw [Lib.cell_of_heap HP3.out]; rfl
            have f0 := Lib.frozen_of_heap HP3.out 0
            have f1 := Lib.frozen_of_heap HP3.out 1
            have f2 := Lib.frozen_of_heap HP3.out 2
            obtain ⟨s0, s1, s2⟩ := three_cells HP3.out (.int .i64 0) (.int .i64 0) (.slice none 0 0)
            have HFB : Hid (Below w.heap.size w ((((w2.setCell ⟨w.heap.size + 1, 2, none⟩ (.slice a2 l.length k2)).setCell ⟨w.heap.size, 0, none⟩ (.int .i64 0)).setCell ⟨w.heap.size, 1, none⟩ (.int .i64 0)).setCell ⟨w.heap.size, 2, none⟩ (.slice none 0 0))) := Lib.hid (((HB3.out.setCell (by simp) _).setCell (by simp) _).setCell (by simp) _)
            go_wp2_with fail
            refine bodyPost_ret (v := .tuple #[.agg #[(.int .i64 0), (.int .i64 0), (.slice none 0 0)], .int .i64 40]) (by simp [results, Tryz.results7, go_sem, s0, s1, s2]) rfl ?_
            rw [HV.out]
            exact ⟨_, rfl, OwnStrs.nil _ _, HFB.out⟩
          · obtain ⟨x0, x1, x2'⟩ := box_spl (s := ⟨p, d, l⟩) HQ3.out
            simp only at x0 x1 x2'
            have HCK := Lib.hid (splCheck_any ⟨p, d, l⟩ a2 k2 _ (own_slOfV rfl HO3.out))
            simp only [splV] at HCK
            by_cases hce : checkS ⟨p, d, l⟩ = 0
            · have HV := Lib.hid (HVX.out.trans (if_neg (by rw [hce]; simp only [ne_eq, not_true_eq_false, or_false]; exact hql)))
              rw [hce] at HCK
              clear HVX hce
              go_wp2_with fail
              generalize w2.setCell ⟨w.heap.size + 1, 2, none⟩ (.slice a2 l.length k2) = w4 at *
              refine HCK.out.mono ?_
              rintro e w5 ⟨rfl, hb5⟩
              have HP5 := Lib.hid ((hb5.block _ (lt_of_heap HP3.out)).trans HP3.out)
              have HQ5 := Lib.hid ((hb5.block _ (lt_of_heap HQ3.out)).trans HQ3.out)
              have HB5 := Lib.hid (HB3.out.trans (hb5.mono HB3.out.size))
              have HO5 := Lib.hid (ownsRow_below HO3.out hb5)
              clear hb5 HCK HP3 HQ3 HB3 HO3 x0 x1 x2' x2 z2
              obtain ⟨x0, x1, x2⟩ := box_spl (s := ⟨p, d, l⟩) HQ5.out
              simp only at x0 x1 x2
              have HWL := Lib.hid (show w.heap.size < wr.heap.size by have := HWZ.out; omega)
              have y0 : w5.cell? ⟨w.heap.size, 0, none⟩ = some (.int .i64 0) := by rw [Lib.cell_of_heap HP5.out]; rfl
              have y1 : w5.cell? ⟨w.heap.size, 1, none⟩ = some (.int .i64 0) := by rw [Lib.cell_of_heap HP5.out]; rfl
              have y2 : w5.cell? ⟨w.heap.size, 2, none⟩ = some (.slice none 0 0) := by rw [Lib.cell_of_heap HP5.out]; rfl
              have f0 := Lib.frozen_of_heap HP5.out 0
              have f1 := Lib.frozen_of_heap HP5.out 1
              have f2 := Lib.frozen_of_heap HP5.out 2
              obtain ⟨s0, s1, s2⟩ := three_cells HP5.out (.int .i64 p) (.int .i64 d) (.slice a2 l.length k2)
              have HFB : Hid (Below w.heap.size w (((w5.setCell ⟨w.heap.size, 0, none⟩ (.int .i64 p)).setCell ⟨w.heap.size, 1, none⟩ (.int .i64 d)).setCell ⟨w.heap.size, 2, none⟩ (.slice a2 l.length k2))) := Lib.hid (((HB5.out.setCell (by simp) _).setCell (by simp) _).setCell (by simp) _)
              go_wp2_with fail
              refine bodyPost_ret (v := .tuple #[.agg #[(.int .i64 p), (.int .i64 d), (.slice a2 l.length k2)], .int .i64 0]) (by simp [results, Tryz.results7, go_sem, s0, s1, s2]) rfl ?_
              rw [HV.out]
              exact ⟨_, rfl, ownsRow_base (ownsRow_setCell_below (ownsRow_setCell_below (ownsRow_setCell_below HO5.out (a := ⟨w.heap.size, 0, none⟩) HWL.out _) (a := ⟨w.heap.size, 1, none⟩) HWL.out _) (a := ⟨w.heap.size, 2, none⟩) HWL.out _) (Nat.le_of_lt HWL.out), HFB.out⟩
            · have HV := Lib.hid (HVX.out.trans (if_pos (.inr hce)))
              have hq2 : (checkS ⟨p, d, l⟩ == 0) = false := by simpa using hce
              clear HVX hce
              go_wp2_with fail
              generalize w2.setCell ⟨w.heap.size + 1, 2, none⟩ (.slice a2 l.length k2) = w4 at *
              refine HCK.out.mono ?_
              rintro e w5 ⟨rfl, hb5⟩
              have HP5 := Lib.hid ((hb5.block _ (lt_of_heap HP3.out)).trans HP3.out)
              have HQ5 := Lib.hid ((hb5.block _ (lt_of_heap HQ3.out)).trans HQ3.out)
              have HB5 := Lib.hid (HB3.out.trans (hb5.mono HB3.out.size))
              have HO5 := Lib.hid (ownsRow_below HO3.out hb5)
              clear hb5 HCK HP3 HQ3 HB3 HO3 x0 x1 x2' x2 z2
              have y0 : w5.cell? ⟨w.heap.size, 0, none⟩ = some (.int .i64 0) := by rw [Lib.cell_of_heap HP5.out]; rfl
              have y1 : w5.cell? ⟨w.heap.size, 1, none⟩ = some (.int .i64 0) := by rw [Lib.cell_of_heap HP5.out]; rfl
              have y2 : w5.cell? ⟨w.heap.size, 2, none⟩ = some (.slice none 0 0) := by rw [Lib.cell_of_heap HP5.out]; rfl
              have f0 := Lib.frozen_of_heap HP5.out 0
              have f1 := Lib.frozen_of_heap HP5.out 1
              have f2 := Lib.frozen_of_heap HP5.out 2
              obtain ⟨s0, s1, s2⟩ := three_cells HP5.out (.int .i64 0) (.int .i64 0) (.slice none 0 0)
              have HFB : Hid (Below w.heap.size w (((w5.setCell ⟨w.heap.size, 0, none⟩ (.int .i64 0)).setCell ⟨w.heap.size, 1, none⟩ (.int .i64 0)).setCell ⟨w.heap.size, 2, none⟩ (.slice none 0 0))) := Lib.hid (((HB5.out.setCell (by simp) _).setCell (by simp) _).setCell (by simp) _)
              go_wp2_with fail
              refine bodyPost_ret (v := .tuple #[.agg #[(.int .i64 0), (.int .i64 0), (.slice none 0 0)], .int .i64 40]) (by simp [results, Tryz.results7, go_sem, s0, s1, s2]) rfl ?_
              rw [HV.out]
              exact ⟨_, rfl, OwnStrs.nil _ _, HFB.out⟩
end Go.Proofs.YtgcncmhaihgldaaGreatDoor
