/- The walks of moves: ends. -/
import Derived.Test.YtopbpmcanhbklaaGreatDoorMv6
set_option linter.unusedVariables false
set_option linter.unusedSimpArgs false
namespace Go.Proofs.YtopbpmcanhbklaaGreatDoor
open Go Go.Proofs Go.RowKit Go.Ink Go.Sort

theorem e1_succ (ls : List (List UInt8)) (big : Bool) (f : Nat) (p : Pl) (ok : Bool) : e1 ls big (f + 1) p ok = if ok = true ∧ atK ls big p = 0 then e1 ls big f (onP ls p).1 (onP ls p).2 else (p, ok) := rfl
theorem e1_off {ls : List (List UInt8)} {big : Bool} : ∀ f (p : Pl), e1 ls big f p false = (p, false)
  | 0, _ => rfl
  | f + 1, p => by unfold e1; rw [if_neg (by simp)]
theorem e2_succ (ls : List (List UInt8)) (big : Bool) (k i f c : Nat) : e2 ls big k i (f + 1) c = if 0 < k ∧ c + 1 < (lnL ls i).length ∧ kindB ((lnL ls i).getD (c + 1) 0) big = k then e2 ls big k i f (c + 1) else c := rfl
theorem e2_past {ls : List (List UInt8)} {big : Bool} {k i : Nat} : ∀ (f c : Nat), (lnL ls i).length ≤ c + 1 → e2 ls big k i f c = c
  | 0, _, _ => rfl
  | f + 1, c, h => by unfold e2; rw [if_neg (by omega)]
set_option maxRecDepth 100000 in
set_option maxHeartbeats 4000000 in
theorem ends_any {w : World} {m : Nat} {ls : List (List UInt8)} {ao : Option Addr} {cap : Nat} {p : Pl} {n : Nat} (h : MwAt w m ls ao cap p n) (big : Bool) :
    Calls Tryz.prog 21 #[.pointer (some ⟨m, 0, none⟩), .bool big] w fun e w' => e = .returned (.tuple #[toV (manyP (endsP ls big) n p).1 false true, .bool (decide ((manyP (endsP ls big) n p).1 ≠ p))]) ∧ Below w.heap.size w w' := by
  obtain ⟨w2, hw2⟩ : ∃ w2, (w.alloc (.cells #[.int .i64 0, .int .i64 0, .bool false, .bool false] 35)).alloc (.cells #[.int .i64 ((p.1 : Int) + 1), .int .i64 (p.2 : Int)] 24) = w2 := ⟨_, rfl⟩
  have hst := @st_new w ls p h.ok
  rw [hw2] at hst
  have HS2 := Lib.hid hst
  have HM := Lib.hid h
  have hn := h.small
  have m1 := (((Below.refl w.heap.size w).alloc (Nat.le_refl _) (.cells #[.int .i64 0, .int .i64 0, .bool false, .bool false] 35)).cell (p := ⟨m, 1, none⟩) (lt_of_cell h.c1)).trans h.c1
  have m2 := (((Below.refl w.heap.size w).alloc (Nat.le_refl _) (.cells #[.int .i64 0, .int .i64 0, .bool false, .bool false] 35)).cell (p := ⟨m, 2, none⟩) (lt_of_cell h.c2)).trans h.c2
  clear h hst
  go_enter Tryz.func21, Tryz.ntmps21
  go_upto_block 0 with fail
  clear m1 m2 hw2
  generalize hyy : w.heap.size = y at *
  have HYY := Lib.hid hyy
  clear hyy
  go_cut [7] from 15 to 80 (fun okv wx => ∃ (q : Pl) (ok : Bool), okv = .bool ok ∧ Hid (StAt w wx ls y q) ∧ Hid (manyP (endsP ls big) n p = (q, ok)))
  case first =>
    go_wp2_with fail
    go_loopw [7, 8] (fun okv iv wr => ∃ (k : Nat) (q : Pl) (ok : Bool), iv = .int .i64 (k : Int) ∧ okv = .bool ok ∧ k ≤ n ∧ Hid (StAt w wr ls y q) ∧ Hid (manyP (endsP ls big) n p = if ok = true then manyP (endsP ls big) (n - k) q else (q, false))) (fun _ iv _ => n - (intOf iv).toNat)
    case atStart => exact ⟨0, p, true, rfl, rfl, by omega, HS2, Lib.hid (by simp)⟩
    case round =>
      obtain ⟨k, q, ok, rfl, rfl, hk, HQ, HE⟩ := hrel
      clear HS2
      have HMQ := Lib.hid (HM.out.later HQ.out.pl.below)
      have dn := HMQ.out.cn
      obtain ⟨x0, x1, f0, f1⟩ := HQ.out.pl.cells
      by_cases hlt : k < n
      case neg =>
        have hlti : ¬ (k : Int) < (n : Int) := by omega
        have hk0 : n - k = 0 := by omega
        go_wp2_with fail
        go_meet
        case rel => 
          refine ⟨q, ok, rfl, HQ, Lib.hid ?_⟩
          rw [HE.out, hk0]
          cases ok <;> rfl
      have hlti : (k : Int) < (n : Int) := by omega
      cases ok
      · go_wp2_with fail
        go_meet
        case rel => exact ⟨q, false, rfl, HQ, Lib.hid (by rw [HE.out]; rfl)⟩
      have HE6 : Hid (manyP (endsP ls big) n p = if (endsP ls big q).2 = true then manyP (endsP ls big) (n - (k + 1)) (endsP ls big q).1 else ((endsP ls big q).1, false)) := Lib.hid (by
        rw [HE.out, if_pos (by trivial), show n - k = n - (k + 1) + 1 by omega, many_next])
      clear HE
      go_wp2_with fail
      have hbk := on_any HMQ.out.mv q HQ.out.ok
      unfold plV at hbk
      refine hbk.mono ?_
      rintro e w5 ⟨rfl, hb5⟩
      have HW5 := Lib.hid (HQ.out.later hb5)
      obtain ⟨hk1, hk2, hk3⟩ := on_ok HQ.out.ok
      have HW6 := Lib.hid (HW5.out.set hk1)
      clear hbk hb5 x0 x1 f0 f1 dn hk2 hk3
      obtain ⟨x0, x1, f0, f1⟩ := HW5.out.pl.cells
      cases hbo : (onP ls q).2
      · have HA : Hid (endsP ls big q = ((onP ls q).1, false)) := Lib.hid (by unfold endsP; rw [if_pos hbo]; exact Prod.ext rfl hbo)
        clear hbo
        go_wp2_with fail
        go_meet
        case rel => exact ⟨(onP ls q).1, false, rfl, HW6, Lib.hid (by rw [HE6.out, HA.out]; rfl)⟩
      have HA : Hid (endsP ls big q = (((e1 ls big (allN ls) (onP ls q).1 true).1.1, e2 ls big (atK ls big (e1 ls big (allN ls) (onP ls q).1 true).1) (e1 ls big (allN ls) (onP ls q).1 true).1.1 (lnL ls (e1 ls big (allN ls) (onP ls q).1 true).1.1).length (e1 ls big (allN ls) (onP ls q).1 true).1.2), (e1 ls big (allN ls) (onP ls q).1 true).2)) := Lib.hid (by unfold endsP; rw [if_neg (by rw [hbo]; simp)])
      clear hbo hk1
      generalize (onP ls q).1 = s0 at *
      have HI0 := Lib.hid (idx_lt HW6.out.ok)
      go_upto_block 2 with fail
      clear x0 x1 f0 f1
      go_cut [7] from 15 to 80 (fun okv wx => ∃ (r : Pl) (okr : Bool), okv = .bool okr ∧ Hid (StAt w wx ls y r) ∧ Hid (e1 ls big (allN ls) s0 true = (r, okr)))
      case first =>
        go_wp2_with fail
        go_loopw [7] (fun okv wi => ∃ (r : Pl) (okr : Bool) (f : Nat), okv = .bool okr ∧ Hid (StAt w wi ls y r) ∧ Hid (e1 ls big (allN ls) s0 true = e1 ls big f r okr) ∧ Hid (okr = true → allN ls ≤ f + idx ls r)) (fun okv wi => leftP ls (plOf wi (y + 1)) okv)
        case atStart => exact ⟨s0, true, allN ls, rfl, HW6, Lib.hid rfl, Lib.hid (fun _ => by omega)⟩
        case round =>
          obtain ⟨r, okr, f, rfl, HR, HB, HF⟩ := hrel
          clear HW6 HW5
          cases okr
          · go_wp2_with fail
            go_meet
            case rel => exact ⟨r, false, rfl, HR, Lib.hid (by rw [HB.out, e1_off])⟩
          obtain ⟨f, rfl⟩ : ∃ f', f = f' + 1 := ⟨f - 1, by have a1 := HF.out (by trivial); have a2 := idx_lt HR.out.ok; omega⟩
          have HS := Lib.hid (e1_succ ls big f r true)
          obtain ⟨x0, x1, f0, f1⟩ := HR.out.pl.cells
          have HMR := Lib.hid (HM.out.mv.later HR.out.pl.below)
          go_wp2_with fail
          have hat := at_any HMR.out r HR.out.ok big
          unfold plV at hat
          refine hat.mono ?_
          rintro e w7 ⟨rfl, hb7⟩
          have HR7 := Lib.hid (HR.out.later hb7)
          have HM7 := Lib.hid (HMR.out.later hb7)
          clear hat hb7 x0 x1 f0 f1
          obtain ⟨x0, x1, f0, f1⟩ := HR7.out.pl.cells
          by_cases ha : atK ls big r = 0
          case neg =>
            have hab : ((atK ls big r : Int) == 0) = false := by rw [beq_eq_false_iff_ne]; omega
            have HNA := Lib.hid ha
            clear ha
            go_wp2_with fail
            go_meet
            case rel => exact ⟨r, true, rfl, HR7, Lib.hid (by rw [HB.out, HS.out, if_neg (by rintro ⟨_, h⟩; exact HNA.out h)])⟩
          have hab : ((atK ls big r : Int) == 0) = true := by rw [beq_iff_eq]; omega
          have HAQ := Lib.hid ha
          clear ha
          go_wp2_with fail
          have hbk := on_any HM7.out r HR7.out.ok
          unfold plV at hbk
          refine hbk.mono ?_
          rintro e w9 ⟨rfl, hb9⟩
          have HR9 := Lib.hid (HR7.out.later hb9)
          obtain ⟨ho1, ho2, ho3⟩ := on_ok HR7.out.ok
          have HR10 := Lib.hid (HR9.out.set ho1)
          have HF10 : Hid ((onP ls r).2 = true → allN ls ≤ f + idx ls (onP ls r).1) := Lib.hid (fun hb => by have a1 := ho2 hb; have a2 := HF.out (by trivial); omega)
          have HB10 : Hid (e1 ls big (allN ls) s0 true = e1 ls big f (onP ls r).1 (onP ls r).2) := Lib.hid (by rw [HB.out, HS.out, if_pos ⟨by trivial, HAQ.out⟩])
          clear hbk hb9 ho1 ho2 ho3 x0 x1 f0 f1
          obtain ⟨x0, x1, f0, f1⟩ := HR9.out.pl.cells
          go_wp2_with fail
          go_roundw
          case rel => exact ⟨(onP ls r).1, (onP ls r).2, f, rfl, HR10, HB10, HF10⟩
          case measure =>
            rw [HR10.out.pl.of, HR.out.pl.of]
            exact left_on HR.out.ok
      case rest =>
        obtain ⟨r, okr, rfl, HR, HB⟩ := hcut
        clear HW6 HW5 HI0
        have HA2 : Hid (endsP ls big q = ((r.1, e2 ls big (atK ls big r) r.1 (lnL ls r.1).length r.2), okr)) := Lib.hid (by rw [HA.out, HB.out])
        clear HA HB
        obtain ⟨x0, x1, f0, f1⟩ := HR.out.pl.cells
        have HMR := Lib.hid (HM.out.mv.later HR.out.pl.below)
        go_wp2_with fail
        have hat := at_any HMR.out r HR.out.ok big
        unfold plV at hat
        refine hat.mono ?_
        rintro e w7 ⟨rfl, hb7⟩
        have HR7 := Lib.hid (HR.out.later hb7)
        clear hat hb7 x0 x1 f0 f1 HR HMR
        generalize atK ls big r = k3 at *
        go_wp2_with fail
        go_loopw [] (fun wi => ∃ (c f : Nat), Hid (StAt w wi ls y (r.1, c)) ∧ Hid (e2 ls big k3 r.1 (lnL ls r.1).length r.2 = e2 ls big k3 r.1 f c) ∧ Hid ((lnL ls r.1).length ≤ f + c)) (fun wi => (lnL ls r.1).length - (plOf wi (y + 1)).2)
        case atStart => exact ⟨r.2, (lnL ls r.1).length, HR7, Lib.hid rfl, Lib.hid (by omega)⟩
        case round =>
          obtain ⟨c, f, HR8, HB2, HF2⟩ := hrel
          clear HR7
          obtain ⟨x0, x1, f0, f1⟩ := HR8.out.pl.cells
          simp only at x0 x1
          by_cases hk0 : 0 < k3
          case neg =>
            have hk0i : ¬ (0 : Int) < (k3 : Int) := by omega
            have hk3 : k3 = 0 := by omega
            have HDR := Lib.hid (fun n => HR8.out.drewN n)
            go_wp2_with fail
            go_quiet (fail)
            go_wp2_with fail
            have HB3 : Hid (e2 ls big k3 r.1 (lnL ls r.1).length r.2 = c) := Lib.hid (by rw [HB2.out, hk3, e2_zero])
            have HA3 := Lib.hid (show StAt w _ ls y (endsP ls big q).1 from by rw [HA2.out, HB3.out]; exact HDR.out nq)
            have HA4 : Hid ((endsP ls big q).2 = okr) := Lib.hid (by rw [HA2.out])
            clear HB3 HA2 HB2
            go_roundw
            case rel => exact ⟨k + 1, (endsP ls big q).1, okr, by go_num, rfl, by omega, HA3, Lib.hid (by rw [HE6.out, HA4.out])⟩
            case measure => simp [intOf]; omega
          have hk0i : (0 : Int) < (k3 : Int) := by omega
          obtain ⟨hr1, hr2⟩ := HR8.out.ok
          simp only at hr1 hr2
          have HRL := Lib.hid hr1
          obtain ⟨l, hl⟩ : ∃ l, lnL ls r.1 = l := ⟨_, rfl⟩
          have HLL := Lib.hid hl
          have hll : l.length ≤ 1000000 := by have := HM.out.mv.short r.1; rw [hl] at this; exact this
          have hcl : c ≤ l.length := by rw [hl] at hr2; omega
          have HSZ := size_mk l
          have hwc : IntKind.i64.wrap ((c : Int) + 1) = (c : Int) + 1 := IntWalk.i64_in ((c : Int) + 1) (by omega)
          have X0 := fun d os => cell_regrown x0 d os
          have X1 := fun d os => cell_regrown x1 d os
          have HLN := Lib.hid (fun d os => by have := line_any ((HM.out.mv.later HR8.out.pl.below).later (below_regrown _ d os)) r.1 (c : Int) HRL.out; rw [hl] at this; exact this)
          by_cases hlt1 : c + 1 < l.length
          case neg =>
            have HCI := Lib.hid (show ¬ (c : Int) + 1 < (l.length : Int) by omega)
            have HNL := Lib.hid hlt1
            clear x0 x1 hl hr1 hr2 f0 f1 hlt1
            go_wp2_with fail
            have hci : ¬ (c : Int) + 1 < (l.length : Int) := by have := HCI.out; omega
            have hcb : decide ((c : Int) + 1 < (l.length : Int)) = false := decide_eq_false hci
            refine wp_region_quiet_below (by kernel_rfl) (by kernel_rfl) ?_
            iterate 13 (quiet_step (with_reducible exact Calls.regrown_of (HLN.out _ _)))
            iterate 12 ((with_reducible refine wpQuiet_step (fun K hK => ?_)); go_simp; (with_reducible refine hK _ ?_); clear hK K)
            refine wpQuiet_nil ?_
            intro _ hw'
            obtain ⟨⟨dq1, osq1⟩, hw''⟩ := hw'
            subst hw''
            have HRQ := Lib.hid (HR8.out.later (below_regrown _ dq1 osq1))
            generalize grow (redrawn _ dq1) osq1 = wq at *
            clear X0 X1 HLN
            go_wp2_with fail
            have HB3 : Hid (e2 ls big k3 r.1 (lnL ls r.1).length r.2 = c) := Lib.hid (by rw [HB2.out, e2_past f c (by rw [HLL.out]; have := HNL.out; omega)])
            have HA3 := Lib.hid (show StAt w _ ls y (endsP ls big q).1 from by rw [HA2.out, HB3.out]; exact HRQ.out)
            have HA4 : Hid ((endsP ls big q).2 = okr) := Lib.hid (by rw [HA2.out])
            clear HB3 HA2 HB2
            go_roundw
            case rel => exact ⟨k + 1, (endsP ls big q).1, okr, by go_num, rfl, by omega, HA3, Lib.hid (by rw [HE6.out, HA4.out])⟩
            case measure => simp [intOf]; omega
          have hci : (c : Int) + 1 < (l.length : Int) := by omega
          have hgd : l.getD (c + 1) 0 = l[c + 1]'hlt1 := by rw [List.getD_eq_getElem?_getD, List.getElem?_eq_getElem hlt1]; rfl
          obtain ⟨f, rfl⟩ : ∃ f', f = f' + 1 := ⟨f - 1, by have a1 := HF2.out; rw [hl] at a1; omega⟩
          have HS2 := Lib.hid (e2_succ ls big k3 r.1 f c)
          rw [hl, hgd] at HS2
          have hby : ∀ h, (⟨l.toArray⟩ : ByteArray)[c + 1]'h = l[c + 1]'hlt1 := fun h => rfl
          have HKD := Lib.hid (fun W => kind_below (l[c + 1]'hlt1) big W)
          have HLT1 := Lib.hid hlt1
          have h0c : (0 : Int) ≤ (c : Int) + 1 := by omega
          have htn : ((c : Int) + 1).toNat = c + 1 := by omega
          have hcb : decide ((c : Int) + 1 < (l.length : Int)) = true := decide_eq_true hci
          clear x0 x1 hl hgd hr1 hr2 f0 f1
          go_wp2_with fail
          refine wp_region_quiet_below (by kernel_rfl) (by kernel_rfl) ?_
          repeat (quiet_step (first | (with_reducible exact Calls.regrown_of (HLN.out _ _)) | (with_reducible exact Calls.regrown_of (HKD.out _))))
          refine wpQuiet_nil ?_
          intro _ hw'
          obtain ⟨⟨dq1, osq1⟩, hw''⟩ := hw'
          subst hw''
          have HRQ := Lib.hid (HR8.out.later (below_regrown _ dq1 osq1))
          generalize grow (redrawn _ dq1) osq1 = wq at *
          clear X0 X1 HLN HKD
          obtain ⟨x0, x1, f0, f1⟩ := HRQ.out.pl.cells
          simp only at x0 x1
          by_cases hkk : kindB (l[c + 1]'hlt1) big = k3
          case neg =>
            have hkb : ((kindB (l[c + 1]'hlt1) big : Int) == (k3 : Int)) = false := by rw [beq_eq_false_iff_ne]; omega
            have HNK := Lib.hid hkk
            clear hkk
            go_wp2_with fail
            have HB3 : Hid (e2 ls big k3 r.1 (lnL ls r.1).length r.2 = c) := Lib.hid (by rw [HB2.out, HS2.out, if_neg (by rintro ⟨_, _, h⟩; exact HNK.out h)])
            have HA3 := Lib.hid (show StAt w _ ls y (endsP ls big q).1 from by rw [HA2.out, HB3.out]; exact HRQ.out)
            have HA4 : Hid ((endsP ls big q).2 = okr) := Lib.hid (by rw [HA2.out])
            clear HB3 HA2 HB2
            go_roundw
            case rel => exact ⟨k + 1, (endsP ls big q).1, okr, by go_num, rfl, by omega, HA3, Lib.hid (by rw [HE6.out, HA4.out])⟩
            case measure => simp [intOf]; omega
          have hkb : ((kindB (l[c + 1]'hlt1) big : Int) == (k3 : Int)) = true := by rw [beq_iff_eq]; omega
          have HB4 : Hid (e2 ls big k3 r.1 (lnL ls r.1).length r.2 = e2 ls big k3 r.1 f (c + 1)) := Lib.hid (by rw [HB2.out, HS2.out, if_pos ⟨hk0, hlt1, hkk⟩])
          have HF4 : Hid ((lnL ls r.1).length ≤ f + (c + 1)) := Lib.hid (by have := HF2.out; omega)
          have HR9 := Lib.hid (HRQ.out.setCol (c + 1) ⟨HRL.out, by right; show c + 1 < (lnL ls r.1).length; rw [HLL.out]; exact hlt1⟩)
          rw [show (((c + 1 : Nat)) : Int) = (c : Int) + 1 from by omega] at HR9
          clear hkk HB2 HS2
          go_wp2_with fail
          go_roundw
          case rel => exact ⟨c + 1, f, HR9, HB4, HF4⟩
          case measure =>
            rw [HR9.out.pl.of, HR8.out.pl.of]
            simp only
            rw [HLL.out]
            have := HLT1.out
            omega
  case rest =>
    obtain ⟨q, ok, rfl, HQ, HE⟩ := hcut
    clear HS2
    have HMQ := Lib.hid (HM.out.later HQ.out.pl.below)
    have d1 := HMQ.out.c1
    have d2 := HMQ.out.c2
    obtain ⟨x0, x1, f0, f1⟩ := HQ.out.pl.cells
    have y0 := Lib.cell_of_heap HQ.out.ry 0
    have y1 := Lib.cell_of_heap HQ.out.ry 1
    have y2 := Lib.cell_of_heap HQ.out.ry 2
    have y3 := Lib.cell_of_heap HQ.out.ry 3
    have g0 := Lib.frozen_of_heap HQ.out.ry 0
    have g1 := Lib.frozen_of_heap HQ.out.ry 1
    have g2 := Lib.frozen_of_heap HQ.out.ry 2
    have g3 := Lib.frozen_of_heap HQ.out.ry 3
    simp at y0 y1 y2 y3
    have hpe := fun W => pos_eq ((q.1 : Int) + 1) (q.2 : Int) ((p.1 : Int) + 1) (p.2 : Int) W
    have HNE := Lib.hid (pl_ne q p)
    have hmw : m < w.heap.size := lt_of_cell HM.out.c1
    have hmy : ¬ m = y := by have := HQ.out.new; omega
    have hmy' : ¬ y = m := by omega
    clear hmw
    go_upto_region 12 with fail
    go_region
    go_wp2_with fail
    obtain ⟨t0, t1, t2, t3, hb⟩ := fin_four HQ.out.ry HQ.out.new HQ.out.pl.below (.int .i64 ((q.1 : Int) + 1)) (.int .i64 (q.2 : Int)) (.bool false) (.bool true)
    refine bodyPost_ret (v := .tuple #[toV q false true, .bool (decide (q ≠ p))]) ?_ rfl ?_
    · rw [← HNE.out]
      unfold toV
      simp [results, Tryz.results21, go_sem, t0, t1, t2, t3]
    · exact ⟨by rw [HE.out], hb.drew⟩
end Go.Proofs.YtopbpmcanhbklaaGreatDoor
