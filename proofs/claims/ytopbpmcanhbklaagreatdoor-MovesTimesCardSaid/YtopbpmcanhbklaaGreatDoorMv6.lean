/- The walks of moves: ahead. -/
import Derived.Test.YtopbpmcanhbklaaGreatDoorMv5
set_option linter.unusedVariables false
set_option linter.unusedSimpArgs false
namespace Go.Proofs.YtopbpmcanhbklaaGreatDoor
open Go Go.Proofs Go.RowKit Go.Ink Go.Sort

theorem b1_succ (ls : List (List UInt8)) (big : Bool) (f : Nat) (p : Pl) (ok : Bool) : b1 ls big (f + 1) p ok = if ok = true ∧ atK ls big p = 0 ∧ lnL ls p.1 ≠ [] then b1 ls big f (backP ls p).1 (backP ls p).2 else (p, ok) := rfl
theorem b1_off {ls : List (List UInt8)} {big : Bool} : ∀ f (p : Pl), b1 ls big f p false = (p, false)
  | 0, _ => rfl
  | f + 1, p => by unfold b1; rw [if_neg (by simp)]
def leftB (ls : List (List UInt8)) (p : Pl) (ok : Value) : Nat := 2 * idx ls p + tv ok
theorem left_back {ls : List (List UInt8)} {q : Pl} (h : Okp ls q) : leftB ls (backP ls q).1 (.bool (backP ls q).2) < leftB ls q (.bool true) := by
  obtain ⟨h1, h2, h3⟩ := back_ok h
  unfold leftB
  cases hb : (backP ls q).2 with
  | true => have := h2 hb; simp only [tv]; omega
  | false => rw [(h3 hb).1]; simp only [tv]; omega
theorem b2_succ (ls : List (List UInt8)) (big : Bool) (k i c : Nat) : b2 ls big k i (c + 1) = if 0 < k ∧ kindB ((lnL ls i).getD c 0) big = k then b2 ls big k i c else c + 1 := rfl
/-- The column alone is stored. -/
theorem StAt.setCol {w wr : World} {ls : List (List UInt8)} {y i c : Nat} (h : StAt w wr ls y (i, c)) (d : Nat) (hd : Okp ls (i, d)) : StAt w (wr.setCell ⟨y + 1, 1, none⟩ (.int .i64 (d : Int))) ls y (i, d) := by
  refine ⟨⟨?_, h.pl.new, h.pl.below.setCell (p := ⟨y + 1, 1, none⟩) h.pl.new _⟩, ?_, h.new, hd⟩
  · rw [heap_set (j := 1) h.pl.box _]; rfl
  · rw [Below.heap_setCell _ _ _ _ (fun e => by have e' : y = y + 1 := e; omega)]
    exact h.ry
set_option maxRecDepth 100000 in
set_option maxHeartbeats 4000000 in
theorem ahead_any {w : World} {m : Nat} {ls : List (List UInt8)} {ao : Option Addr} {cap : Nat} {p : Pl} {n : Nat} (h : MwAt w m ls ao cap p n) (big : Bool) :
    Calls Tryz.prog 20 #[.pointer (some ⟨m, 0, none⟩), .bool big] w fun e w' => e = .returned (.tuple #[toV (manyP (aheadP ls big) n p).1 false false, .bool (decide ((manyP (aheadP ls big) n p).1 ≠ p))]) ∧ Below w.heap.size w w' := by
  obtain ⟨w2, hw2⟩ : ∃ w2, (w.alloc (.cells #[.int .i64 0, .int .i64 0, .bool false, .bool false] 35)).alloc (.cells #[.int .i64 ((p.1 : Int) + 1), .int .i64 (p.2 : Int)] 24) = w2 := ⟨_, rfl⟩
  have hst := @st_new w ls p h.ok
  rw [hw2] at hst
  have HS2 := Lib.hid hst
  have HM := Lib.hid h
  have hn := h.small
  have m1 := (((Below.refl w.heap.size w).alloc (Nat.le_refl _) (.cells #[.int .i64 0, .int .i64 0, .bool false, .bool false] 35)).cell (p := ⟨m, 1, none⟩) (lt_of_cell h.c1)).trans h.c1
  have m2 := (((Below.refl w.heap.size w).alloc (Nat.le_refl _) (.cells #[.int .i64 0, .int .i64 0, .bool false, .bool false] 35)).cell (p := ⟨m, 2, none⟩) (lt_of_cell h.c2)).trans h.c2
  clear h hst
  go_enter Tryz.func20, Tryz.ntmps20
  go_upto_block 0 with fail
  clear m1 m2 hw2
  generalize hyy : w.heap.size = y at *
  have HYY := Lib.hid hyy
  clear hyy
  go_cut [7] from 15 to 81 (fun okv wx => ∃ (q : Pl) (ok : Bool), okv = .bool ok ∧ Hid (StAt w wx ls y q) ∧ Hid (manyP (aheadP ls big) n p = (q, ok)))
  case first =>
    go_wp2_with fail
    go_loopw [7, 8] (fun okv iv wr => ∃ (k : Nat) (q : Pl) (ok : Bool), iv = .int .i64 (k : Int) ∧ okv = .bool ok ∧ k ≤ n ∧ Hid (StAt w wr ls y q) ∧ Hid (manyP (aheadP ls big) n p = if ok = true then manyP (aheadP ls big) (n - k) q else (q, false))) (fun _ iv _ => n - (intOf iv).toNat)
    case atStart => exact ⟨0, p, true, rfl, rfl, by omega, HS2, Lib.hid (by simp)⟩
    case round =>
      obtain ⟨k, q, ok, rfl, rfl, hk, HQ, HE⟩ := hrel
      clear HS2
      have HMQ := Lib.hid (HM.out.later HQ.out.pl.below)
      have dn := HMQ.out.cn
      obtain ⟨x0, x1, f0, f1⟩ := HQ.out.pl.cells
      by_cases hlt : k < n
      case neg =>
        have hlti : ¬ (k : Int) < (n : Int) := by omega
        have hk0 : n - k = 0 := by omega
        go_wp2_with fail
        go_meet
        case rel => 
          refine ⟨q, ok, rfl, HQ, Lib.hid ?_⟩
          rw [HE.out, hk0]
          cases ok <;> rfl
      have hlti : (k : Int) < (n : Int) := by omega
      cases ok
      · go_wp2_with fail
        go_meet
        case rel => exact ⟨q, false, rfl, HQ, Lib.hid (by rw [HE.out]; rfl)⟩
      have HE6 : Hid (manyP (aheadP ls big) n p = if (aheadP ls big q).2 = true then manyP (aheadP ls big) (n - (k + 1)) (aheadP ls big q).1 else ((aheadP ls big q).1, false)) := Lib.hid (by
        rw [HE.out, if_pos (by trivial), show n - k = n - (k + 1) + 1 by omega, many_next])
      clear HE
      go_wp2_with fail
      have hbk := back_any HMQ.out.mv q HQ.out.ok
      unfold plV at hbk
      refine hbk.mono ?_
      rintro e w5 ⟨rfl, hb5⟩
      have HW5 := Lib.hid (HQ.out.later hb5)
      obtain ⟨hk1, hk2, hk3⟩ := back_ok HQ.out.ok
      have HW6 := Lib.hid (HW5.out.set hk1)
      clear hbk hb5 x0 x1 f0 f1 dn hk2 hk3
      obtain ⟨x0, x1, f0, f1⟩ := HW5.out.pl.cells
      cases hbo : (backP ls q).2
      · have HA : Hid (aheadP ls big q = ((backP ls q).1, false)) := Lib.hid (by unfold aheadP; rw [if_pos hbo]; exact Prod.ext rfl hbo)
        clear hbo
        go_wp2_with fail
        go_meet
        case rel => exact ⟨(backP ls q).1, false, rfl, HW6, Lib.hid (by rw [HE6.out, HA.out]; rfl)⟩
      have HA : Hid (aheadP ls big q = (((b1 ls big (allN ls) (backP ls q).1 true).1.1, b2 ls big (atK ls big (b1 ls big (allN ls) (backP ls q).1 true).1) (b1 ls big (allN ls) (backP ls q).1 true).1.1 (b1 ls big (allN ls) (backP ls q).1 true).1.2), (b1 ls big (allN ls) (backP ls q).1 true).2)) := Lib.hid (by unfold aheadP; rw [if_neg (by rw [hbo]; simp)])
      clear hbo hk1
      generalize (backP ls q).1 = s0 at *
      have HI0 := Lib.hid (idx_lt HW6.out.ok)
      go_upto_block 2 with fail
      clear x0 x1 f0 f1
      go_cut [7] from 15 to 81 (fun okv wx => ∃ (r : Pl) (okr : Bool), okv = .bool okr ∧ Hid (StAt w wx ls y r) ∧ Hid (b1 ls big (allN ls) s0 true = (r, okr)))
      case first =>
        go_wp2_with fail
        go_loopw [7] (fun okv wi => ∃ (r : Pl) (okr : Bool) (f : Nat), okv = .bool okr ∧ Hid (StAt w wi ls y r) ∧ Hid (b1 ls big (allN ls) s0 true = b1 ls big f r okr) ∧ Hid (okr = true → idx ls r + 1 ≤ f)) (fun okv wi => leftB ls (plOf wi (y + 1)) okv)
        case atStart => exact ⟨s0, true, allN ls, rfl, HW6, Lib.hid rfl, Lib.hid (fun _ => HI0.out)⟩
        case round =>
          obtain ⟨r, okr, f, rfl, HR, HB, HF⟩ := hrel
          clear HW6 HW5
          cases okr
          · go_wp2_with fail
            go_meet
            case rel => exact ⟨r, false, rfl, HR, Lib.hid (by rw [HB.out, b1_off])⟩
          obtain ⟨f, rfl⟩ : ∃ f', f = f' + 1 := ⟨f - 1, by have a1 := HF.out (by trivial); omega⟩
          have HS := Lib.hid (b1_succ ls big f r true)
          obtain ⟨x0, x1, f0, f1⟩ := HR.out.pl.cells
          have HMR := Lib.hid (HM.out.mv.later HR.out.pl.below)
          go_wp2_with fail
          have hat := at_any HMR.out r HR.out.ok big
          unfold plV at hat
          refine hat.mono ?_
          rintro e w7 ⟨rfl, hb7⟩
          have HR7 := Lib.hid (HR.out.later hb7)
          have HM7 := Lib.hid (HMR.out.later hb7)
          clear hat hb7 x0 x1 f0 f1
          obtain ⟨x0, x1, f0, f1⟩ := HR7.out.pl.cells
          by_cases ha : atK ls big r = 0
          case neg =>
            have hab : ((atK ls big r : Int) == 0) = false := by rw [beq_eq_false_iff_ne]; omega
            have HNA := Lib.hid ha
            clear ha
            go_wp2_with fail
            go_meet
            case rel => exact ⟨r, true, rfl, HR7, Lib.hid (by rw [HB.out, HS.out, if_neg (by rintro ⟨_, h, _⟩; exact HNA.out h)])⟩
          have hab : ((atK ls big r : Int) == 0) = true := by rw [beq_iff_eq]; omega
          have HAQ := Lib.hid ha
          clear ha
          go_wp2_with fail
          refine (empty_any HM7.out r.1 r.2 HR7.out.ok.1).mono ?_
          rintro e w8 ⟨rfl, hb8⟩
          have HR8 := Lib.hid (HR7.out.later hb8)
          have HM8 := Lib.hid (HM7.out.later hb8)
          clear hb8 x0 x1 f0 f1
          obtain ⟨x0, x1, f0, f1⟩ := HR8.out.pl.cells
          by_cases he : lnL ls r.1 = []
          · have HEQ := Lib.hid he
            rw [List.isEmpty_iff.2 he]
            clear he
            go_wp2_with fail
            go_meet
            case rel => exact ⟨r, true, rfl, HR8, Lib.hid (by rw [HB.out, HS.out, if_neg (by rintro ⟨_, _, h⟩; exact h HEQ.out)])⟩
          have HEQ := Lib.hid he
          rw [show (lnL ls r.1).isEmpty = false from by rw [Bool.eq_false_iff]; exact fun e => he (List.isEmpty_iff.1 e)]
          clear he
          go_wp2_with fail
          have hbk := back_any HM8.out r HR8.out.ok
          unfold plV at hbk
          refine hbk.mono ?_
          rintro e w9 ⟨rfl, hb9⟩
          have HR9 := Lib.hid (HR8.out.later hb9)
          obtain ⟨ho1, ho2, ho3⟩ := back_ok HR8.out.ok
          have HR10 := Lib.hid (HR9.out.set ho1)
          have HF10 : Hid ((backP ls r).2 = true → idx ls (backP ls r).1 + 1 ≤ f) := Lib.hid (fun hb => by have a1 := ho2 hb; have a2 := HF.out (by trivial); omega)
          have HB10 : Hid (b1 ls big (allN ls) s0 true = b1 ls big f (backP ls r).1 (backP ls r).2) := Lib.hid (by rw [HB.out, HS.out, if_pos ⟨by trivial, HAQ.out, HEQ.out⟩])
          clear hbk hb9 ho1 ho2 ho3 x0 x1 f0 f1
          obtain ⟨x0, x1, f0, f1⟩ := HR9.out.pl.cells
          go_wp2_with fail
          go_roundw
          case rel => exact ⟨(backP ls r).1, (backP ls r).2, f, rfl, HR10, HB10, HF10⟩
          case measure =>
            rw [HR10.out.pl.of, HR.out.pl.of]
            exact left_back HR.out.ok
      case rest =>
        obtain ⟨r, okr, rfl, HR, HB⟩ := hcut
        clear HW6 HW5 HI0
        have HA2 : Hid (aheadP ls big q = ((r.1, b2 ls big (atK ls big r) r.1 r.2), okr)) := Lib.hid (by rw [HA.out, HB.out])
        clear HA HB
        obtain ⟨x0, x1, f0, f1⟩ := HR.out.pl.cells
        have HMR := Lib.hid (HM.out.mv.later HR.out.pl.below)
        go_wp2_with fail
        have hat := at_any HMR.out r HR.out.ok big
        unfold plV at hat
        refine hat.mono ?_
        rintro e w7 ⟨rfl, hb7⟩
        have HR7 := Lib.hid (HR.out.later hb7)
        clear hat hb7 x0 x1 f0 f1 HR HMR
        generalize atK ls big r = k3 at *
        go_wp2_with fail
        go_loopw [] (fun wi => ∃ (c : Nat), Hid (StAt w wi ls y (r.1, c)) ∧ Hid (b2 ls big k3 r.1 r.2 = b2 ls big k3 r.1 c)) (fun wi => (plOf wi (y + 1)).2)
        case atStart => exact ⟨r.2, HR7, Lib.hid rfl⟩
        case round =>
          obtain ⟨c, HR8, HB2⟩ := hrel
          clear HR7
          obtain ⟨x0, x1, f0, f1⟩ := HR8.out.pl.cells
          simp only at x0 x1
          by_cases hk0 : 0 < k3
          case neg =>
            have hk0i : ¬ (0 : Int) < (k3 : Int) := by omega
            have hk3 : k3 = 0 := by omega
            have HDR := Lib.hid (fun n => HR8.out.drewN n)
            go_wp2_with fail
            go_quiet (fail)
            go_wp2_with fail
            have HB3 : Hid (b2 ls big k3 r.1 r.2 = c) := Lib.hid (by rw [HB2.out, hk3, b2_zero])
            have HA3 := Lib.hid (show StAt w _ ls y (aheadP ls big q).1 from by rw [HA2.out, HB3.out]; exact HDR.out nq)
            have HA4 : Hid ((aheadP ls big q).2 = okr) := Lib.hid (by rw [HA2.out])
            clear HB3 HA2 HB2
            go_roundw
            case rel => exact ⟨k + 1, (aheadP ls big q).1, okr, by go_num, rfl, by omega, HA3, Lib.hid (by rw [HE6.out, HA4.out])⟩
            case measure => simp [intOf]; omega
          have hk0i : (0 : Int) < (k3 : Int) := by omega
          rcases c with _ | c
          · skip
            have x1' : _ = some (Value.int IntKind.i64 0) := x1
            have HDR := Lib.hid (fun n => HR8.out.drewN n)
            clear x1
            go_wp2_with fail
            go_quiet (fail)
            go_wp2_with fail
            have HB3 : Hid (b2 ls big k3 r.1 r.2 = 0) := Lib.hid (by rw [HB2.out]; rfl)
            have HA3 := Lib.hid (show StAt w _ ls y (aheadP ls big q).1 from by rw [HA2.out, HB3.out]; exact HDR.out nq)
            have HA4 : Hid ((aheadP ls big q).2 = okr) := Lib.hid (by rw [HA2.out])
            clear HB3 HA2 HB2
            go_roundw
            case rel => exact ⟨k + 1, (aheadP ls big q).1, okr, by go_num, rfl, by omega, HA3, Lib.hid (by rw [HE6.out, HA4.out])⟩
            case measure => simp [intOf]; omega
          · skip
            have x1' : _ = some (Value.int IntKind.i64 ((c : Int) + 1)) := x1
            have hcc := HR8.out.ok
            obtain ⟨hr1, hr2⟩ := hcc
            simp only at hr1 hr2
            have hcl : c < (lnL ls r.1).length := by omega
            have HRL := Lib.hid hr1
            obtain ⟨l, hl⟩ : ∃ l, lnL ls r.1 = l := ⟨_, rfl⟩
            have HSH := Lib.hid (HM.out.mv.short r.1)
            have hll : l.length ≤ 1000000 := by have := HSH.out; rw [hl] at this; exact this
            rw [hl] at hcl
            have hgd : l.getD c 0 = l[c]'hcl := by rw [List.getD_eq_getElem?_getD, List.getElem?_eq_getElem hcl]; rfl
            have HS2 := Lib.hid (b2_succ ls big k3 r.1 c)
            rw [hl, hgd] at HS2
            have hby : ∀ h, (⟨l.toArray⟩ : ByteArray)[c]'h = l[c]'hcl := fun h => rfl
            have HSZ := size_mk l
            have hci : (c : Int) < (l.length : Int) := by omega
            have hc0 : (0 : Int) < (c : Int) + 1 := by omega
            have hwc : IntKind.i64.wrap (c : Int) = (c : Int) := IntWalk.i64_in (c : Int) (by omega)
            have X0 := fun d os => cell_regrown x0 d os
            have X1 := fun d os => cell_regrown x1' d os
            have HLN := Lib.hid (fun d os => by have := line_any ((HM.out.mv.later HR8.out.pl.below).later (below_regrown _ d os)) r.1 ((c : Int) + 1) HRL.out; rw [hl] at this; exact this)
            have HKD := Lib.hid (fun W => kind_below (l[c]'hcl) big W)
            clear x0 x1 x1' hl hgd hr1 hr2 f0 f1
            go_wp2_with fail
            refine wp_region_quiet_below (by kernel_rfl) (by kernel_rfl) ?_
            repeat (quiet_step (first | (with_reducible exact Calls.regrown_of (HLN.out _ _)) | (with_reducible exact Calls.regrown_of (HKD.out _))))
            refine wpQuiet_nil ?_
            intro _ hw'
            obtain ⟨⟨dq1, osq1⟩, hw''⟩ := hw'
            subst hw''
            have HRQ := Lib.hid (HR8.out.later (below_regrown _ dq1 osq1))
            generalize grow (redrawn _ dq1) osq1 = wq at *
            clear X0 X1 HLN HKD
            have HCL := Lib.hid hcl
            obtain ⟨x0, x1, f0, f1⟩ := HRQ.out.pl.cells
            have x1' : _ = some (Value.int IntKind.i64 ((c : Int) + 1)) := x1
            simp only at x0
            clear x1
            by_cases hkk : kindB (l[c]'hcl) big = k3
            case neg =>
              have hkb : ((kindB (l[c]'hcl) big : Int) == (k3 : Int)) = false := by rw [beq_eq_false_iff_ne]; omega
              have HNK := Lib.hid hkk
              clear hkk
              go_wp2_with fail
              have HB3 : Hid (b2 ls big k3 r.1 r.2 = c + 1) := Lib.hid (by rw [HB2.out, HS2.out, if_neg (by rintro ⟨_, h⟩; exact HNK.out h)])
              have HA3 := Lib.hid (show StAt w _ ls y (aheadP ls big q).1 from by rw [HA2.out, HB3.out]; exact HRQ.out)
              have HA4 : Hid ((aheadP ls big q).2 = okr) := Lib.hid (by rw [HA2.out])
              clear HB3 HA2 HB2
              go_roundw
              case rel => exact ⟨k + 1, (aheadP ls big q).1, okr, by go_num, rfl, by omega, HA3, Lib.hid (by rw [HE6.out, HA4.out])⟩
              case measure => simp [intOf]; omega
            have hkb : ((kindB (l[c]'hcl) big : Int) == (k3 : Int)) = true := by rw [beq_iff_eq]; omega
            have HB4 : Hid (b2 ls big k3 r.1 r.2 = b2 ls big k3 r.1 c) := Lib.hid (by rw [HB2.out, HS2.out, if_pos ⟨hk0, hkk⟩])
            have HR9 := Lib.hid (HRQ.out.setCol c ⟨HRL.out, by have h1 := HRQ.out.ok.2; simp only at h1 ⊢; omega⟩)
            clear hkk HB2 HS2
            go_wp2_with fail
            go_roundw
            case rel => exact ⟨c, HR9, HB4⟩
            case measure =>
              rw [HR9.out.pl.of, HR8.out.pl.of]
              simp only; omega
  case rest =>
    obtain ⟨q, ok, rfl, HQ, HE⟩ := hcut
    clear HS2
    have HMQ := Lib.hid (HM.out.later HQ.out.pl.below)
    have d1 := HMQ.out.c1
    have d2 := HMQ.out.c2
    obtain ⟨x0, x1, f0, f1⟩ := HQ.out.pl.cells
    have y0 := Lib.cell_of_heap HQ.out.ry 0
    have y1 := Lib.cell_of_heap HQ.out.ry 1
    have y2 := Lib.cell_of_heap HQ.out.ry 2
    have y3 := Lib.cell_of_heap HQ.out.ry 3
    have g0 := Lib.frozen_of_heap HQ.out.ry 0
    have g1 := Lib.frozen_of_heap HQ.out.ry 1
    have g2 := Lib.frozen_of_heap HQ.out.ry 2
    have g3 := Lib.frozen_of_heap HQ.out.ry 3
    simp at y0 y1 y2 y3
    have hpe := fun W => pos_eq ((q.1 : Int) + 1) (q.2 : Int) ((p.1 : Int) + 1) (p.2 : Int) W
    have HNE := Lib.hid (pl_ne q p)
    have hmw : m < w.heap.size := lt_of_cell HM.out.c1
    have hmy : ¬ m = y := by have := HQ.out.new; omega
    have hmy' : ¬ y = m := by omega
    clear hmw
    go_upto_region 12 with fail
    go_region
    go_wp2_with fail
    obtain ⟨t0, t1, t2, t3, hb⟩ := fin_four HQ.out.ry HQ.out.new HQ.out.pl.below (.int .i64 ((q.1 : Int) + 1)) (.int .i64 (q.2 : Int)) (.bool false) (.bool false)
    refine bodyPost_ret (v := .tuple #[toV q false false, .bool (decide (q ≠ p))]) ?_ rfl ?_
    · rw [← HNE.out]
      unfold toV
      simp [results, Tryz.results20, go_sem, t0, t1, t2, t3]
    · exact ⟨by rw [HE.out], hb.drew⟩
end Go.Proofs.YtopbpmcanhbklaaGreatDoor
