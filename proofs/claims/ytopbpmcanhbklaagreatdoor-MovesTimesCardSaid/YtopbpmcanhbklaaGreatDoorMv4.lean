/- The walks of moves: word. -/
import Derived.Test.YtopbpmcanhbklaaGreatDoorMv3
import Derived.Deep.CutBlock
import Derived.Deep.CutRange
set_option linter.unusedVariables false
set_option linter.unusedSimpArgs false
namespace Go.Proofs.YtopbpmcanhbklaaGreatDoor
open Go Go.Proofs Go.RowKit Go.Ink Go.Sort

/-- The place that lies in a box. -/
def plOf (w : World) (x : Nat) : Pl := match w.cell? ⟨x, 0, none⟩, w.cell? ⟨x, 1, none⟩ with
  | some (.int _ a), some (.int _ b) => ((a - 1).toNat, b.toNat)
  | _, _ => (0, 0)
theorem plOf_eq {w : World} {x i c : Nat} (h0 : w.cell? ⟨x, 0, none⟩ = some (.int .i64 ((i : Int) + 1))) (h1 : w.cell? ⟨x, 1, none⟩ = some (.int .i64 (c : Int))) : plOf w x = (i, c) := by
  unfold plOf
  rw [h0, h1]
  simp
/-- A place in a box, made by the call that began in w; the motion stands. -/
structure PlAt (w wr : World) (x : Nat) (p : Pl) : Prop where
  box : wr.heap[x]? = some (.cells #[.int .i64 ((p.1 : Int) + 1), .int .i64 (p.2 : Int)] 24 (0, 0))
  new : w.heap.size ≤ x
  below : Below w.heap.size w wr
theorem PlAt.later {w wr w' : World} {x : Nat} {p : Pl} (h : PlAt w wr x p) (hb : Below wr.heap.size wr w') : PlAt w w' x p :=
  ⟨(hb.block _ (lt_of_heap h.box)).trans h.box, h.new, h.below.trans (hb.mono h.below.size)⟩
theorem PlAt.cells {w wr : World} {x : Nat} {p : Pl} (h : PlAt w wr x p) : wr.cell? ⟨x, 0, none⟩ = some (.int .i64 ((p.1 : Int) + 1)) ∧ wr.cell? ⟨x, 1, none⟩ = some (.int .i64 (p.2 : Int)) ∧ wr.frozen? ⟨x, 0, none⟩ = false ∧ wr.frozen? ⟨x, 1, none⟩ = false := by
  have hc := Lib.cell_of_heap h.box
  exact ⟨by rw [hc]; rfl, by rw [hc]; rfl, Lib.frozen_of_heap h.box 0, Lib.frozen_of_heap h.box 1⟩
/-- Another place is stored. -/
theorem PlAt.set {w wr : World} {x : Nat} {p : Pl} (h : PlAt w wr x p) (q : Pl) : PlAt w ((wr.setCell ⟨x, 0, none⟩ (.int .i64 ((q.1 : Int) + 1))).setCell ⟨x, 1, none⟩ (.int .i64 (q.2 : Int))) x q := by
  refine ⟨?_, h.new, (h.below.setCell (p := ⟨x, 0, none⟩) h.new _).setCell (p := ⟨x, 1, none⟩) h.new _⟩
  rw [heap_set (j := 1) (heap_set (j := 0) h.box _) _]; rfl
theorem PlAt.of {w wr : World} {x : Nat} {p : Pl} (h : PlAt w wr x p) : plOf wr x = p := by
  obtain ⟨h0, h1, _, _⟩ := h.cells
  rw [plOf_eq h0 h1]
/-- How far a walk on has to go. -/
def tv : Value → Nat
  | .bool true => 1
  | _ => 0
def leftP (ls : List (List UInt8)) (p : Pl) (ok : Value) : Nat := 2 * (allN ls - idx ls p) + tv ok
theorem left_on {ls : List (List UInt8)} {q : Pl} (h : Okp ls q) : leftP ls (onP ls q).1 (.bool (onP ls q).2) < leftP ls q (.bool true) := by
  obtain ⟨h1, h2, h3⟩ := on_ok h
  have h4 := idx_lt h
  unfold leftP
  cases hb : (onP ls q).2 with
  | true => have := h2 hb; simp only [tv]; omega
  | false => rw [(h3 hb).1]; simp only [tv]; omega
/-- What stands behind the first loop, and the second one. -/
structure WdAt (w wr : World) (ls : List (List UInt8)) (x : Nat) (q : Pl) : Prop where
  pl : PlAt w wr x q
  y : wr.heap[x + 1]? = some (.cells #[.int .i64 0, .int .i64 0] 24 (0, 0))
  ok : Okp ls q
theorem WdAt.later {w wr w' : World} {ls : List (List UInt8)} {x : Nat} {q : Pl} (h : WdAt w wr ls x q) (hb : Below wr.heap.size wr w') : WdAt w w' ls x q :=
  ⟨h.pl.later hb, (hb.block _ (lt_of_heap h.y)).trans h.y, h.ok⟩
theorem WdAt.set {w wr : World} {ls : List (List UInt8)} {x : Nat} {q : Pl} (h : WdAt w wr ls x q) {r : Pl} (hr : Okp ls r) : WdAt w ((wr.setCell ⟨x, 0, none⟩ (.int .i64 ((r.1 : Int) + 1))).setCell ⟨x, 1, none⟩ (.int .i64 (r.2 : Int))) ls x r := by
  refine ⟨h.pl.set r, ?_, hr⟩
  rw [Below.heap_setCell _ _ _ _ (fun e => by have e' : x + 1 = x := e; omega), Below.heap_setCell _ _ _ _ (fun e => by have e' : x + 1 = x := e; omega)]
  exact h.y
theorem fin_x {w V : World} {x : Nat} {u0 u1 : Value} (hy : V.heap[x + 1]? = some (.cells #[u0, u1] 24 (0, 0))) (hx : w.heap.size ≤ x) (hb : Below w.heap.size w V) (a b : Value) :
    ((V.setCell ⟨x + 1, 0, none⟩ a).setCell ⟨x + 1, 1, none⟩ b).cell? ⟨x + 1, 0, none⟩ = some a ∧ ((V.setCell ⟨x + 1, 0, none⟩ a).setCell ⟨x + 1, 1, none⟩ b).cell? ⟨x + 1, 1, none⟩ = some b ∧
    Below w.heap.size w ((V.setCell ⟨x + 1, 0, none⟩ a).setCell ⟨x + 1, 1, none⟩ b) ∧ (V.setCell ⟨x + 1, 0, none⟩ a).cell? ⟨x + 1, 0, none⟩ = some a := by
  obtain ⟨h0, h1⟩ := two_cells hy a b
  exact ⟨h0, h1, (hb.setCell (p := ⟨x + 1, 0, none⟩) (by show w.heap.size ≤ x + 1; omega) _).setCell (p := ⟨x + 1, 1, none⟩) (by show w.heap.size ≤ x + 1; omega) _, cell_set hy (by simp) _⟩
set_option maxRecDepth 100000 in
set_option maxHeartbeats 4000000 in
theorem word_any {w : World} {m : Nat} {ls : List (List UInt8)} {ao : Option Addr} {cap : Nat} (h : MvAt w m ls ao cap) (p : Pl) (hp : Okp ls p) (big : Bool) :
    Calls Tryz.prog 31 #[.pointer (some ⟨m, 0, none⟩), plV p.1 p.2, .bool big] w fun e w' => e = .returned (.tuple #[plV (wordP ls big p).1.1 (wordP ls big p).1.2, .bool (wordP ls big p).2]) ∧ Below w.heap.size w w' := by
  obtain ⟨w2, hw2⟩ : ∃ w2, (w.alloc (.cells #[.int .i64 ((p.1 : Int) + 1), .int .i64 (p.2 : Int)] 24)).alloc (.cells #[.int .i64 0, .int .i64 0] 24) = w2 := ⟨_, rfl⟩
  have ht := two_new w p.1 p.2
  rw [hw2] at ht
  have HT := Lib.hid ht
  have HH := Lib.hid h
  have HP := Lib.hid hp
  have x0 := Lib.cell_of_heap ht.x 0
  have x1 := Lib.cell_of_heap ht.x 1
  simp at x0 x1
  have X0 := fun d os => cell_regrown x0 d os
  have X1 := fun d os => cell_regrown x1 d os
  have HAT := Lib.hid (fun d os => at_any ((h.later ht.b).later (below_regrown w2 d os)) p hp big)
  clear h ht x0 x1 hp
  unfold plV at HAT ⊢
  go_enter Tryz.func31, Tryz.ntmps31
  go_wp2_with fail
  refine wp_region_quiet_below (by kernel_rfl) (by kernel_rfl) ?_
  repeat (quiet_step (with_reducible exact Calls.regrown_of (HAT.out _ _)))
  refine wpQuiet_nil ?_
  intro _ hw'
  obtain ⟨⟨dq1, osq1⟩, hw''⟩ := hw'
  subst hw''
  have HT3 := Lib.hid (HT.out.later (below_regrown w2 dq1 osq1))
  generalize grow (redrawn w2 dq1) osq1 = w3 at *
  have HX3 := Lib.hid (show PlAt w w3 w.heap.size p from ⟨HT3.out.x, Nat.le_refl _, HT3.out.b⟩)
  have HY3 := Lib.hid HT3.out.y
  obtain ⟨k, hk⟩ : ∃ k, atK ls big p = k := ⟨_, rfl⟩
  rw [hk]
  have HK := Lib.hid hk
  clear X0 X1 HAT hw2 HT HT3 hk
  generalize hxx : w.heap.size = x at HX3 HY3 ⊢
  have HXX := Lib.hid hxx
  clear hxx
  have HW3 := Lib.hid (show WdAt w w3 ls x p from ⟨HX3.out, HY3.out, HP.out⟩)
  clear HX3 HY3
  go_upto_block 0 with fail
  go_cut [10] from 17 to 45 (fun okv wx => ∃ (q : Pl) (ok : Bool), okv = .bool ok ∧ Hid (WdAt w wx ls x q) ∧ Hid (wd1 ls big k p.1 (allN ls) p true = (q, ok)) ∧ Hid (ok = false → idx ls q + 1 = allN ls))
  case first =>
    go_wp2_with fail
    go_loopw [10] (fun okv wr => ∃ (q : Pl) (ok : Bool) (f : Nat), okv = .bool ok ∧ Hid (WdAt w wr ls x q) ∧ Hid (wd1 ls big k p.1 (allN ls) p true = wd1 ls big k p.1 f q ok) ∧ Hid (ok = false → idx ls q + 1 = allN ls) ∧ Hid (ok = true → allN ls ≤ f + idx ls q)) (fun okv wr => leftP ls (plOf wr x) okv)
    case atStart => exact ⟨p, true, allN ls, rfl, HW3, Lib.hid rfl, Lib.hid (fun e => by simp at e), Lib.hid (fun _ => by omega)⟩
    case round =>
      obtain ⟨q, ok, f, rfl, HWQ, HE, HO, HF⟩ := hrel
      clear HW3
      cases ok
      · go_wp2_with fail
        go_meet
        case rel => exact ⟨q, false, rfl, HWQ, Lib.hid (by rw [HE.out, wd1_off]), Lib.hid (fun _ => HO.out (by trivial))⟩
      · obtain ⟨f, rfl⟩ : ∃ f', f = f' + 1 := ⟨f - 1, by have a1 := HF.out rfl; have a2 := idx_lt HWQ.out.ok; omega⟩
        have HS := Lib.hid (wd1_succ ls big k p.1 f q true)
        obtain ⟨x0, x1, f0, f1⟩ := HWQ.out.pl.cells
        have HMQ := Lib.hid (HH.out.later HWQ.out.pl.below)
        by_cases hk0 : 0 < k
        case neg =>
          have hk0i : ¬ (0 : Int) < (k : Int) := by omega
          go_wp2_with fail
          go_meet
          case rel => exact ⟨q, true, rfl, HWQ, Lib.hid (by rw [HE.out, HS.out, if_neg (by rintro ⟨_, h, _⟩; exact hk0 h)]), Lib.hid (fun e => by simp at e)⟩
        have hk0i : (0 : Int) < (k : Int) := by omega
        by_cases hl : q.1 = p.1
        case neg =>
          have hlb : (((q.1 : Int) + 1) == ((p.1 : Int) + 1)) = false := by rw [beq_eq_false_iff_ne]; omega
          have HNL := Lib.hid hl
          clear hl
          go_wp2_with fail
          go_meet
          case rel => exact ⟨q, true, rfl, HWQ, Lib.hid (by rw [HE.out, HS.out, if_neg (by rintro ⟨_, _, h, _⟩; exact HNL.out h)]), Lib.hid (fun e => by simp at e)⟩
        have HLQ := Lib.hid hl
        have hlb : (((q.1 : Int) + 1) == ((p.1 : Int) + 1)) = true := by rw [beq_iff_eq]; omega
        clear hl
        go_wp2_with fail
        have hat := at_any HMQ.out q HWQ.out.ok big
        unfold plV at hat
        refine hat.mono ?_
        rintro e w4 ⟨rfl, hb4⟩
        have HW4 := Lib.hid (HWQ.out.later hb4)
        have HM4 := Lib.hid (HMQ.out.later hb4)
        clear hat hb4 x0 x1 f0 f1
        obtain ⟨x0, x1, f0, f1⟩ := HW4.out.pl.cells
        by_cases ha : atK ls big q = k
        case neg =>
          have hab : ((atK ls big q : Int) == (k : Int)) = false := by rw [beq_eq_false_iff_ne]; omega
          have HNA := Lib.hid ha
          clear ha
          go_wp2_with fail
          go_meet
          case rel => exact ⟨q, true, rfl, HW4, Lib.hid (by rw [HE.out, HS.out, if_neg (by rintro ⟨_, _, _, h⟩; exact HNA.out h)]), Lib.hid (fun e => by simp at e)⟩
        have hab : ((atK ls big q : Int) == (k : Int)) = true := by rw [beq_iff_eq]; omega
        have HAQ := Lib.hid ha
        clear ha
        go_wp2_with fail
        have hon := on_any HM4.out q HW4.out.ok
        unfold plV at hon
        refine hon.mono ?_
        rintro e w5 ⟨rfl, hb5⟩
        have HW5 := Lib.hid (HW4.out.later hb5)
        obtain ⟨ho1, ho2, ho3⟩ := on_ok HW4.out.ok
        have HW6 := Lib.hid (HW5.out.set ho1)
        have HO3 : Hid ((onP ls q).2 = false → idx ls (onP ls q).1 + 1 = allN ls) := Lib.hid (fun hb => by rw [(ho3 hb).1]; exact (ho3 hb).2)
        have HF6 : Hid ((onP ls q).2 = true → allN ls ≤ f + idx ls (onP ls q).1) := Lib.hid (fun hb => by have a1 := ho2 hb; have a2 := HF.out (by trivial); omega)
        have HLT := Lib.hid (left_on HW4.out.ok)
        have HPQ := Lib.hid HW4.out.pl.of
        clear hon hb5 ho1 ho2 ho3 x0 x1 f0 f1
        obtain ⟨x0, x1, f0, f1⟩ := HW5.out.pl.cells
        by_cases hn : (onP ls q).1.1 = p.1
        case neg =>
          have hnb : ((((onP ls q).1.1 : Int) + 1) == ((p.1 : Int) + 1)) = false := by rw [beq_eq_false_iff_ne]; omega
          have HE6 : Hid (wd1 ls big k p.1 (allN ls) p true = ((onP ls q).1, (onP ls q).2)) := Lib.hid (by rw [HE.out, HS.out, if_pos ⟨by trivial, hk0, HLQ.out, HAQ.out⟩, if_pos hn])
          clear hn
          go_wp2_with fail
          go_meet
          case rel => exact ⟨(onP ls q).1, (onP ls q).2, rfl, HW6, HE6, HO3⟩
        have hnb : ((((onP ls q).1.1 : Int) + 1) == ((p.1 : Int) + 1)) = true := by rw [beq_iff_eq]; omega
        have HE6 : Hid (wd1 ls big k p.1 (allN ls) p true = wd1 ls big k p.1 f (onP ls q).1 (onP ls q).2) := Lib.hid (by rw [HE.out, HS.out, if_pos ⟨by trivial, hk0, HLQ.out, HAQ.out⟩, if_neg (by simp [hn])])
        clear hn
        go_wp2_with fail
        go_roundw
        case rel => exact ⟨(onP ls q).1, (onP ls q).2, f, rfl, HW6, HE6, HO3, HF6⟩
        case measure =>
          rw [HW6.out.pl.of, HWQ.out.pl.of]
          exact left_on HWQ.out.ok
  case rest =>
    obtain ⟨q0, ok0, rfl, HW0, HE, HO⟩ := hcut
    have HWP := Lib.hid (show wordP ls big p = wd2 ls big p.1 (allN ls) q0 ok0 from by unfold wordP; rw [HK.out, HE.out])
    clear HE HO HW3
    go_upto_block 2 with fail
    go_cut [10] from 46 to 71 (fun okv wx => ∃ (q : Pl) (ok : Bool), okv = .bool ok ∧ Hid (WdAt w wx ls x q) ∧ Hid (wd2 ls big p.1 (allN ls) q0 ok0 = (q, ok)))
    case first =>
      go_wp2_with fail
      go_loopw [10] (fun okv wr => ∃ (q : Pl) (ok : Bool) (f : Nat), okv = .bool ok ∧ Hid (WdAt w wr ls x q) ∧ Hid (wd2 ls big p.1 (allN ls) q0 ok0 = wd2 ls big p.1 f q ok) ∧ Hid (ok = true → allN ls ≤ f + idx ls q)) (fun okv wr => leftP ls (plOf wr x) okv)
      case atStart => exact ⟨q0, ok0, allN ls, rfl, HW0, Lib.hid rfl, Lib.hid (fun _ => by omega)⟩
      case round =>
        obtain ⟨q, ok, f, rfl, HWQ, HE2, HF⟩ := hrel
        clear HW0
        cases ok
        · go_wp2_with fail
          go_meet
          case rel => exact ⟨q, false, rfl, HWQ, Lib.hid (by rw [HE2.out, wd2_off])⟩
        obtain ⟨f, rfl⟩ : ∃ f', f = f' + 1 := ⟨f - 1, by have a1 := HF.out (by trivial); have a2 := idx_lt HWQ.out.ok; omega⟩
        have HS := Lib.hid (wd2_succ ls big p.1 f q true)
        obtain ⟨x0, x1, f0, f1⟩ := HWQ.out.pl.cells
        have HMQ := Lib.hid (HH.out.later HWQ.out.pl.below)
        go_wp2_with fail
        have hat := at_any HMQ.out q HWQ.out.ok big
        unfold plV at hat
        refine hat.mono ?_
        rintro e w4 ⟨rfl, hb4⟩
        have HW4 := Lib.hid (HWQ.out.later hb4)
        have HM4 := Lib.hid (HMQ.out.later hb4)
        clear hat hb4 x0 x1 f0 f1
        obtain ⟨x0, x1, f0, f1⟩ := HW4.out.pl.cells
        by_cases ha : atK ls big q = 0
        case neg =>
          have hab : ((atK ls big q : Int) == 0) = false := by rw [beq_eq_false_iff_ne]; omega
          have HNA := Lib.hid ha
          clear ha
          go_wp2_with fail
          go_meet
          case rel => exact ⟨q, true, rfl, HW4, Lib.hid (by rw [HE2.out, HS.out, if_neg (by rintro ⟨_, h, _⟩; exact HNA.out h)])⟩
        have hab : ((atK ls big q : Int) == 0) = true := by rw [beq_iff_eq]; omega
        have HAQ := Lib.hid ha
        clear ha
        go_wp2_with fail
        refine (empty_any HM4.out q.1 q.2 HW4.out.ok.1).mono ?_
        rintro e w5 ⟨rfl, hb5⟩
        have HW5 := Lib.hid (HW4.out.later hb5)
        have HM5 := Lib.hid (HM4.out.later hb5)
        clear hb5 x0 x1 f0 f1
        obtain ⟨x0, x1, f0, f1⟩ := HW5.out.pl.cells
        by_cases he : lnL ls q.1 = []
        · have HEQ := Lib.hid he
          rw [List.isEmpty_iff.2 he]
          clear he
          by_cases hl : q.1 = p.1
          case neg =>
            have hlb : (((q.1 : Int) + 1) == ((p.1 : Int) + 1)) = false := by rw [beq_eq_false_iff_ne]; omega
            have HNL := Lib.hid hl
            clear hl
            go_wp2_with fail
            go_meet
            case rel => exact ⟨q, true, rfl, HW5, Lib.hid (by rw [HE2.out, HS.out, if_neg (by rintro ⟨_, _, h⟩; rcases h with h | h; exact h HEQ.out; exact HNL.out h)])⟩
          have HLQ := Lib.hid hl
          have hlb : (((q.1 : Int) + 1) == ((p.1 : Int) + 1)) = true := by rw [beq_iff_eq]; omega
          clear hl
          go_wp2_with fail
          have hon := on_any HM5.out q HW5.out.ok
          unfold plV at hon
          refine hon.mono ?_
          rintro e w6 ⟨rfl, hb6⟩
          have HW6 := Lib.hid (HW5.out.later hb6)
          obtain ⟨ho1, ho2, ho3⟩ := on_ok HW5.out.ok
          have HW7 := Lib.hid (HW6.out.set ho1)
          have HF7 : Hid ((onP ls q).2 = true → allN ls ≤ f + idx ls (onP ls q).1) := Lib.hid (fun hb => by have a1 := ho2 hb; have a2 := HF.out (by trivial); omega)
          have HE7 : Hid (wd2 ls big p.1 (allN ls) q0 ok0 = wd2 ls big p.1 f (onP ls q).1 (onP ls q).2) := Lib.hid (by rw [HE2.out, HS.out, if_pos ⟨by trivial, HAQ.out, .inr HLQ.out⟩])
          clear hon hb6 ho1 ho2 ho3 x0 x1 f0 f1
          obtain ⟨x0, x1, f0, f1⟩ := HW6.out.pl.cells
          go_wp2_with fail
          go_roundw
          case rel => exact ⟨(onP ls q).1, (onP ls q).2, f, rfl, HW7, HE7, HF7⟩
          case measure =>
            rw [HW7.out.pl.of, HWQ.out.pl.of]
            exact left_on HWQ.out.ok
        · have HEQ := Lib.hid he
          rw [show (lnL ls q.1).isEmpty = false from by rw [Bool.eq_false_iff]; exact fun e => he (List.isEmpty_iff.1 e)]
          clear he
          go_wp2_with fail
          have hon := on_any HM5.out q HW5.out.ok
          unfold plV at hon
          refine hon.mono ?_
          rintro e w6 ⟨rfl, hb6⟩
          have HW6 := Lib.hid (HW5.out.later hb6)
          obtain ⟨ho1, ho2, ho3⟩ := on_ok HW5.out.ok
          have HW7 := Lib.hid (HW6.out.set ho1)
          have HF7 : Hid ((onP ls q).2 = true → allN ls ≤ f + idx ls (onP ls q).1) := Lib.hid (fun hb => by have a1 := ho2 hb; have a2 := HF.out (by trivial); omega)
          have HE7 : Hid (wd2 ls big p.1 (allN ls) q0 ok0 = wd2 ls big p.1 f (onP ls q).1 (onP ls q).2) := Lib.hid (by rw [HE2.out, HS.out, if_pos ⟨by trivial, HAQ.out, .inl HEQ.out⟩])
          clear hon hb6 ho1 ho2 ho3 x0 x1 f0 f1
          obtain ⟨x0, x1, f0, f1⟩ := HW6.out.pl.cells
          go_wp2_with fail
          go_roundw
          case rel => exact ⟨(onP ls q).1, (onP ls q).2, f, rfl, HW7, HE7, HF7⟩
          case measure =>
            rw [HW7.out.pl.of, HWQ.out.pl.of]
            exact left_on HWQ.out.ok
    case rest =>
      obtain ⟨q, ok, rfl, HWQ, HE2⟩ := hcut
      have HR := Lib.hid (show wordP ls big p = (q, ok) from by rw [HWP.out, HE2.out])
      obtain ⟨x0, x1, f0, f1⟩ := HWQ.out.pl.cells
      have y0 := Lib.cell_of_heap HWQ.out.y 0
      have y1 := Lib.cell_of_heap HWQ.out.y 1
      have g0 := Lib.frozen_of_heap HWQ.out.y 0
      have g1 := Lib.frozen_of_heap HWQ.out.y 1
      simp at y0 y1
      clear HWP HE2 HW0
      go_wp2_with fail
      obtain ⟨t0, t1, hb, t0'⟩ := fin_x HWQ.out.y HWQ.out.pl.new HWQ.out.pl.below (.int .i64 ((q.1 : Int) + 1)) (.int .i64 (q.2 : Int))
      refine bodyPost_ret (v := .tuple #[plV (wordP ls big p).1.1 (wordP ls big p).1.2, .bool (wordP ls big p).2]) ?_ rfl ?_
      · rw [HR.out]; unfold plV
        simp [results, Tryz.results31, go_sem, t0, t0', t1]
      · exact ⟨rfl, hb⟩
end Go.Proofs.YtopbpmcanhbklaaGreatDoor
