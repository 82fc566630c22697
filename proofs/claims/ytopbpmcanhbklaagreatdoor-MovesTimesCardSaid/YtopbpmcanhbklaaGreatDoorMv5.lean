/- The walks of moves: words. -/
import Derived.Test.YtopbpmcanhbklaaGreatDoorMv4
import Derived.Laws.StructEq
set_option linter.unusedVariables false
set_option linter.unusedSimpArgs false
namespace Go.Proofs.YtopbpmcanhbklaaGreatDoor
open Go Go.Proofs Go.RowKit Go.Ink Go.Sort

/-- A motion that is being done: its lines, its place, its count. -/
structure MwAt (w : World) (m : Nat) (ls : List (List UInt8)) (ao : Option Addr) (cap : Nat) (p : Pl) (n : Nat) : Prop where
  mv : MvAt w m ls ao cap
  c1 : w.cell? ⟨m, 1, none⟩ = some (.int .i64 ((p.1 : Int) + 1))
  c2 : w.cell? ⟨m, 2, none⟩ = some (.int .i64 (p.2 : Int))
  cn : w.cell? ⟨m, 36, none⟩ = some (.int .i64 (n : Int))
  small : n ≤ 1000000
  ok : Okp ls p
theorem MwAt.later {w w' : World} {m : Nat} {ls : List (List UInt8)} {ao : Option Addr} {cap : Nat} {p : Pl} {n : Nat} (h : MwAt w m ls ao cap p n) (hb : Below w.heap.size w w') : MwAt w' m ls ao cap p n :=
  ⟨h.mv.later hb, (hb.cell (p := ⟨m, 1, none⟩) (lt_of_cell h.c1)).trans h.c1, (hb.cell (p := ⟨m, 2, none⟩) (lt_of_cell h.c2)).trans h.c2, (hb.cell (p := ⟨m, 36, none⟩) (lt_of_cell h.cn)).trans h.cn, h.small, h.ok⟩
/-- Where a motion leads, as a value. -/
def toV (q : Pl) (whole incl : Bool) : Value := .agg #[.int .i64 ((q.1 : Int) + 1), .int .i64 (q.2 : Int), .bool whole, .bool incl]
/-- The result's cells, and the place's, in a motion. -/
structure StAt (w wr : World) (ls : List (List UInt8)) (y : Nat) (q : Pl) : Prop where
  pl : PlAt w wr (y + 1) q
  ry : wr.heap[y]? = some (.cells #[.int .i64 0, .int .i64 0, .bool false, .bool false] 35 (0, 0))
  new : w.heap.size ≤ y
  ok : Okp ls q
theorem StAt.later {w wr w' : World} {ls : List (List UInt8)} {y : Nat} {q : Pl} (h : StAt w wr ls y q) (hb : Below wr.heap.size wr w') : StAt w w' ls y q :=
  ⟨h.pl.later hb, (hb.block _ (lt_of_heap h.ry)).trans h.ry, h.new, h.ok⟩
theorem StAt.set {w wr : World} {ls : List (List UInt8)} {y : Nat} {q : Pl} (h : StAt w wr ls y q) {r : Pl} (hr : Okp ls r) : StAt w ((wr.setCell ⟨y + 1, 0, none⟩ (.int .i64 ((r.1 : Int) + 1))).setCell ⟨y + 1, 1, none⟩ (.int .i64 (r.2 : Int))) ls y r := by
  refine ⟨h.pl.set r, ?_, h.new, hr⟩
  rw [Below.heap_setCell _ _ _ _ (fun e => by have e' : y = y + 1 := e; omega), Below.heap_setCell _ _ _ _ (fun e => by have e' : y = y + 1 := e; omega)]
  exact h.ry
theorem StAt.drewN {w wr : World} {ls : List (List UInt8)} {y : Nat} {q : Pl} (h : StAt w wr ls y q) (n : Nat) : StAt w (wr.drewN n) ls y q := h.later (below_drewN (Below.refl _ _) n)
theorem st_new {w : World} {ls : List (List UInt8)} {p : Pl} (hp : Okp ls p) : StAt w ((w.alloc (.cells #[.int .i64 0, .int .i64 0, .bool false, .bool false] 35)).alloc (.cells #[.int .i64 ((p.1 : Int) + 1), .int .i64 (p.2 : Int)] 24)) ls w.heap.size p := by
  refine ⟨⟨?_, by omega, ((Below.refl _ _).alloc (Nat.le_refl _) _).alloc (by simp) _⟩, ?_, Nat.le_refl _, hp⟩
  · show ((w.heap.push _).push _)[w.heap.size + 1]? = _
    rw [Array.getElem?_push, if_pos (by simp)]
  · show ((w.heap.push _).push _)[w.heap.size]? = _
    rw [Array.getElem?_push, if_neg (by simp), Array.getElem?_push, if_pos rfl]
/-- The result's four cells are laid. -/
theorem fin_four {w V : World} {y : Nat} {u0 u1 u2 u3 : Value} {T : TypeId} (hy : V.heap[y]? = some (.cells #[u0, u1, u2, u3] T (0, 0))) (hn : w.heap.size ≤ y) (hb : Below w.heap.size w V) (a b c d : Value) :
    (V.setCell ⟨y, 0, none⟩ a).cell? ⟨y, 0, none⟩ = some a ∧ ((V.setCell ⟨y, 0, none⟩ a).setCell ⟨y, 1, none⟩ b).cell? ⟨y, 1, none⟩ = some b ∧ (((V.setCell ⟨y, 0, none⟩ a).setCell ⟨y, 1, none⟩ b).setCell ⟨y, 2, none⟩ c).cell? ⟨y, 2, none⟩ = some c ∧
    ((((V.setCell ⟨y, 0, none⟩ a).setCell ⟨y, 1, none⟩ b).setCell ⟨y, 2, none⟩ c).setCell ⟨y, 3, none⟩ d).cell? ⟨y, 3, none⟩ = some d ∧ Below w.heap.size w ((((V.setCell ⟨y, 0, none⟩ a).setCell ⟨y, 1, none⟩ b).setCell ⟨y, 2, none⟩ c).setCell ⟨y, 3, none⟩ d) := by
  have h0 := heap_set (j := 0) hy a
  have h1 := heap_set (j := 1) h0 b
  have h2 := heap_set (j := 2) h1 c
  exact ⟨cell_set hy (by simp) _, cell_set h0 (by simp) _, cell_set h1 (by simp) _, cell_set h2 (by simp) _, (((hb.setCell (p := ⟨y, 0, none⟩) hn _).setCell (p := ⟨y, 1, none⟩) hn _).setCell (p := ⟨y, 2, none⟩) hn _).setCell (p := ⟨y, 3, none⟩) hn _⟩
theorem many_next (step : Pl → Pl × Bool) (n : Nat) (q : Pl) : manyP step (n + 1) q = if (step q).2 = true then manyP step n (step q).1 else ((step q).1, false) := by
  show (if (step q).2 = true then _ else step q) = _
  cases hb : (step q).2 with
  | true => rfl
  | false => rw [if_neg (by simp), if_neg (by simp)]; exact Prod.ext rfl hb
/-- Two places, as they are compared. -/
theorem pos_eq (a b c d : Int) (w : World) : Sem.run Tryz.prog (Op.equalIn 10000 24 (.agg #[.int .i64 a, .int .i64 b]) (.agg #[.int .i64 c, .int .i64 d])) w = .ok (a == c && b == d) w := by
  have u3 := Tryz.underlying3
  have a3 := Tryz.isAgg3
  have z3 := Tryz.sizeOf3
  have hS : Tryz.prog.underlying 24 = some (.struct (Tryz.prog.fieldsOf 24)) := by kernel_rfl
  have hp : Tryz.prog.stoodInHeld 24 = false := by kernel_rfl
  rw [show (10000 : Nat) = 9999 + 1 from rfl, run_equalIn_agg w 9999 24 _ _ hS hp]
  simp only [Program.fieldsOf, Tryz.underlying24]
  go_simp
  by_cases h1 : a = c <;> by_cases h2 : b = d <;> simp [h1, h2]
theorem pl_ne (q p : Pl) : ((!((q.1 : Int) + 1 == (p.1 : Int) + 1)) || (!((q.2 : Int) == (p.2 : Int)))) = decide (q ≠ p) := by
  obtain ⟨a, b⟩ := q
  obtain ⟨c, d⟩ := p
  rw [Bool.eq_iff_iff]
  simp only [Bool.or_eq_true, Bool.not_eq_true', beq_eq_false_iff_ne, ne_eq, decide_eq_true_eq, Prod.mk.injEq]
  omega
set_option maxRecDepth 100000 in
set_option maxHeartbeats 4000000 in
theorem words_any {w : World} {m : Nat} {ls : List (List UInt8)} {ao : Option Addr} {cap : Nat} {p : Pl} {n : Nat} (h : MwAt w m ls ao cap p n) (big : Bool) :
    Calls Tryz.prog 19 #[.pointer (some ⟨m, 0, none⟩), .bool big] w fun e w' => e = .returned (.tuple #[toV (manyP (wordP ls big) n p).1 false (!(manyP (wordP ls big) n p).2), .bool (decide ((manyP (wordP ls big) n p).1 ≠ p))]) ∧ Below w.heap.size w w' := by
  obtain ⟨w2, hw2⟩ : ∃ w2, (w.alloc (.cells #[.int .i64 0, .int .i64 0, .bool false, .bool false] 35)).alloc (.cells #[.int .i64 ((p.1 : Int) + 1), .int .i64 (p.2 : Int)] 24) = w2 := ⟨_, rfl⟩
  have hst := @st_new w ls p h.ok
  rw [hw2] at hst
  have HS2 := Lib.hid hst
  have HM := Lib.hid h
  have hn := h.small
  have m1 := (((Below.refl w.heap.size w).alloc (Nat.le_refl _) (.cells #[.int .i64 0, .int .i64 0, .bool false, .bool false] 35)).cell (p := ⟨m, 1, none⟩) (lt_of_cell h.c1)).trans h.c1
  have m2 := (((Below.refl w.heap.size w).alloc (Nat.le_refl _) (.cells #[.int .i64 0, .int .i64 0, .bool false, .bool false] 35)).cell (p := ⟨m, 2, none⟩) (lt_of_cell h.c2)).trans h.c2
  clear h hst
  go_enter Tryz.func19, Tryz.ntmps19
  go_upto_block 0 with fail
  clear m1 m2
  generalize hyy : w.heap.size = y at *
  have HYY := Lib.hid hyy
  clear hyy
  have HM2 := Lib.hid (HM.out.later HS2.out.pl.below)
  obtain ⟨d0, d1, d2, dn⟩ : w2.cell? ⟨m, 0, none⟩ = _ ∧ w2.cell? ⟨m, 1, none⟩ = _ ∧ w2.cell? ⟨m, 2, none⟩ = _ ∧ w2.cell? ⟨m, 36, none⟩ = _ := ⟨HM2.out.mv.c0, HM2.out.c1, HM2.out.c2, HM2.out.cn⟩
  clear d0 d1 d2 dn hw2
  go_cut [7] from 14 to 31 (fun okv wx => ∃ (q : Pl) (ok : Bool), okv = .bool ok ∧ Hid (StAt w wx ls y q) ∧ Hid (manyP (wordP ls big) n p = (q, ok)))
  case first =>
    go_wp2_with fail
    go_loopw [7, 8] (fun okv iv wr => ∃ (k : Nat) (q : Pl) (ok : Bool), iv = .int .i64 (k : Int) ∧ okv = .bool ok ∧ k ≤ n ∧ Hid (StAt w wr ls y q) ∧ Hid (manyP (wordP ls big) n p = if ok = true then manyP (wordP ls big) (n - k) q else (q, false))) (fun _ iv _ => n - (intOf iv).toNat)
    case atStart => exact ⟨0, p, true, rfl, rfl, by omega, HS2, Lib.hid (by simp)⟩
    case round =>
      obtain ⟨k, q, ok, rfl, rfl, hk, HQ, HE⟩ := hrel
      clear HS2
      have HMQ := Lib.hid (HM.out.later HQ.out.pl.below)
      have dn := HMQ.out.cn
      obtain ⟨x0, x1, f0, f1⟩ := HQ.out.pl.cells
      by_cases hlt : k < n
      case neg =>
        have hlti : ¬ (k : Int) < (n : Int) := by omega
        have hk0 : n - k = 0 := by omega
        go_wp2_with fail
        go_meet
        case rel => 
          refine ⟨q, ok, rfl, HQ, Lib.hid ?_⟩
          rw [HE.out, hk0]
          cases ok <;> rfl
      have hlti : (k : Int) < (n : Int) := by omega
      cases ok
      · go_wp2_with fail
        go_meet
        case rel => exact ⟨q, false, rfl, HQ, Lib.hid (by rw [HE.out]; rfl)⟩
      go_wp2_with fail
      have hwd := word_any HMQ.out.mv q HQ.out.ok big
      unfold plV at hwd
      refine hwd.mono ?_
      rintro e w5 ⟨rfl, hb5⟩
      have HW5 := Lib.hid (HQ.out.later hb5)
      have HW6 := Lib.hid (HW5.out.set ((word_law ls big).ok q HQ.out.ok))
      have HE6 : Hid (manyP (wordP ls big) n p = if (wordP ls big q).2 = true then manyP (wordP ls big) (n - (k + 1)) (wordP ls big q).1 else ((wordP ls big q).1, false)) := Lib.hid (by
        rw [HE.out, if_pos (by trivial), show n - k = n - (k + 1) + 1 by omega, many_next])
      clear hwd hb5 x0 x1 f0 f1 dn
      obtain ⟨x0, x1, f0, f1⟩ := HW5.out.pl.cells
      go_wp2_with fail
      go_roundw
      case rel => exact ⟨k + 1, (wordP ls big q).1, (wordP ls big q).2, by go_num, rfl, by omega, HW6, HE6⟩
      case measure => simp [intOf]; omega
  case rest =>
    obtain ⟨q, ok, rfl, HQ, HE⟩ := hcut
    clear HS2
    have HMQ := Lib.hid (HM.out.later HQ.out.pl.below)
    have d1 := HMQ.out.c1
    have d2 := HMQ.out.c2
    obtain ⟨x0, x1, f0, f1⟩ := HQ.out.pl.cells
    have y0 := Lib.cell_of_heap HQ.out.ry 0
    have y1 := Lib.cell_of_heap HQ.out.ry 1
    have y2 := Lib.cell_of_heap HQ.out.ry 2
    have y3 := Lib.cell_of_heap HQ.out.ry 3
    have g0 := Lib.frozen_of_heap HQ.out.ry 0
    have g1 := Lib.frozen_of_heap HQ.out.ry 1
    have g2 := Lib.frozen_of_heap HQ.out.ry 2
    have g3 := Lib.frozen_of_heap HQ.out.ry 3
    simp at y0 y1 y2 y3
    have hpe := fun W => pos_eq ((q.1 : Int) + 1) (q.2 : Int) ((p.1 : Int) + 1) (p.2 : Int) W
    have HNE := Lib.hid (pl_ne q p)
    have hmw : m < w.heap.size := lt_of_cell HM.out.c1
    have hmy : ¬ m = y := by have := HQ.out.new; omega
    have hmy' : ¬ y = m := by omega
    clear hmw
    go_upto_region 6 with fail
    go_region
    go_wp2_with fail
    obtain ⟨t0, t1, t2, t3, hb⟩ := fin_four HQ.out.ry HQ.out.new HQ.out.pl.below (.int .i64 ((q.1 : Int) + 1)) (.int .i64 (q.2 : Int)) (.bool false) (.bool (!ok))
    refine bodyPost_ret (v := .tuple #[toV q false (!ok), .bool (decide (q ≠ p))]) ?_ rfl ?_
    · rw [← HNE.out]
      unfold toV
      simp [results, Tryz.results19, go_sem, t0, t1, t2, t3]
    · exact ⟨by rw [HE.out], hb.drew⟩
end Go.Proofs.YtopbpmcanhbklaaGreatDoor
