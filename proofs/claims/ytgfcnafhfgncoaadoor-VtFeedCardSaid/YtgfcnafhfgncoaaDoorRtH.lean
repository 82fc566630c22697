/- The reference's command at J and K. -/
import Derived.Test.YtgfcnafhfgncoaaDoorRtE
namespace Go.Proofs.YtgfcnafhfgncoaaDoor
open Go Go.Proofs Go.RowKit Go.Ink

/-- The numbers of places that J and K reckon. -/
theorem here_nums (t : Tm) (hg : t.Good) : ∃ P Q : Nat, t.row * t.cols = P ∧ t.rows * t.cols = Q ∧ P + t.cols ≤ Q ∧ Q ≤ 7920 ∧ wrap64 ((t.row : Int) * (t.cols : Int)) = (P : Int) ∧ wrap64 ((t.rows : Int) * (t.cols : Int)) = (Q : Int) ∧ wrap64 ((P : Int) + (t.col : Int)) = ((P + t.col : Nat) : Int) := by
  have h1 : t.row * t.cols + t.cols ≤ t.rows * t.cols := by
    have := Nat.mul_le_mul_right t.cols (show t.row + 1 ≤ t.rows from hg.row)
    rw [Nat.add_mul, Nat.one_mul] at this
    exact this
  have h2 : t.rows * t.cols ≤ 7920 := Nat.mul_le_mul hg.rows.2 hg.cols.2
  have e1 : (t.row : Int) * (t.cols : Int) = ((t.row * t.cols : Nat) : Int) := by rw [Int.natCast_mul]
  have e2 : (t.rows : Int) * (t.cols : Int) = ((t.rows * t.cols : Nat) : Int) := by rw [Int.natCast_mul]
  have h3 := hg.col
  rw [e1, e2]
  generalize t.row * t.cols = P at *
  generalize t.rows * t.cols = Q at *
  clear e1 e2 hg
  refine ⟨P, Q, rfl, rfl, h1, h2, ?_, ?_, ?_⟩ <;> unfold wrap64 <;> omega
/-- A step behind a world that keeps the terminal. -/
theorem RtStep.behind {w w1 w2 : World} {r lo g cap n : Nat} {bs : List (Nat × Nat)} {t' : Tm} (hk : KeepT (RtS r g cap n bs) w w1) (h2 : RtStep w1 r lo g cap n bs t' w2) : RtStep w r lo g cap n bs t' w2 := by
  obtain ⟨g2, cap2, bs2, a2, k2, p2⟩ := h2
  refine ⟨g2, cap2, bs2, a2, hk.trans k2 (fun _ _ e => e), fun i e => ?_⟩
  rcases p2 i e with h | h
  · exact .inl h
  · exact .inr (Nat.le_trans hk.size h)
/-- What J and K do. -/
theorem cmd_JK (t : Tm) (hg : t.Good) (a : Int) (ha : -1 ≤ a) (P Q : Nat) (hP : t.row * t.cols = P) (hQ : t.rows * t.cols = Q) :
    t.command 74 [a] = { t with cells := if a = 0 ∨ a = -1 then wipeF t.cells (inR t.cols (P + t.col) Q) else if a = 2 then wipeF t.cells (inR t.cols 0 Q) else t.cells } ∧
    t.command 75 [a] = { t with cells := if a = 0 ∨ a = -1 then wipeF t.cells (inR t.cols (P + t.col) (P + t.cols)) else if a = 2 then wipeF t.cells (inR t.cols P (P + t.cols)) else t.cells } := by
  have e0 : (a = 0 ∨ a = -1) ↔ max a 0 = 0 := by omega
  have e2 : a = 2 ↔ max a 0 = 2 := by omega
  rw [cmdJ t [a] a rfl, cmdK t [a] a rfl, erase_is t hg, erase_is t hg, ← erase_J0 t hg, ← erase_J2 t hg, ← erase_K0 t hg, ← erase_K2 t hg, hP, hQ]
  simp only [e0, e2, if_true]
  refine ⟨?_, ?_⟩ <;> simp
/-- The end of J and K: what is blank is a stretch of places. -/
theorem jk_end {w w1 : World} {r lo g cap : Nat} {bs : List (Nat × Nat)} {t : Tm} (h : RtAt w1 r lo g cap bs t) (hk : KeepT (RtS r g cap t.cells.length bs) w w1) (hg : t.Good) (c : UInt8) (a : Int) (x y : Nat) (xi yi : Int) (hxi : xi = (x : Int)) (hyi : yi = (y : Int)) (hxy : x ≤ y) (hy : y ≤ t.rows * t.cols) (ht : t.command c [a] = { t with cells := wipeF t.cells (inR t.cols x y) }) :
    ∀ n, Calls Tryd.prog 55 #[.pointer (some ⟨r, 0, none⟩), .int .i64 xi, .int .i64 yi] (w1.drewN n) fun e w' => e = .returned (.tuple #[]) ∧ RtStep w r lo g cap t.cells.length bs (t.command c [a]) w' ∧ KeepT (RtS r g cap t.cells.length bs) w1 w' := by
  intro n
  subst hxi hyi
  refine (refBlank_any (h.later (below_drewN (Below.refl _ _) n)) hg x y hxy hy).mono ?_
  rintro e w' ⟨he, hs⟩
  obtain ⟨_, _, _, _, k2, _⟩ := id hs
  rw [ht]
  exact ⟨he, RtStep.behind (hk.drewN n) hs, ((KeepT.refl _ _).drewN n).trans k2 (fun _ _ e => e)⟩
set_option maxRecDepth 100000 in
set_option maxHeartbeats 1000000 in
theorem refCommand_J0 {w : World} {r lo g cap : Nat} {bs : List (Nat × Nat)} {t : Tm} (h : RtAt w r lo g cap bs t) (hg : t.Good) (hpl : t.par.length ≤ 1000000) (a : Int) (hn : numsT t.par (-1) = some [a]) (hz : a = 0 ∨ a = -1) :
    Calls Tryd.prog 46 #[.pointer (some ⟨r, 0, none⟩), .int .u8 74] w fun e w' => e = .returned (.tuple #[]) ∧ RtStep w r lo g cap t.cells.length bs (t.command 74 [a]) w' := by
  have ha := numsT_in t.par (-1) [a] (by omega) hn a (by simp)
  obtain ⟨-, -, -, -, -, -, c6⟩ := h.cells
  have H := Lib.hid h
  have HG := Lib.hid hg
  have HN := Lib.hid hn
  have HNB := Lib.hid (refNumbers_any t.par w hpl)
  clear h hg hn hpl
  go_enter Tryd.func46, Tryd.ntmps46
  go_wp2_with fail
  refine HNB.out.mono ?_
  rintro e w1 ⟨hb1, -, hyes⟩
  obtain ⟨g1, cp1, rfl, hown⟩ := hyes [a] HN.out
  obtain ⟨q0, -⟩ := ownInts_at hown (k := 0) (x := a) rfl
  have H1 := Lib.hid (H.out.later hb1)
  have HK1 := Lib.hid (KeepT.of_below (S := RtS r g cap t.cells.length bs) hb1)
  obtain ⟨c0, c1, c2, c3, c4, c5, c6⟩ := H1.out.cells
  have f3 := H1.out.free 3
  have f4 := H1.out.free 4
  have hr1 := HG.out.rows
  have hr2 := HG.out.cols
  have hr3 := HG.out.row
  have hr4 := HG.out.col
  have HG1 := Lib.hid (show ¬ RtS r g cap t.cells.length bs g1 from fun e => by have := (H.out.lts g1 e).2; have := (hown.lt g1 rfl).1; omega)
  have HL1 := Lib.hid (lt_of_cell q0)
  obtain ⟨P, Q, hP, hQ, hP1, hQ1, hw1, hw2, hw3⟩ := here_nums t HG.out
  have HJK := Lib.hid (cmd_JK t HG.out a ha.1 P Q hP hQ)
  have HW1 := Lib.hid hw1
  have HW2 := Lib.hid hw2
  have HW3 := Lib.hid hw3
  have HP := Lib.hid hP
  have HQ := Lib.hid hQ
  have hP1' := hP1
  clear hyes hown hb1 HNB hP hQ hw1 hw2 hw3
  rcases hz with rfl | rfl
  · go_wp2_with fail
    go_quiet (fail)
    rw [HW1.out, HW3.out]
    have H2 := Lib.hid (H1.out.later (below_drewN (Below.refl _ _) nq))
    have HK2 := Lib.hid (HK1.out.drewN nq)
    have HL2 : Hid (g1 < (w1.drewN nq).heap.size) := HL1
    have q2 : (w1.drewN nq).cell? ⟨g1, 0, none⟩ = some (.int .i64 0) := q0
    clear c0 c1 c2 c3 c4 c5 c6 f3 f4 q0
    generalize w1.drewN nq = w2 at *
    obtain ⟨c0, c1, c2, c3, c4, c5, c6⟩ := H2.out.cells
    have HE := Lib.hid (jk_end H2.out HK2.out HG.out 74 0 (P + t.col) (Q) ((P : Int) + (t.col : Int)) (Q : Int) (by omega) (by omega) (by omega) (by rw [HQ.out]; omega) (by rw [HJK.out.1]; rw [if_pos (by decide)]))
    go_wp2_with fail
    go_still_tail 13, (by kernel_rfl)
    go_wp2_with fail
    rw [HW2.out]
    refine (HE.out 1).mono ?_
    rintro e w3 ⟨rfl, hs3, hk3⟩
    have HS3 := Lib.hid hs3
    have q3 := (hk3.cell (p := ⟨g1, 0, none⟩) HL2.out HG1.out).trans q2
    clear hs3 hk3 HE
    go_wp2_with fail
    go_returns
    exact ⟨rfl, HS3.out⟩
  · go_wp2_with fail
    go_quiet (fail)
    rw [HW1.out, HW3.out]
    have H2 := Lib.hid (H1.out.later (below_drewN (Below.refl _ _) nq))
    have HK2 := Lib.hid (HK1.out.drewN nq)
    have HL2 : Hid (g1 < (w1.drewN nq).heap.size) := HL1
    have q2 : (w1.drewN nq).cell? ⟨g1, 0, none⟩ = some (.int .i64 (-1)) := q0
    clear c0 c1 c2 c3 c4 c5 c6 f3 f4 q0
    generalize w1.drewN nq = w2 at *
    obtain ⟨c0, c1, c2, c3, c4, c5, c6⟩ := H2.out.cells
    have HE := Lib.hid (jk_end H2.out HK2.out HG.out 74 (-1) (P + t.col) (Q) ((P : Int) + (t.col : Int)) (Q : Int) (by omega) (by omega) (by omega) (by rw [HQ.out]; omega) (by rw [HJK.out.1]; rw [if_pos (by decide)]))
    go_wp2_with fail
    go_still_tail 13, (by kernel_rfl)
    go_wp2_with fail
    rw [HW2.out]
    refine (HE.out 1).mono ?_
    rintro e w3 ⟨rfl, hs3, hk3⟩
    have HS3 := Lib.hid hs3
    have q3 := (hk3.cell (p := ⟨g1, 0, none⟩) HL2.out HG1.out).trans q2
    clear hs3 hk3 HE
    go_wp2_with fail
    go_returns
    exact ⟨rfl, HS3.out⟩
set_option maxRecDepth 100000 in
set_option maxHeartbeats 1000000 in
theorem refCommand_J2 {w : World} {r lo g cap : Nat} {bs : List (Nat × Nat)} {t : Tm} (h : RtAt w r lo g cap bs t) (hg : t.Good) (hpl : t.par.length ≤ 1000000) (a : Int) (hn : numsT t.par (-1) = some [a]) (hz : a = 2) :
    Calls Tryd.prog 46 #[.pointer (some ⟨r, 0, none⟩), .int .u8 74] w fun e w' => e = .returned (.tuple #[]) ∧ RtStep w r lo g cap t.cells.length bs (t.command 74 [a]) w' := by
  have ha := numsT_in t.par (-1) [a] (by omega) hn a (by simp)
  obtain ⟨-, -, -, -, -, -, c6⟩ := h.cells
  have H := Lib.hid h
  have HG := Lib.hid hg
  have HN := Lib.hid hn
  have HNB := Lib.hid (refNumbers_any t.par w hpl)
  clear h hg hn hpl
  go_enter Tryd.func46, Tryd.ntmps46
  go_wp2_with fail
  refine HNB.out.mono ?_
  rintro e w1 ⟨hb1, -, hyes⟩
  obtain ⟨g1, cp1, rfl, hown⟩ := hyes [a] HN.out
  obtain ⟨q0, -⟩ := ownInts_at hown (k := 0) (x := a) rfl
  have H1 := Lib.hid (H.out.later hb1)
  have HK1 := Lib.hid (KeepT.of_below (S := RtS r g cap t.cells.length bs) hb1)
  obtain ⟨c0, c1, c2, c3, c4, c5, c6⟩ := H1.out.cells
  have f3 := H1.out.free 3
  have f4 := H1.out.free 4
  have hr1 := HG.out.rows
  have hr2 := HG.out.cols
  have hr3 := HG.out.row
  have hr4 := HG.out.col
  have HG1 := Lib.hid (show ¬ RtS r g cap t.cells.length bs g1 from fun e => by have := (H.out.lts g1 e).2; have := (hown.lt g1 rfl).1; omega)
  have HL1 := Lib.hid (lt_of_cell q0)
  obtain ⟨P, Q, hP, hQ, hP1, hQ1, hw1, hw2, hw3⟩ := here_nums t HG.out
  have HJK := Lib.hid (cmd_JK t HG.out a ha.1 P Q hP hQ)
  have HW1 := Lib.hid hw1
  have HW2 := Lib.hid hw2
  have HW3 := Lib.hid hw3
  have HP := Lib.hid hP
  have HQ := Lib.hid hQ
  have hP1' := hP1
  clear hyes hown hb1 HNB hP hQ hw1 hw2 hw3
  subst hz
  go_wp2_with fail
  go_quiet (fail)
  rw [HW1.out, HW3.out]
  have H2 := Lib.hid (H1.out.later (below_drewN (Below.refl _ _) nq))
  have HK2 := Lib.hid (HK1.out.drewN nq)
  have HL2 : Hid (g1 < (w1.drewN nq).heap.size) := HL1
  have q2 : (w1.drewN nq).cell? ⟨g1, 0, none⟩ = some (.int .i64 2) := q0
  clear c0 c1 c2 c3 c4 c5 c6 f3 f4 q0
  generalize w1.drewN nq = w2 at *
  obtain ⟨c0, c1, c2, c3, c4, c5, c6⟩ := H2.out.cells
  have HE := Lib.hid (jk_end H2.out HK2.out HG.out 74 2 (0) (Q) 0 (Q : Int) (by omega) (by omega) (by omega) (by rw [HQ.out]; omega) (by rw [HJK.out.1]; rw [if_neg (by decide), if_pos trivial]))
  go_wp2_with fail
  go_still_tail 12, (by kernel_rfl)
  go_wp2_with fail
  rw [HW2.out]
  refine (HE.out 1).mono ?_
  rintro e w3 ⟨rfl, hs3, hk3⟩
  have HS3 := Lib.hid hs3
  have q3 := (hk3.cell (p := ⟨g1, 0, none⟩) HL2.out HG1.out).trans q2
  clear hs3 hk3 HE
  go_wp2_with fail
  go_returns
  exact ⟨rfl, HS3.out⟩
set_option maxRecDepth 100000 in
set_option maxHeartbeats 1000000 in
theorem refCommand_JN {w : World} {r lo g cap : Nat} {bs : List (Nat × Nat)} {t : Tm} (h : RtAt w r lo g cap bs t) (hg : t.Good) (hpl : t.par.length ≤ 1000000) (a : Int) (hn : numsT t.par (-1) = some [a]) (hz : a ≠ 0 ∧ a ≠ -1 ∧ a ≠ 2) :
    Calls Tryd.prog 46 #[.pointer (some ⟨r, 0, none⟩), .int .u8 74] w fun e w' => e = .returned (.tuple #[]) ∧ RtStep w r lo g cap t.cells.length bs (t.command 74 [a]) w' := by
  have ha := numsT_in t.par (-1) [a] (by omega) hn a (by simp)
  obtain ⟨-, -, -, -, -, -, c6⟩ := h.cells
  have H := Lib.hid h
  have HG := Lib.hid hg
  have HN := Lib.hid hn
  have HNB := Lib.hid (refNumbers_any t.par w hpl)
  clear h hg hn hpl
  go_enter Tryd.func46, Tryd.ntmps46
  go_wp2_with fail
  refine HNB.out.mono ?_
  rintro e w1 ⟨hb1, -, hyes⟩
  obtain ⟨g1, cp1, rfl, hown⟩ := hyes [a] HN.out
  obtain ⟨q0, -⟩ := ownInts_at hown (k := 0) (x := a) rfl
  have H1 := Lib.hid (H.out.later hb1)
  have HK1 := Lib.hid (KeepT.of_below (S := RtS r g cap t.cells.length bs) hb1)
  obtain ⟨c0, c1, c2, c3, c4, c5, c6⟩ := H1.out.cells
  have f3 := H1.out.free 3
  have f4 := H1.out.free 4
  have hr1 := HG.out.rows
  have hr2 := HG.out.cols
  have hr3 := HG.out.row
  have hr4 := HG.out.col
  have HG1 := Lib.hid (show ¬ RtS r g cap t.cells.length bs g1 from fun e => by have := (H.out.lts g1 e).2; have := (hown.lt g1 rfl).1; omega)
  have HL1 := Lib.hid (lt_of_cell q0)
  obtain ⟨P, Q, hP, hQ, hP1, hQ1, hw1, hw2, hw3⟩ := here_nums t HG.out
  have HJK := Lib.hid (cmd_JK t HG.out a ha.1 P Q hP hQ)
  have HW1 := Lib.hid hw1
  have HW2 := Lib.hid hw2
  have HW3 := Lib.hid hw3
  have HP := Lib.hid hP
  have HQ := Lib.hid hQ
  have hP1' := hP1
  clear hyes hown hb1 HNB hP hQ hw1 hw2 hw3
  have HF : Hid (∀ n, RtStep w r lo g cap t.cells.length bs (t.command 74 [a]) (w1.drewN n)) := Lib.hid (fun n => by
    rw [HJK.out.1, if_neg (by omega), if_neg (by omega)]
    exact (RtStep.same H1.out HK1.out).drewN n)
  have z1 : ¬ a < 0 := by omega
  have y0 : (a == 0) = false := by rw [beq_eq_false_iff_ne]; omega
  have y2 : (a == 2) = false := by rw [beq_eq_false_iff_ne]; omega
  clear hz
  go_wp2_with fail
  go_quiet (fail)
  go_wp2_with fail
  go_returns
  exact ⟨rfl, HF.out _⟩
theorem refCommand_J {w : World} {r lo g cap : Nat} {bs : List (Nat × Nat)} {t : Tm} (h : RtAt w r lo g cap bs t) (hg : t.Good) (hpl : t.par.length ≤ 1000000) (a : Int) (hn : numsT t.par (-1) = some [a]) :
    Calls Tryd.prog 46 #[.pointer (some ⟨r, 0, none⟩), .int .u8 74] w fun e w' => e = .returned (.tuple #[]) ∧ RtStep w r lo g cap t.cells.length bs (t.command 74 [a]) w' := by
  by_cases h0 : a = 0 ∨ a = -1
  · exact refCommand_J0 h hg hpl a hn h0
  · by_cases h2 : a = 2
    · exact refCommand_J2 h hg hpl a hn h2
    · exact refCommand_JN h hg hpl a hn ⟨fun e => h0 (.inl e), fun e => h0 (.inr e), h2⟩
set_option maxRecDepth 100000 in
set_option maxHeartbeats 1000000 in
theorem refCommand_K0 {w : World} {r lo g cap : Nat} {bs : List (Nat × Nat)} {t : Tm} (h : RtAt w r lo g cap bs t) (hg : t.Good) (hpl : t.par.length ≤ 1000000) (a : Int) (hn : numsT t.par (-1) = some [a]) (hz : a = 0 ∨ a = -1) :
    Calls Tryd.prog 46 #[.pointer (some ⟨r, 0, none⟩), .int .u8 75] w fun e w' => e = .returned (.tuple #[]) ∧ RtStep w r lo g cap t.cells.length bs (t.command 75 [a]) w' := by
  have ha := numsT_in t.par (-1) [a] (by omega) hn a (by simp)
  obtain ⟨-, -, -, -, -, -, c6⟩ := h.cells
  have H := Lib.hid h
  have HG := Lib.hid hg
  have HN := Lib.hid hn
  have HNB := Lib.hid (refNumbers_any t.par w hpl)
  clear h hg hn hpl
  go_enter Tryd.func46, Tryd.ntmps46
  go_wp2_with fail
  refine HNB.out.mono ?_
  rintro e w1 ⟨hb1, -, hyes⟩
  obtain ⟨g1, cp1, rfl, hown⟩ := hyes [a] HN.out
  obtain ⟨q0, -⟩ := ownInts_at hown (k := 0) (x := a) rfl
  have H1 := Lib.hid (H.out.later hb1)
  have HK1 := Lib.hid (KeepT.of_below (S := RtS r g cap t.cells.length bs) hb1)
  obtain ⟨c0, c1, c2, c3, c4, c5, c6⟩ := H1.out.cells
  have f3 := H1.out.free 3
  have f4 := H1.out.free 4
  have hr1 := HG.out.rows
  have hr2 := HG.out.cols
  have hr3 := HG.out.row
  have hr4 := HG.out.col
  have HG1 := Lib.hid (show ¬ RtS r g cap t.cells.length bs g1 from fun e => by have := (H.out.lts g1 e).2; have := (hown.lt g1 rfl).1; omega)
  have HL1 := Lib.hid (lt_of_cell q0)
  obtain ⟨P, Q, hP, hQ, hP1, hQ1, hw1, hw2, hw3⟩ := here_nums t HG.out
  have HJK := Lib.hid (cmd_JK t HG.out a ha.1 P Q hP hQ)
  have HW1 := Lib.hid hw1
  have HW2 := Lib.hid hw2
  have HW3 := Lib.hid hw3
  have HP := Lib.hid hP
  have HQ := Lib.hid hQ
  have hP1' := hP1
  clear hyes hown hb1 HNB hP hQ hw1 hw2 hw3
  rcases hz with rfl | rfl
  · go_wp2_with fail
    go_quiet (fail)
    rw [HW1.out, HW3.out]
    have H2 := Lib.hid (H1.out.later (below_drewN (Below.refl _ _) nq))
    have HK2 := Lib.hid (HK1.out.drewN nq)
    have HL2 : Hid (g1 < (w1.drewN nq).heap.size) := HL1
    have q2 : (w1.drewN nq).cell? ⟨g1, 0, none⟩ = some (.int .i64 0) := q0
    clear c0 c1 c2 c3 c4 c5 c6 f3 f4 q0
    generalize w1.drewN nq = w2 at *
    obtain ⟨c0, c1, c2, c3, c4, c5, c6⟩ := H2.out.cells
    have HE := Lib.hid (jk_end H2.out HK2.out HG.out 75 0 (P + t.col) (P + t.cols) ((P : Int) + (t.col : Int)) ((P : Int) + (t.cols : Int)) (by omega) (by omega) (by omega) (by rw [HQ.out]; omega) (by rw [HJK.out.2]; rw [if_pos (by decide)]))
    go_wp2_with fail
    refine (HE.out 0).mono ?_
    rintro e w3 ⟨rfl, hs3, hk3⟩
    have HS3 := Lib.hid hs3
    have q3 := (hk3.cell (p := ⟨g1, 0, none⟩) HL2.out HG1.out).trans q2
    clear hs3 hk3 HE
    go_wp2_with fail
    go_returns
    exact ⟨rfl, HS3.out⟩
  · go_wp2_with fail
    go_quiet (fail)
    rw [HW1.out, HW3.out]
    have H2 := Lib.hid (H1.out.later (below_drewN (Below.refl _ _) nq))
    have HK2 := Lib.hid (HK1.out.drewN nq)
    have HL2 : Hid (g1 < (w1.drewN nq).heap.size) := HL1
    have q2 : (w1.drewN nq).cell? ⟨g1, 0, none⟩ = some (.int .i64 (-1)) := q0
    clear c0 c1 c2 c3 c4 c5 c6 f3 f4 q0
    generalize w1.drewN nq = w2 at *
    obtain ⟨c0, c1, c2, c3, c4, c5, c6⟩ := H2.out.cells
    have HE := Lib.hid (jk_end H2.out HK2.out HG.out 75 (-1) (P + t.col) (P + t.cols) ((P : Int) + (t.col : Int)) ((P : Int) + (t.cols : Int)) (by omega) (by omega) (by omega) (by rw [HQ.out]; omega) (by rw [HJK.out.2]; rw [if_pos (by decide)]))
    go_wp2_with fail
    refine (HE.out 0).mono ?_
    rintro e w3 ⟨rfl, hs3, hk3⟩
    have HS3 := Lib.hid hs3
    have q3 := (hk3.cell (p := ⟨g1, 0, none⟩) HL2.out HG1.out).trans q2
    clear hs3 hk3 HE
    go_wp2_with fail
    go_returns
    exact ⟨rfl, HS3.out⟩
set_option maxRecDepth 100000 in
set_option maxHeartbeats 1000000 in
theorem refCommand_K2 {w : World} {r lo g cap : Nat} {bs : List (Nat × Nat)} {t : Tm} (h : RtAt w r lo g cap bs t) (hg : t.Good) (hpl : t.par.length ≤ 1000000) (a : Int) (hn : numsT t.par (-1) = some [a]) (hz : a = 2) :
    Calls Tryd.prog 46 #[.pointer (some ⟨r, 0, none⟩), .int .u8 75] w fun e w' => e = .returned (.tuple #[]) ∧ RtStep w r lo g cap t.cells.length bs (t.command 75 [a]) w' := by
  have ha := numsT_in t.par (-1) [a] (by omega) hn a (by simp)
  obtain ⟨-, -, -, -, -, -, c6⟩ := h.cells
  have H := Lib.hid h
  have HG := Lib.hid hg
  have HN := Lib.hid hn
  have HNB := Lib.hid (refNumbers_any t.par w hpl)
  clear h hg hn hpl
  go_enter Tryd.func46, Tryd.ntmps46
  go_wp2_with fail
  refine HNB.out.mono ?_
  rintro e w1 ⟨hb1, -, hyes⟩
  obtain ⟨g1, cp1, rfl, hown⟩ := hyes [a] HN.out
  obtain ⟨q0, -⟩ := ownInts_at hown (k := 0) (x := a) rfl
  have H1 := Lib.hid (H.out.later hb1)
  have HK1 := Lib.hid (KeepT.of_below (S := RtS r g cap t.cells.length bs) hb1)
  obtain ⟨c0, c1, c2, c3, c4, c5, c6⟩ := H1.out.cells
  have f3 := H1.out.free 3
  have f4 := H1.out.free 4
  have hr1 := HG.out.rows
  have hr2 := HG.out.cols
  have hr3 := HG.out.row
  have hr4 := HG.out.col
  have HG1 := Lib.hid (show ¬ RtS r g cap t.cells.length bs g1 from fun e => by have := (H.out.lts g1 e).2; have := (hown.lt g1 rfl).1; omega)
  have HL1 := Lib.hid (lt_of_cell q0)
  obtain ⟨P, Q, hP, hQ, hP1, hQ1, hw1, hw2, hw3⟩ := here_nums t HG.out
  have HJK := Lib.hid (cmd_JK t HG.out a ha.1 P Q hP hQ)
  have HW1 := Lib.hid hw1
  have HW2 := Lib.hid hw2
  have HW3 := Lib.hid hw3
  have HP := Lib.hid hP
  have HQ := Lib.hid hQ
  have hP1' := hP1
  clear hyes hown hb1 HNB hP hQ hw1 hw2 hw3
  subst hz
  go_wp2_with fail
  go_quiet (fail)
  rw [HW1.out, HW3.out]
  have H2 := Lib.hid (H1.out.later (below_drewN (Below.refl _ _) nq))
  have HK2 := Lib.hid (HK1.out.drewN nq)
  have HL2 : Hid (g1 < (w1.drewN nq).heap.size) := HL1
  have q2 : (w1.drewN nq).cell? ⟨g1, 0, none⟩ = some (.int .i64 2) := q0
  clear c0 c1 c2 c3 c4 c5 c6 f3 f4 q0
  generalize w1.drewN nq = w2 at *
  obtain ⟨c0, c1, c2, c3, c4, c5, c6⟩ := H2.out.cells
  have HE := Lib.hid (jk_end H2.out HK2.out HG.out 75 2 (P) (P + t.cols) (P : Int) ((P : Int) + (t.cols : Int)) (by omega) (by omega) (by omega) (by rw [HQ.out]; omega) (by rw [HJK.out.2]; rw [if_neg (by decide), if_pos trivial]))
  go_wp2_with fail
  refine (HE.out 0).mono ?_
  rintro e w3 ⟨rfl, hs3, hk3⟩
  have HS3 := Lib.hid hs3
  have q3 := (hk3.cell (p := ⟨g1, 0, none⟩) HL2.out HG1.out).trans q2
  clear hs3 hk3 HE
  go_wp2_with fail
  go_returns
  exact ⟨rfl, HS3.out⟩
set_option maxRecDepth 100000 in
set_option maxHeartbeats 1000000 in
theorem refCommand_KN {w : World} {r lo g cap : Nat} {bs : List (Nat × Nat)} {t : Tm} (h : RtAt w r lo g cap bs t) (hg : t.Good) (hpl : t.par.length ≤ 1000000) (a : Int) (hn : numsT t.par (-1) = some [a]) (hz : a ≠ 0 ∧ a ≠ -1 ∧ a ≠ 2) :
    Calls Tryd.prog 46 #[.pointer (some ⟨r, 0, none⟩), .int .u8 75] w fun e w' => e = .returned (.tuple #[]) ∧ RtStep w r lo g cap t.cells.length bs (t.command 75 [a]) w' := by
  have ha := numsT_in t.par (-1) [a] (by omega) hn a (by simp)
  obtain ⟨-, -, -, -, -, -, c6⟩ := h.cells
  have H := Lib.hid h
  have HG := Lib.hid hg
  have HN := Lib.hid hn
  have HNB := Lib.hid (refNumbers_any t.par w hpl)
  clear h hg hn hpl
  go_enter Tryd.func46, Tryd.ntmps46
  go_wp2_with fail
  refine HNB.out.mono ?_
  rintro e w1 ⟨hb1, -, hyes⟩
  obtain ⟨g1, cp1, rfl, hown⟩ := hyes [a] HN.out
  obtain ⟨q0, -⟩ := ownInts_at hown (k := 0) (x := a) rfl
  have H1 := Lib.hid (H.out.later hb1)
  have HK1 := Lib.hid (KeepT.of_below (S := RtS r g cap t.cells.length bs) hb1)
  obtain ⟨c0, c1, c2, c3, c4, c5, c6⟩ := H1.out.cells
  have f3 := H1.out.free 3
  have f4 := H1.out.free 4
  have hr1 := HG.out.rows
  have hr2 := HG.out.cols
  have hr3 := HG.out.row
  have hr4 := HG.out.col
  have HG1 := Lib.hid (show ¬ RtS r g cap t.cells.length bs g1 from fun e => by have := (H.out.lts g1 e).2; have := (hown.lt g1 rfl).1; omega)
  have HL1 := Lib.hid (lt_of_cell q0)
  obtain ⟨P, Q, hP, hQ, hP1, hQ1, hw1, hw2, hw3⟩ := here_nums t HG.out
  have HJK := Lib.hid (cmd_JK t HG.out a ha.1 P Q hP hQ)
  have HW1 := Lib.hid hw1
  have HW2 := Lib.hid hw2
  have HW3 := Lib.hid hw3
  have HP := Lib.hid hP
  have HQ := Lib.hid hQ
  have hP1' := hP1
  clear hyes hown hb1 HNB hP hQ hw1 hw2 hw3
  have HF : Hid (∀ n, RtStep w r lo g cap t.cells.length bs (t.command 75 [a]) (w1.drewN n)) := Lib.hid (fun n => by
    rw [HJK.out.2, if_neg (by omega), if_neg (by omega)]
    exact (RtStep.same H1.out HK1.out).drewN n)
  have z1 : ¬ a < 0 := by omega
  have y0 : (a == 0) = false := by rw [beq_eq_false_iff_ne]; omega
  have y2 : (a == 2) = false := by rw [beq_eq_false_iff_ne]; omega
  clear hz
  go_wp2_with fail
  go_quiet (fail)
  go_wp2_with fail
  go_returns
  exact ⟨rfl, HF.out _⟩
theorem refCommand_K {w : World} {r lo g cap : Nat} {bs : List (Nat × Nat)} {t : Tm} (h : RtAt w r lo g cap bs t) (hg : t.Good) (hpl : t.par.length ≤ 1000000) (a : Int) (hn : numsT t.par (-1) = some [a]) :
    Calls Tryd.prog 46 #[.pointer (some ⟨r, 0, none⟩), .int .u8 75] w fun e w' => e = .returned (.tuple #[]) ∧ RtStep w r lo g cap t.cells.length bs (t.command 75 [a]) w' := by
  by_cases h0 : a = 0 ∨ a = -1
  · exact refCommand_K0 h hg hpl a hn h0
  · by_cases h2 : a = 2
    · exact refCommand_K2 h hg hpl a hn h2
    · exact refCommand_KN h hg hpl a hn ⟨fun e => h0 (.inl e), fun e => h0 (.inr e), h2⟩
end Go.Proofs.YtgfcnafhfgncoaaDoor
/- The reference's command. -/
namespace Go.Proofs.YtgfcnafhfgncoaaDoor
open Go Go.Proofs Go.RowKit Go.Ink

/-- Two words are turned: the step. -/
theorem RtAt.two {w : World} {r lo g cap : Nat} {bs : List (Nat × Nat)} {t t1 t' : Tm} {j k : Nat} {u v : Value} (h : RtAt w r lo g cap bs t) (hc1 : t1.cells = t.cells) (hc : t'.cells = t1.cells)
    (h1 : (#[.int .i64 (t.rows : Int), .int .i64 (t.cols : Int), .slice (some ⟨g, 0, none⟩) t.cells.length cap, .int .i64 (t.row : Int), .int .i64 (t.col : Int), .int .i64 (t.esc : Int), .string ⟨t.par.toArray⟩] : Array Value).setIfInBounds j u = #[.int .i64 (t1.rows : Int), .int .i64 (t1.cols : Int), .slice (some ⟨g, 0, none⟩) t.cells.length cap, .int .i64 (t1.row : Int), .int .i64 (t1.col : Int), .int .i64 (t1.esc : Int), .string ⟨t1.par.toArray⟩])
    (h2 : (#[.int .i64 (t1.rows : Int), .int .i64 (t1.cols : Int), .slice (some ⟨g, 0, none⟩) t1.cells.length cap, .int .i64 (t1.row : Int), .int .i64 (t1.col : Int), .int .i64 (t1.esc : Int), .string ⟨t1.par.toArray⟩] : Array Value).setIfInBounds k v = #[.int .i64 (t'.rows : Int), .int .i64 (t'.cols : Int), .slice (some ⟨g, 0, none⟩) t1.cells.length cap, .int .i64 (t'.row : Int), .int .i64 (t'.col : Int), .int .i64 (t'.esc : Int), .string ⟨t'.par.toArray⟩]) :
    RtStep w r lo g cap t.cells.length bs t' ((w.setCell ⟨r, j, none⟩ u).setCell ⟨r, k, none⟩ v) :=
  RtStep.same ((h.word hc1 h1).word hc h2) (((KeepT.refl _ _).setCell (.inl (.inl rfl)) _).setCell (.inl (.inl rfl)) _)
set_option maxRecDepth 100000 in
set_option maxHeartbeats 1000000 in
theorem refCommand_H {w : World} {r lo g cap : Nat} {bs : List (Nat × Nat)} {t : Tm} (h : RtAt w r lo g cap bs t) (hg : t.Good) (hpl : t.par.length ≤ 1000000) (a b : Int) (l : List Int) (hl : l = [a] ∧ b = -1 ∨ l = [a, b]) (hn : numsT t.par (-1) = some l) :
    Calls Tryd.prog 46 #[.pointer (some ⟨r, 0, none⟩), .int .u8 72] w fun e w' => e = .returned (.tuple #[]) ∧ RtStep w r lo g cap t.cells.length bs (t.command 72 l) w' := by
  have ha := numsT_in t.par (-1) l (by omega) hn
  have hab : (-1 ≤ a ∧ a ≤ 9999) ∧ (-1 ≤ b ∧ b ≤ 9999) := by
    rcases hl with ⟨rfl, rfl⟩ | rfl
    · exact ⟨ha a (by simp), by omega⟩
    · exact ⟨ha a (by simp), ha b (by simp)⟩
  have hcm := cmd_H (t := t) hl
  obtain ⟨-, -, -, -, -, -, c6⟩ := h.cells
  have H := Lib.hid h
  have HG := Lib.hid hg
  have HN := Lib.hid hn
  have HNB := Lib.hid (refNumbers_any t.par w hpl)
  clear h hg hn hpl ha
  have HCM := Lib.hid hcm
  clear hcm
  go_enter Tryd.func46, Tryd.ntmps46
  go_wp2_with fail
  refine HNB.out.mono ?_
  rintro e w1 ⟨hb1, -, hyes⟩
  obtain ⟨g1, cp1, rfl, hown⟩ := hyes l HN.out
  have H1 := Lib.hid (H.out.later hb1)
  have HK1 := Lib.hid (KeepT.of_below (S := RtS r g cap t.cells.length bs) hb1)
  obtain ⟨c0, c1, c2, c3, c4, c5, c6⟩ := H1.out.cells
  have f3 := H1.out.free 3
  have f4 := H1.out.free 4
  have hr1 := HG.out.rows
  have hr2 := HG.out.cols
  have hr3 := HG.out.row
  have hr4 := HG.out.col
  have HF : Hid (∀ n x y, x = min (max a 1) (t.rows : Int) - 1 → y = min (max b 1) (t.cols : Int) - 1 → RtStep w r lo g cap t.cells.length bs (t.command 72 l) (((w1.drewN n).setCell ⟨r, 3, none⟩ (.int .i64 x)).setCell ⟨r, 4, none⟩ (.int .i64 y))) := Lib.hid (fun n x y hx hy => by
    rw [HCM.out]
    have hx' : x = ((min (max a 1).toNat t.rows - 1 : Nat) : Int) := by omega
    have hy' : y = ((min (max b 1).toNat t.cols - 1 : Nat) : Int) := by omega
    subst hx' hy'
    exact RtStep.behind (HK1.out.drewN n) ((H1.out.later (below_drewN (Below.refl _ _) n)).two (t1 := { t with row := min (max a 1).toNat t.rows - 1 }) (t' := { t with row := min (max a 1).toNat t.rows - 1, col := min (max b 1).toNat t.cols - 1 }) (j := 3) (k := 4) rfl rfl rfl rfl))
  obtain ⟨⟨ha1, ha2⟩, hb1', hb2'⟩ := hab
  rcases hl with ⟨rfl, rfl⟩ | rfl
  · obtain ⟨q0, -⟩ := ownInts_at hown (k := 0) (x := a) rfl
    clear hyes hown hb1 HNB
    go_wp2_with fail
    go_quiet (fail)
    go_wp2_with fail
    go_region
    go_wp2_with fail
    go_returns
    exact ⟨rfl, HF.out _ _ _ rfl rfl⟩
  · obtain ⟨q0, -⟩ := ownInts_at hown (k := 0) (x := a) rfl
    obtain ⟨q1, -⟩ := ownInts_at hown (k := 1) (x := b) rfl
    clear hyes hown hb1 HNB
    go_wp2_with fail
    go_quiet (fail)
    go_wp2_with fail
    go_region
    go_wp2_with fail
    go_returns
    exact ⟨rfl, HF.out _ _ _ rfl rfl⟩
set_option maxRecDepth 100000 in
set_option maxHeartbeats 1000000 in
/-- Parameters that are none, or too many. -/
theorem refCommand_out {w : World} {r lo g cap : Nat} {bs : List (Nat × Nat)} {t : Tm} (h : RtAt w r lo g cap bs t) (hpl : t.par.length ≤ 1000000) (c : UInt8) (hn : numsT t.par (-1) = none ∨ ∃ l, numsT t.par (-1) = some l ∧ l ≠ [] ∧ (2 < l.length ∨ (l.length = 2 ∧ c ≠ 72))) :
    Calls Tryd.prog 46 #[.pointer (some ⟨r, 0, none⟩), .int .u8 (c.toNat : Int)] w fun e w' => e = .returned (.tuple #[]) ∧ RtStep w r lo g cap t.cells.length bs t w' := by
  obtain ⟨-, -, -, -, -, -, c6⟩ := h.cells
  have H := Lib.hid h
  have HNB := Lib.hid (refNumbers_any t.par w hpl)
  clear h hpl
  go_enter Tryd.func46, Tryd.ntmps46
  go_wp2_with fail
  refine HNB.out.mono ?_
  rintro e w1 ⟨hb1, hno, hyes⟩
  have HF := Lib.hid (RtStep.same (H.out.later hb1) (KeepT.of_below (S := RtS r g cap t.cells.length bs) hb1))
  rcases hn with hn | ⟨l, hn, hl, hm⟩
  · have he := hno hn
    subst he
    clear hno hyes hn hb1 HNB
    go_wp2_with fail
    go_returns
    exact ⟨rfl, HF.out⟩
  · obtain ⟨g1, cp1, rfl, hown⟩ := hyes l hn
    clear hno hyes hn hb1 HNB hown
    rcases hm with hm | ⟨hm, hc⟩
    · have hm' : (2 : Int) < (l.length : Int) := by omega
      go_wp2_with fail
      go_returns
      exact ⟨rfl, HF.out⟩
    · have e72 : ((c.toNat : Int) == 72) = false := byte_ne 72 hc
      go_wp2_with fail
      go_returns
      exact ⟨rfl, HF.out⟩
set_option maxRecDepth 100000 in
set_option maxHeartbeats 1000000 in
/-- A command that is none. -/
theorem refCommand_none {w : World} {r lo g cap : Nat} {bs : List (Nat × Nat)} {t : Tm} (h : RtAt w r lo g cap bs t) (hg : t.Good) (hpl : t.par.length ≤ 1000000) (c : UInt8) (hc : c ≠ 72 ∧ c ≠ 65 ∧ c ≠ 66 ∧ c ≠ 67 ∧ c ≠ 68 ∧ c ≠ 74 ∧ c ≠ 75) (a : Int) (hn : numsT t.par (-1) = some [a]) :
    Calls Tryd.prog 46 #[.pointer (some ⟨r, 0, none⟩), .int .u8 (c.toNat : Int)] w fun e w' => e = .returned (.tuple #[]) ∧ RtStep w r lo g cap t.cells.length bs t w' := by
  obtain ⟨k72, k65, k66, k67, k68, k74, k75⟩ := hc
  have e72 : ((c.toNat : Int) == 72) = false := byte_ne 72 k72
  have e65 : ((c.toNat : Int) == 65) = false := byte_ne 65 k65
  have e66 : ((c.toNat : Int) == 66) = false := byte_ne 66 k66
  have e67 : ((c.toNat : Int) == 67) = false := byte_ne 67 k67
  have e68 : ((c.toNat : Int) == 68) = false := byte_ne 68 k68
  have e74 : ((c.toNat : Int) == 74) = false := byte_ne 74 k74
  have e75 : ((c.toNat : Int) == 75) = false := byte_ne 75 k75
  clear k72 k65 k66 k67 k68 k74 k75
  obtain ⟨-, -, -, -, -, -, c6⟩ := h.cells
  have H := Lib.hid h
  have HG := Lib.hid hg
  have HN := Lib.hid hn
  have HNB := Lib.hid (refNumbers_any t.par w hpl)
  clear h hg hn hpl
  go_enter Tryd.func46, Tryd.ntmps46
  go_wp2_with fail
  refine HNB.out.mono ?_
  rintro e w1 ⟨hb1, -, hyes⟩
  obtain ⟨g1, cp1, rfl, hown⟩ := hyes [a] HN.out
  obtain ⟨q0, -⟩ := ownInts_at hown (k := 0) (x := a) rfl
  have H1 := Lib.hid (H.out.later hb1)
  have HK1 := Lib.hid (KeepT.of_below (S := RtS r g cap t.cells.length bs) hb1)
  obtain ⟨c0, c1, c2, c3, c4, c5, c6⟩ := H1.out.cells
  have hr1 := HG.out.rows
  have hr2 := HG.out.cols
  have hr3 := HG.out.row
  have hr4 := HG.out.col
  have HF : Hid (∀ n, RtStep w r lo g cap t.cells.length bs t (w1.drewN n)) := Lib.hid (fun n => (RtStep.same H1.out HK1.out).drewN n)
  clear hyes hown hb1 HNB
  go_wp2_with fail
  go_quiet (fail)
  go_wp2_with fail
  go_returns
  exact ⟨rfl, HF.out _⟩
/-- The end of an escape. -/
theorem refCommand_any {w : World} {r lo g cap : Nat} {bs : List (Nat × Nat)} {t : Tm} (h : RtAt w r lo g cap bs t) (hg : t.Good) (hpl : t.par.length ≤ 1000000) (c : UInt8) :
    Calls Tryd.prog 46 #[.pointer (some ⟨r, 0, none⟩), .int .u8 (c.toNat : Int)] w fun e w' => e = .returned (.tuple #[]) ∧ RtStep w r lo g cap t.cells.length bs (match numsT t.par (-1) with | none => t | some l => t.command c l) w' := by
  cases hn : numsT t.par (-1) with
  | none => exact refCommand_out h hpl c (.inl hn)
  | some l =>
    have hl := numsT_ne _ _ _ hn
    by_cases hm : 2 < l.length ∨ (l.length = 2 ∧ c ≠ 72)
    · have e : t.command c l = t := by
        unfold Tm.command
        rw [if_pos (by rcases hm with h | ⟨h1, h2⟩; exact .inl h; exact .inr ⟨by omega, h2⟩)]
      show Calls _ _ _ _ fun e w' => _ ∧ RtStep w r lo g cap t.cells.length bs (t.command c l) w'
      rw [e]
      exact refCommand_out h hpl c (.inr ⟨l, hn, hl, hm⟩)
    · show Calls _ _ _ _ fun e w' => _ ∧ RtStep w r lo g cap t.cells.length bs (t.command c l) w'
      by_cases h72 : c = 72
      · subst h72
        match l, hl with
        | [a], _ => exact refCommand_H h hg hpl a (-1) [a] (.inl ⟨rfl, rfl⟩) hn
        | [a, b], _ => exact refCommand_H h hg hpl a b [a, b] (.inr rfl) hn
        | a :: b :: d :: l', _ => exact absurd (.inl (by simp)) hm
      · match l, hl with
        | a :: b :: l', _ =>
          exfalso; apply hm
          rcases l' with _ | ⟨d, l'⟩
          · exact .inr ⟨rfl, h72⟩
          · exact .inl (by simp)
        | [a], _ =>
          by_cases c65 : c = 65
          · subst c65; exact refCommand_A h hg hpl a hn
          by_cases c66 : c = 66
          · subst c66; exact refCommand_B h hg hpl a hn
          by_cases c67 : c = 67
          · subst c67; exact refCommand_C h hg hpl a hn
          by_cases c68 : c = 68
          · subst c68; exact refCommand_D h hg hpl a hn
          by_cases c74 : c = 74
          · subst c74; exact refCommand_J h hg hpl a hn
          by_cases c75 : c = 75
          · subst c75; exact refCommand_K h hg hpl a hn
          rw [cmd_other ⟨h72, c65, c66, c67, c68, c74, c75⟩]
          exact refCommand_none h hg hpl c ⟨h72, c65, c66, c67, c68, c74, c75⟩ a hn
end Go.Proofs.YtgfcnafhfgncoaaDoor
