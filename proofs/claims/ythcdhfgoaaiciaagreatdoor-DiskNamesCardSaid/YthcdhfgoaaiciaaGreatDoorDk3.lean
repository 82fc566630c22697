/- The walks of Mine, the reference's Mine, and of DiskNames (chapter 24). -/
import Derived.Test.YthcdhfgoaaiciaaGreatDoorDk2
import Derived.Laws.Tables
import Derived.Deep.Cut
import Derived.WalkSmall
import Derived.BigRegion
import Derived.Laws.Rows
import Derived.Deep.QuietTactic
import Derived.BigQuiet
import Derived.Lib.QuietBelow
set_option linter.unusedVariables false
set_option linter.unusedSimpArgs false
namespace Go.Proofs.YthcdhfgoaaiciaaGreatDoor
open Go Go.Proofs Go.RowKit Go.Ink Go.Ev Go.Sort

/-- A command's cells: its name is the third. -/
def cmdA (x0 x1 : Value) (c : UInt8) (x3 x4 x5 x6 x7 x8 x9 x10 x11 x12 x13 x14 : Value) : Array Value := #[x0, x1, .int .u8 (c.toNat : Int), x3, x4, x5, x6, x7, x8, x9, x10, x11, x12, x13, x14]
def mineB (c : UInt8) : Bool := !(c == 0) && mineL.any fun x => Nat.beq x.toNat c.toNat
theorem mine_any (x0 x1 x3 x4 x5 x6 x7 x8 x9 x10 x11 x12 x13 x14 : Value) (c : UInt8) (w : World) :
    Calls Tryz.prog 7 #[.agg (cmdA x0 x1 c x3 x4 x5 x6 x7 x8 x9 x10 x11 x12 x13 x14)] w fun e w' => e = .returned (.bool (mineB c)) ∧ Below w.heap.size w w' := by
  unfold cmdA
  obtain ⟨w1, hw1⟩ : ∃ w1, w.alloc (.cells #[x0, x1, .int .u8 (c.toNat : Int), x3, x4, x5, x6, x7, x8, x9, x10, x11, x12, x13, x14] 29) = w1 := ⟨_, rfl⟩
  have hx := heap_alloc_new w (.cells #[x0, x1, .int .u8 (c.toNat : Int), x3, x4, x5, x6, x7, x8, x9, x10, x11, x12, x13, x14] 29)
  have hb := (Below.refl w.heap.size w).alloc (Nat.le_refl _) (.cells #[x0, x1, .int .u8 (c.toNat : Int), x3, x4, x5, x6, x7, x8, x9, x10, x11, x12, x13, x14] 29)
  rw [hw1] at hx hb
  have c2 := Lib.cell_of_heap hx 2
  simp at c2
  have HB := Lib.hid hb
  have HI := Lib.hid (Tryz.strings_IndexByte ⟨mineL.toArray⟩ (c.toNat : Int) w1)
  have HM := Lib.hid (mine_index c)
  have hc := c.toNat_lt
  have e1 : ((c.toNat : Int).toNat).toUInt8 = c := by simp
  rw [e1, show (⟨mineL.toArray⟩ : ByteArray).data.toList = mineL from rfl] at HI
  have HMB : Hid (mineB c = (!(c == 0) && mineL.any fun x => Nat.beq x.toNat c.toNat)) := Lib.hid rfl
  clear hx hb e1
  by_cases h0 : c = 0
  · subst h0
    have hz : ((0 : UInt8).toNat : Int) = 0 := rfl
    rw [hz] at c2 hw1
    go_enter Tryz.func7, Tryz.ntmps7
    go_wp2_with fail
    go_returns
    exact ⟨by rw [HMB.out]; rfl, HB.out⟩
  · have hn : ¬ c.toNat = 0 := fun e => h0 (UInt8.toNat_inj.1 (by simpa using e))
    have hnb : ((c.toNat : Int) == 0) = false := by rw [beq_eq_false_iff_ne]; omega
    have hcb : (c == 0) = false := by simpa using h0
    rw [hcb] at HMB
    generalize (mineL.any fun x => Nat.beq x.toNat c.toNat) = r at *
    generalize Lib.indexByte mineL c = i at *
    unfold mineL at HI
    have hi : decide (0 ≤ i) = r := HM.out
    clear hcb
    go_enter Tryz.func7, Tryz.ntmps7
    go_wp2_with fail
    refine HI.out.mono ?_
    rintro e w2 ⟨rfl, rfl⟩
    clear HI
    go_wp2_with fail
    go_returns
    exact ⟨by rw [HMB.out]; simp [hi, hn], HB.out⟩
theorem refMine_any (x0 x1 x3 x4 x5 x6 x7 x8 x9 x10 x11 x12 x13 x14 : Value) (c : UInt8) (w : World) (hw : 6 ≤ w.heap.size) :
    Calls Tryz.prog 8 #[.agg (cmdA x0 x1 c x3 x4 x5 x6 x7 x8 x9 x10 x11 x12 x13 x14)] w fun e w' => e = .returned (.bool (mineB c)) ∧ Below w.heap.size w w' := by
  unfold cmdA
  obtain ⟨w1, hw1⟩ : ∃ w1, w.alloc (.cells #[x0, x1, .int .u8 (c.toNat : Int), x3, x4, x5, x6, x7, x8, x9, x10, x11, x12, x13, x14] 29) = w1 := ⟨_, rfl⟩
  have hx := heap_alloc_new w (.cells #[x0, x1, .int .u8 (c.toNat : Int), x3, x4, x5, x6, x7, x8, x9, x10, x11, x12, x13, x14] 29)
  have hb := (Below.refl w.heap.size w).alloc (Nat.le_refl _) (.cells #[x0, x1, .int .u8 (c.toNat : Int), x3, x4, x5, x6, x7, x8, x9, x10, x11, x12, x13, x14] 29)
  rw [hw1] at hx hb
  have c2 := Lib.cell_of_heap hx 2
  simp at c2
  have HB := Lib.hid hb
  have HI := Lib.hid (in_any c (w := w1) (Nat.le_trans hw hb.size))
  have hc := c.toNat_lt
  have HMB : Hid (mineB c = (!(c == 0) && mineL.any fun x => Nat.beq x.toNat c.toNat)) := Lib.hid rfl
  clear hx hb hw
  by_cases h0 : c = 0
  · subst h0
    have hz : ((0 : UInt8).toNat : Int) = 0 := rfl
    rw [hz] at c2 hw1
    go_enter Tryz.func8, Tryz.ntmps8
    go_wp2_with fail
    go_returns
    exact ⟨by rw [HMB.out]; rfl, HB.out⟩
  · have hn : ¬ c.toNat = 0 := fun e => h0 (UInt8.toNat_inj.1 (by simpa using e))
    have hnb : ((c.toNat : Int) == 0) = false := by rw [beq_eq_false_iff_ne]; omega
    have hcb : (c == 0) = false := by simpa using h0
    rw [hcb] at HMB
    generalize (mineL.any fun x => Nat.beq x.toNat c.toNat) = r at *
    unfold mineL at HI
    clear hcb
    go_enter Tryz.func8, Tryz.ntmps8
    go_wp2_with fail
    refine HI.out.mono ?_
    rintro e w2 ⟨rfl, hb2⟩
    have HB2 := Lib.hid (HB.out.trans (hb2.mono HB.out.size))
    clear HI hb2
    go_wp2_with fail
    go_returns
    exact ⟨by rw [HMB.out]; simp [hn], HB2.out⟩
set_option maxRecDepth 100000 in
set_option maxHeartbeats 2000000 in
theorem diskNames_any (s : List UInt8) (x0 x1 x3 x4 x5 x6 x7 x8 x9 x10 x11 x12 x13 x14 : Value) (c : UInt8) (w : World) (hs : s.length ≤ 140737488355328) (hw : 6 ≤ w.heap.size) :
    Calls Tryz.prog 3 #[.string ⟨s.toArray⟩, .agg (cmdA x0 x1 c x3 x4 x5 x6 x7 x8 x9 x10 x11 x12 x13 x14)] w fun e w' => e = .returned (.bool true) ∧ Below w.heap.size w w' := by
  have HSZ := size_mk s
  have HC := Lib.hid (rfl : cmdA x0 x1 c x3 x4 x5 x6 x7 x8 x9 x10 x11 x12 x13 x14 = _)
  unfold cmdA at HC
  obtain ⟨w1, hw1⟩ : ∃ w1, w.alloc (.cells (cmdA x0 x1 c x3 x4 x5 x6 x7 x8 x9 x10 x11 x12 x13 x14) 29) = w1 := ⟨_, rfl⟩
  have hx := heap_alloc_new w (.cells (cmdA x0 x1 c x3 x4 x5 x6 x7 x8 x9 x10 x11 x12 x13 x14) 29)
  have hb := (Below.refl w.heap.size w).alloc (Nat.le_refl _) (.cells (cmdA x0 x1 c x3 x4 x5 x6 x7 x8 x9 x10 x11 x12 x13 x14) 29)
  rw [hw1] at hx hb
  have HX := Lib.hid hx
  have HB := Lib.hid hb
  have HW := Lib.hid (Nat.le_trans hw hb.size)
  have HCC : Hid (∀ j, w1.cell? ⟨w.heap.size, j, none⟩ = (cmdA x0 x1 c x3 x4 x5 x6 x7 x8 x9 x10 x11 x12 x13 x14)[j]?) := Lib.hid (fun j => Lib.cell_of_heap hx j)
  clear hx hb hw
  by_cases h100 : 100 < s.length
  · have h100i : (100 : Int) < (s.length : Int) := by omega
    go_enter Tryz.func3, Tryz.ntmps3
    go_wp2_with fail
    refine (lives_any HW.out).mono ?_
    rintro e w2 ⟨rfl, hb2⟩
    have HB2 := Lib.hid (HB.out.trans (hb2.mono HB.out.size))
    clear hb2
    go_wp2_with fail
    go_returns
    exact ⟨rfl, HB2.out⟩
  · have h100i : ¬ (100 : Int) < (s.length : Int) := by omega
    have hs1 : s.length ≤ 100 := by omega
    go_enter Tryz.func3, Tryz.ntmps3
    go_upto_region 3 with fail
    have X := HCC.out
    have X0 := fun d os => cell_regrown (show w1.cell? ⟨w.heap.size, 0, none⟩ = some (x0) from X 0) d os
    have X1 := fun d os => cell_regrown (show w1.cell? ⟨w.heap.size, 1, none⟩ = some (x1) from X 1) d os
    have X2 := fun d os => cell_regrown (show w1.cell? ⟨w.heap.size, 2, none⟩ = some (.int .u8 (c.toNat : Int)) from X 2) d os
    have X3 := fun d os => cell_regrown (show w1.cell? ⟨w.heap.size, 3, none⟩ = some (x3) from X 3) d os
    have X4 := fun d os => cell_regrown (show w1.cell? ⟨w.heap.size, 4, none⟩ = some (x4) from X 4) d os
    have X5 := fun d os => cell_regrown (show w1.cell? ⟨w.heap.size, 5, none⟩ = some (x5) from X 5) d os
    have X6 := fun d os => cell_regrown (show w1.cell? ⟨w.heap.size, 6, none⟩ = some (x6) from X 6) d os
    have X7 := fun d os => cell_regrown (show w1.cell? ⟨w.heap.size, 7, none⟩ = some (x7) from X 7) d os
    have X8 := fun d os => cell_regrown (show w1.cell? ⟨w.heap.size, 8, none⟩ = some (x8) from X 8) d os
    have X9 := fun d os => cell_regrown (show w1.cell? ⟨w.heap.size, 9, none⟩ = some (x9) from X 9) d os
    have X10 := fun d os => cell_regrown (show w1.cell? ⟨w.heap.size, 10, none⟩ = some (x10) from X 10) d os
    have X11 := fun d os => cell_regrown (show w1.cell? ⟨w.heap.size, 11, none⟩ = some (x11) from X 11) d os
    have X12 := fun d os => cell_regrown (show w1.cell? ⟨w.heap.size, 12, none⟩ = some (x12) from X 12) d os
    have X13 := fun d os => cell_regrown (show w1.cell? ⟨w.heap.size, 13, none⟩ = some (x13) from X 13) d os
    have X14 := fun d os => cell_regrown (show w1.cell? ⟨w.heap.size, 14, none⟩ = some (x14) from X 14) d os
    clear X
    have HN1 := Lib.hid (fun W => (name_any s W hs1).mono fun e w' ⟨h1, h2⟩ => (⟨h1, h2 ▸ Below.refl _ _⟩ : e = Ending.returned (.bool (nameB s)) ∧ Below W.heap.size W w'))
    have HN2 := Lib.hid (fun W => (refName_any s W hs1).mono fun e w' ⟨h1, h2⟩ => (⟨h1, h2 ▸ Below.refl _ _⟩ : e = Ending.returned (.bool (nameB s)) ∧ Below W.heap.size W w'))
    have HM1 := Lib.hid (fun W => mine_any x0 x1 x3 x4 x5 x6 x7 x8 x9 x10 x11 x12 x13 x14 c W)
    have HM2 := Lib.hid (fun d os => refMine_any x0 x1 x3 x4 x5 x6 x7 x8 x9 x10 x11 x12 x13 x14 c (grow (redrawn w1 d) os) (Nat.le_trans HW.out (below_regrown _ d os).size))
    have HLV := Lib.hid (fun d os => lives_any (w := grow (redrawn w1 d) os) (Nat.le_trans HW.out (below_regrown _ d os).size))
    unfold cmdA at HM1 HM2
    generalize nameB s = nb at *
    generalize mineB c = mb at *
    have hnn : (nb == nb) = true := beq_self_eq_true nb
    have hmm : (mb == mb) = true := beq_self_eq_true mb
    refine wp_region_quiet_below (by kernel_rfl) (by kernel_rfl) ?_
    repeat (quiet_step (first | (with_reducible exact Calls.regrown_of (HN1.out _)) | (with_reducible exact Calls.regrown_of (HN2.out _)) | (with_reducible exact Calls.regrown_of (HM1.out _)) | (with_reducible exact Calls.regrown_of (HM2.out _ _)) | (with_reducible exact Calls.regrown_of (HLV.out _ _))))
    refine wpQuiet_nil ?_
    intro _ hw'
    obtain ⟨⟨dq1, osq1⟩, hw''⟩ := hw'
    subst hw''
    have HBF := Lib.hid (HB.out.trans ((below_regrown w1 dq1 osq1).mono HB.out.size))
    clear X0 X1 X2 X3 X4 X5 X6 X7 X8 X9 X10 X11 X12 X13 X14 HM1 HM2 HN1 HN2 HLV HCC HX HB
    generalize grow (redrawn w1 dq1) osq1 = w3 at *
    go_wp2_with fail
    go_returns
    exact ⟨rfl, HBF.out⟩
end Go.Proofs.YthcdhfgoaaiciaaGreatDoor
