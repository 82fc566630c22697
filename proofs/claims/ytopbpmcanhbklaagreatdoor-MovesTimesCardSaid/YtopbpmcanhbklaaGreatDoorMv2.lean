/- The walks of moves: kind, line, empty, at, on, back. -/
import Derived.Test.YtopbpmcanhbklaaGreatDoorMv1
import Derived.Test.YtopbpmcanhbklaaGreatDoorBase
import Derived.Test.YtopbpmcanhbklaaGreatDoorProg
import Derived.Deep.QuietTactic
import Derived.BigQuiet
import Derived.BigRegion
import Derived.WalkSmall
import Derived.Lib.QuietBelow
import Derived.Laws.Rows
set_option linter.unusedVariables false
set_option linter.unusedSimpArgs false
namespace Go.Proofs.YtopbpmcanhbklaaGreatDoor
open Go Go.Proofs Go.RowKit Go.Ink Go.Sort

theorem byte_eqI (c k : UInt8) : (((c.toNat : Int) == (k.toNat : Int)) = true ↔ c = k) := by
  rw [beq_iff_eq]
  constructor
  · intro h; exact UInt8.toNat_inj.1 (by omega)
  · rintro rfl; rfl
theorem blank_any (c : UInt8) (w : World) :
    Calls Tryz.prog 30 #[.int .u8 (c.toNat : Int)] w fun e w' => e = .returned (.bool (decide (c = 32 ∨ c = 9))) ∧ w' = w := by
  have h1 : (c = 32 ∨ c = 9) ↔ ((c.toNat : Int) == 32 || (c.toNat : Int) == 9) = true := by
    rw [Bool.or_eq_true]; exact (or_congr (byte_eqI c 32) (byte_eqI c 9)).symm
  have H1 := Lib.hid (show decide (c = 32 ∨ c = 9) = ((c.toNat : Int) == 32 || (c.toNat : Int) == 9) from by rw [Bool.eq_iff_iff]; simpa using h1)
  rw [H1.out]
  clear h1
  cases h32 : ((c.toNat : Int) == 32)
  · cases h9 : ((c.toNat : Int) == 9)
    · go_enter Tryz.func30, Tryz.ntmps30
      go_wp2_with fail
      go_returns
      exact ⟨rfl, rfl⟩
    · go_enter Tryz.func30, Tryz.ntmps30
      go_wp2_with fail
      go_returns
      exact ⟨rfl, rfl⟩
  · go_enter Tryz.func30, Tryz.ntmps30
    go_wp2_with fail
    go_returns
    exact ⟨rfl, rfl⟩
/-- What kind asks behind the blanks. -/
def kind1 (c : UInt8) (big : Bool) : Bool := big || decide (c = 95) || (decide (48 ≤ c) && decide (c ≤ 57)) || (decide (97 ≤ c) && decide (c ≤ 122)) || (decide (65 ≤ c) && decide (c ≤ 90))
theorem kindB_eq (c : UInt8) (big : Bool) : kindB c big = if c = 32 ∨ c = 9 then 0 else if kind1 c big = true then 1 else 2 := by
  unfold kindB kind1
  by_cases h : c = 32 ∨ c = 9
  · rw [if_pos h, if_pos h]
  · rw [if_neg h, if_neg h]
    congr 1
    simp only [Bool.or_eq_true, Bool.and_eq_true, decide_eq_true_eq, or_assoc]
set_option maxRecDepth 100000 in
set_option maxHeartbeats 1000000 in
theorem kind_any (c : UInt8) (big : Bool) (w : World) :
    Calls Tryz.prog 35 #[.int .u8 (c.toNat : Int), .bool big] w fun e w' => e = .returned (.int .i64 (kindB c big : Int)) ∧ w' = w := by
  have HK := Lib.hid (kindB_eq c big)
  by_cases hb : c = 32 ∨ c = 9
  · have hd : decide (c = 32 ∨ c = 9) = true := decide_eq_true hb
    have HR := Lib.hid (show kindB c big = 0 by rw [HK.out, if_pos hb])
    go_enter Tryz.func35, Tryz.ntmps35
    go_wp2_with fail
    refine (blank_any c _).mono ?_
    rintro e w1 ⟨rfl, hw⟩
    subst hw
    rw [hd]
    go_wp2_with fail
    go_returns
    exact ⟨by rw [HR.out]; rfl, rfl⟩
  · have hd : decide (c = 32 ∨ c = 9) = false := decide_eq_false hb
    have HD := Lib.hid hd
    have e95 : decide (c = 95) = ((c.toNat : Int) == 95) := by rw [Bool.eq_iff_iff, decide_eq_true_eq]; exact (byte_eqI c 95).symm
    have le : ∀ a : UInt8, decide (a ≤ c) = decide ((a.toNat : Int) ≤ (c.toNat : Int)) := fun a => by rw [decide_eq_decide, UInt8.le_iff_toNat_le]; omega
    have ge : ∀ a : UInt8, decide (c ≤ a) = decide ((c.toNat : Int) ≤ (a.toNat : Int)) := fun a => by rw [decide_eq_decide, UInt8.le_iff_toNat_le]; omega
    have hk1 : kind1 c big = (big || ((c.toNat : Int) == 95) || (decide ((48 : Int) ≤ (c.toNat : Int)) && decide ((c.toNat : Int) ≤ 57)) || (decide ((97 : Int) ≤ (c.toNat : Int)) && decide ((c.toNat : Int) ≤ 122)) || (decide ((65 : Int) ≤ (c.toNat : Int)) && decide ((c.toNat : Int) ≤ 90))) := by
      unfold kind1
      rw [e95, le 48, ge 57, le 97, ge 122, le 65, ge 90]; rfl
    have HR := Lib.hid (show kindB c big = if kind1 c big = true then 1 else 2 by rw [HK.out, if_neg hb])
    have HK1 := Lib.hid hk1
    clear hb hd e95 le ge hk1 HK
    generalize kindB c big = r at *
    generalize kind1 c big = q at *
    generalize hx95 : ((c.toNat : Int) == 95) = x95 at *
    generalize hx48 : decide ((48 : Int) ≤ (c.toNat : Int)) = x48 at *
    generalize hx57 : decide ((c.toNat : Int) ≤ 57) = x57 at *
    generalize hx97 : decide ((97 : Int) ≤ (c.toNat : Int)) = x97 at *
    generalize hx122 : decide ((c.toNat : Int) ≤ 122) = x122 at *
    generalize hx65 : decide ((65 : Int) ≤ (c.toNat : Int)) = x65 at *
    generalize hx90 : decide ((c.toNat : Int) ≤ 90) = x90 at *
    go_enter Tryz.func35, Tryz.ntmps35
    go_wp2_with fail
    refine (blank_any c _).mono ?_
    rintro e w1 ⟨rfl, hw⟩
    subst hw
    rw [HD.out]
    go_wp2_with fail
    all_goals
      go_returns
      refine ⟨?_, rfl⟩
      have hq := HK1.out
      have hr := HR.out
      simp_all
/-- A place's value. -/
def plV (i c : Nat) : Value := .agg #[.int .i64 ((i : Int) + 1), .int .i64 (c : Int)]
/-- A motion that is being done: its lines. -/
structure MvAt (w : World) (m : Nat) (ls : List (List UInt8)) (ao : Option Addr) (cap : Nat) : Prop where
  c0 : w.cell? ⟨m, 0, none⟩ = some (.slice ao ls.length cap)
  sl : SlOf IsStr w ao cap ls
  short : ∀ i, (lnL ls i).length ≤ 1000000
  few : ls.length ≤ 1000000
theorem MvAt.later {w w' : World} {m : Nat} {ls : List (List UInt8)} {ao : Option Addr} {cap : Nat} (h : MvAt w m ls ao cap) (hb : Below w.heap.size w w') : MvAt w' m ls ao cap :=
  ⟨(hb.cell (p := ⟨m, 0, none⟩) (lt_of_cell h.c0)).trans h.c0, h.sl.later lasts_str hb, h.short, h.few⟩
theorem MvAt.str {w : World} {m : Nat} {ls : List (List UInt8)} {ao : Option Addr} {cap : Nat} (h : MvAt w m ls ao cap) {i : Nat} (hi : i < ls.length) : ∃ b off, ao = some ⟨b, off, none⟩ ∧ w.cell? ⟨b, off + i, none⟩ = some (.string ⟨(lnL ls i).toArray⟩) := by
  have e : ls[i]? = some (lnL ls i) := by unfold lnL; rw [List.getD_eq_getElem?_getD, List.getElem?_eq_getElem hi]; rfl
  obtain ⟨b, off, u, ha, hc, hu⟩ := h.sl.2.2.2 i _ e
  exact ⟨b, off, ha, by rw [hc]; exact congrArg some hu⟩
theorem MvAt.len {w : World} {m : Nat} {ls : List (List UInt8)} {ao : Option Addr} {cap : Nat} (h : MvAt w m ls ao cap) : ls.length ≤ 9223372036854775807 := Nat.le_trans h.sl.1 h.sl.2.1
set_option maxRecDepth 100000 in
set_option maxHeartbeats 1000000 in
theorem line_any {w : World} {m : Nat} {ls : List (List UInt8)} {ao : Option Addr} {cap : Nat} (h : MvAt w m ls ao cap) (i : Nat) (c : Int) (hi : i < ls.length) :
    Calls Tryz.prog 17 #[.pointer (some ⟨m, 0, none⟩), .agg #[.int .i64 ((i : Int) + 1), .int .i64 c]] w fun e w' => e = .returned (.string ⟨(lnL ls i).toArray⟩) ∧ Below w.heap.size w w' := by
  have hlen := h.len
  have hal := (Below.refl w.heap.size w).alloc (Nat.le_refl _) (.cells #[.int .i64 ((i : Int) + 1), .int .i64 c] 24)
  have h1 := h.later hal
  obtain ⟨b, off, rfl, hc⟩ := h1.str hi
  have c0 := h1.c0
  have HB := Lib.hid hal
  have hii : (i : Int) < (ls.length : Int) := by omega
  have hml := lt_of_cell h.c0
  clear h h1 hal
  go_enter Tryz.func17, Tryz.ntmps17
  go_wp2_with fail
  go_region
  go_wp2_with fail
  go_returns
  exact ⟨rfl, HB.out.drew⟩
theorem kind_below (c : UInt8) (big : Bool) (w : World) : Calls Tryz.prog 35 #[.int .u8 (c.toNat : Int), .bool big] w fun e w' => e = .returned (.int .i64 (kindB c big : Int)) ∧ Below w.heap.size w w' :=
  (kind_any c big w).mono fun _ _ h => ⟨h.1, h.2 ▸ Below.refl _ _⟩
set_option maxRecDepth 100000 in
set_option maxHeartbeats 1000000 in
theorem empty_any {w : World} {m : Nat} {ls : List (List UInt8)} {ao : Option Addr} {cap : Nat} (h : MvAt w m ls ao cap) (i : Nat) (c : Int) (hi : i < ls.length) :
    Calls Tryz.prog 34 #[.pointer (some ⟨m, 0, none⟩), .agg #[.int .i64 ((i : Int) + 1), .int .i64 c]] w fun e w' => e = .returned (.bool (lnL ls i).isEmpty) ∧ Below w.heap.size w w' := by
  have hal := (Below.refl w.heap.size w).alloc (Nat.le_refl _) (.cells #[.int .i64 ((i : Int) + 1), .int .i64 c] 24)
  have HL := Lib.hid (line_any (h.later hal) i c hi)
  have HB := Lib.hid hal
  clear h hal
  go_enter Tryz.func34, Tryz.ntmps34
  go_wp2_with fail
  refine HL.out.mono ?_
  rintro e w1 ⟨rfl, hb⟩
  have HB1 := Lib.hid (HB.out.trans (hb.mono HB.out.size))
  clear hb HL
  go_wp2_with fail
  go_returns
  exact ⟨rfl, HB1.out⟩
set_option maxRecDepth 100000 in
set_option maxHeartbeats 1000000 in
theorem at_any {w : World} {m : Nat} {ls : List (List UInt8)} {ao : Option Addr} {cap : Nat} (h : MvAt w m ls ao cap) (p : Pl) (hp : Okp ls p) (big : Bool) :
    Calls Tryz.prog 33 #[.pointer (some ⟨m, 0, none⟩), plV p.1 p.2, .bool big] w fun e w' => e = .returned (.int .i64 (atK ls big p : Int)) ∧ Below w.heap.size w w' := by
  obtain ⟨i, c⟩ := p
  obtain ⟨hi, hc⟩ := hp
  simp only at hi hc
  unfold plV
  simp only
  have hal := (Below.refl w.heap.size w).alloc (Nat.le_refl _) (.cells #[.int .i64 ((i : Int) + 1), .int .i64 (c : Int)] 24)
  obtain ⟨w1, hw1⟩ : ∃ w1, w.alloc (.cells #[.int .i64 ((i : Int) + 1), .int .i64 (c : Int)] 24) = w1 := ⟨_, rfl⟩
  have hx : w1.heap[w.heap.size]? = some (.cells #[.int .i64 ((i : Int) + 1), .int .i64 (c : Int)] 24 (0, 0)) := by rw [← hw1]; exact heap_alloc_new w _
  rw [hw1] at hal
  have HM := Lib.hid (h.later hal)
  have HB := Lib.hid hal
  have HX := Lib.hid hx
  have x0 := Lib.cell_of_heap hx 0
  have x1 := Lib.cell_of_heap hx 1
  simp at x0 x1
  clear h hal hx
  go_enter Tryz.func33, Tryz.ntmps33
  go_wp2_with fail
  refine (empty_any HM.out i c hi).mono ?_
  rintro e w2 ⟨rfl, hb⟩
  have HM2 := Lib.hid (HM.out.later hb)
  have HX2 := Lib.hid ((hb.block _ (lt_of_heap HX.out)).trans HX.out)
  have HB2 := Lib.hid (HB.out.trans (hb.mono HB.out.size))
  clear hb x0 x1
  by_cases he : lnL ls i = []
  · have HR := Lib.hid (show atK ls big (i, c) = 0 by unfold atK; rw [if_pos he])
    rw [List.isEmpty_iff.2 he]
    go_wp2_with fail
    go_returns
    exact ⟨by rw [HR.out]; rfl, HB2.out⟩
  · have hcl : c < (lnL ls i).length := by
      rcases hc with hc | hc
      · have : 0 < (lnL ls i).length := List.length_pos_iff.2 he
        omega
      · exact hc
    have HR := Lib.hid (show atK ls big (i, c) = kindB ((lnL ls i).getD c 0) big by unfold atK; rw [if_neg he])
    rw [show (lnL ls i).isEmpty = false from by rw [Bool.eq_false_iff]; exact fun e => he (List.isEmpty_iff.1 e)]
    obtain ⟨l, hl⟩ : ∃ l, lnL ls i = l := ⟨_, rfl⟩
    rw [hl] at hcl HR
    have hgd : l.getD c 0 = l[c]'hcl := by rw [List.getD_eq_getElem?_getD, List.getElem?_eq_getElem hcl]; rfl
    rw [hgd] at HR
    have hby : ∀ h, (⟨l.toArray⟩ : ByteArray)[c]'h = l[c]'hcl := fun h => rfl
    have HSZ := size_mk l
    have hci : (c : Int) < (l.length : Int) := by omega
    have x0 := Lib.cell_of_heap HX2.out 0
    have x1 := Lib.cell_of_heap HX2.out 1
    simp at x0 x1
    have X0 := fun d os => cell_regrown x0 d os
    have X1 := fun d os => cell_regrown x1 d os
    have HLN := Lib.hid (fun d os => by have := line_any (HM2.out.later (below_regrown w2 d os)) i c hi; rw [hl] at this; exact this)
    have HKD := Lib.hid (fun d os => kind_below (l[c]'hcl) big (grow (redrawn w2 d) os))
    clear he hl hc x0 x1 hgd
    go_wp2_with fail
    refine wp_region_quiet_below (by kernel_rfl) (by kernel_rfl) ?_
    repeat (quiet_step (first | (with_reducible exact Calls.regrown_of (HLN.out _ _)) | (with_reducible exact Calls.regrown_of (HKD.out _ _))))
    refine wpQuiet_nil ?_
    intro _ hw'
    obtain ⟨⟨dq1, osq1⟩, hw''⟩ := hw'
    subst hw''
    have HB3 := Lib.hid (HB2.out.trans ((below_regrown w2 dq1 osq1).mono HB2.out.size))
    go_wp2_with fail
    go_returns
    exact ⟨by rw [HR.out]; rfl, HB3.out⟩
theorem two_cells {w : World} {b : Nat} {u0 u1 : Value} {T : TypeId} (h : w.heap[b]? = some (.cells #[u0, u1] T (0, 0))) (v0 v1 : Value) :
    ((w.setCell ⟨b, 0, none⟩ v0).setCell ⟨b, 1, none⟩ v1).cell? ⟨b, 0, none⟩ = some v0 ∧ ((w.setCell ⟨b, 0, none⟩ v0).setCell ⟨b, 1, none⟩ v1).cell? ⟨b, 1, none⟩ = some v1 := by
  have h1 := heap_set (j := 1) (heap_set (j := 0) h v0) v1
  have hc := Lib.cell_of_heap h1
  exact ⟨by rw [hc]; rfl, by rw [hc]; rfl⟩
/-- What a place's motion leaves in memory. -/
structure TwoBox (w wq : World) (i c : Nat) : Prop where
  x : wq.heap[w.heap.size]? = some (.cells #[.int .i64 ((i : Int) + 1), .int .i64 (c : Int)] 24 (0, 0))
  y : wq.heap[w.heap.size + 1]? = some (.cells #[.int .i64 0, .int .i64 0] 24 (0, 0))
  b : Below w.heap.size w wq
theorem TwoBox.later {w wq w' : World} {i c : Nat} (h : TwoBox w wq i c) (hb : Below wq.heap.size wq w') : TwoBox w w' i c :=
  ⟨(hb.block _ (lt_of_heap h.x)).trans h.x, (hb.block _ (lt_of_heap h.y)).trans h.y, h.b.trans (hb.mono h.b.size)⟩
theorem TwoBox.drewN {w wq : World} {i c : Nat} (h : TwoBox w wq i c) (n : Nat) : TwoBox w (wq.drewN n) i c := h.later (below_drewN (Below.refl _ _) n)
/-- The result's cells are laid. -/
theorem fin_two {w V : World} {u0 u1 : Value} (hy : V.heap[w.heap.size + 1]? = some (.cells #[u0, u1] 24 (0, 0))) (hb : Below w.heap.size w V) (a b : Value) :
    ((V.setCell ⟨w.heap.size + 1, 0, none⟩ a).setCell ⟨w.heap.size + 1, 1, none⟩ b).cell? ⟨w.heap.size + 1, 0, none⟩ = some a ∧ ((V.setCell ⟨w.heap.size + 1, 0, none⟩ a).setCell ⟨w.heap.size + 1, 1, none⟩ b).cell? ⟨w.heap.size + 1, 1, none⟩ = some b ∧
    Below w.heap.size w ((V.setCell ⟨w.heap.size + 1, 0, none⟩ a).setCell ⟨w.heap.size + 1, 1, none⟩ b) := by
  obtain ⟨h0, h1⟩ := two_cells hy a b
  exact ⟨h0, h1, (hb.setCell (p := ⟨w.heap.size + 1, 0, none⟩) (by show w.heap.size ≤ w.heap.size + 1; omega) _).setCell (p := ⟨w.heap.size + 1, 1, none⟩) (by show w.heap.size ≤ w.heap.size + 1; omega) _⟩
theorem TwoBox.x1 {w wq : World} {i c : Nat} (h : TwoBox w wq i c) (v : Value) : (wq.setCell ⟨w.heap.size, 1, none⟩ v).heap[w.heap.size + 1]? = some (.cells #[.int .i64 0, .int .i64 0] 24 (0, 0)) ∧ Below w.heap.size w (wq.setCell ⟨w.heap.size, 1, none⟩ v) :=
  ⟨(Below.heap_setCell _ _ _ _ (fun e => by have e' : w.heap.size + 1 = w.heap.size := e; omega)).trans h.y, h.b.setCell (p := ⟨w.heap.size, 1, none⟩) (Nat.le_refl _) _⟩
theorem TwoBox.x01 {w wq : World} {i c : Nat} (h : TwoBox w wq i c) (u v : Value) : ((wq.setCell ⟨w.heap.size, 0, none⟩ u).setCell ⟨w.heap.size, 1, none⟩ v).heap[w.heap.size + 1]? = some (.cells #[.int .i64 0, .int .i64 0] 24 (0, 0)) ∧ Below w.heap.size w ((wq.setCell ⟨w.heap.size, 0, none⟩ u).setCell ⟨w.heap.size, 1, none⟩ v) :=
  ⟨(Below.heap_setCell _ _ _ _ (fun e => by have e' : w.heap.size + 1 = w.heap.size := e; omega)).trans ((Below.heap_setCell _ _ _ _ (fun e => by have e' : w.heap.size + 1 = w.heap.size := e; omega)).trans h.y), (h.b.setCell (p := ⟨w.heap.size, 0, none⟩) (Nat.le_refl _) _).setCell (p := ⟨w.heap.size, 1, none⟩) (Nat.le_refl _) _⟩
theorem two_new (w : World) (i c : Nat) : TwoBox w ((w.alloc (.cells #[.int .i64 ((i : Int) + 1), .int .i64 (c : Int)] 24)).alloc (.cells #[.int .i64 0, .int .i64 0] 24)) i c := by
  refine ⟨?_, ?_, ((Below.refl _ _).alloc (Nat.le_refl _) _).alloc (by simp) _⟩
  · show ((w.heap.push _).push _)[w.heap.size]? = _
    rw [Array.getElem?_push, if_neg (by simp), Array.getElem?_push, if_pos rfl]
  · show ((w.heap.push _).push _)[w.heap.size + 1]? = _
    rw [Array.getElem?_push, if_pos (by simp)]
set_option maxRecDepth 100000 in
set_option maxHeartbeats 1000000 in
theorem on_any {w : World} {m : Nat} {ls : List (List UInt8)} {ao : Option Addr} {cap : Nat} (h : MvAt w m ls ao cap) (p : Pl) (hp : Okp ls p) :
    Calls Tryz.prog 36 #[.pointer (some ⟨m, 0, none⟩), plV p.1 p.2] w fun e w' => e = .returned (.tuple #[plV (onP ls p).1.1 (onP ls p).1.2, .bool (onP ls p).2]) ∧ Below w.heap.size w w' := by
  obtain ⟨i, c⟩ := p
  obtain ⟨hi, hc⟩ := hp
  simp only at hi hc
  unfold plV
  simp only
  obtain ⟨w2, hw2⟩ : ∃ w2, (w.alloc (.cells #[.int .i64 ((i : Int) + 1), .int .i64 (c : Int)] 24)).alloc (.cells #[.int .i64 0, .int .i64 0] 24) = w2 := ⟨_, rfl⟩
  have ht := two_new w i c
  rw [hw2] at ht
  have HT := Lib.hid ht
  have HM := Lib.hid (h.later ht.b)
  have x0 := Lib.cell_of_heap ht.x 0
  have x1 := Lib.cell_of_heap ht.x 1
  simp at x0 x1
  have hlen := h.len
  have X0 := fun d os => cell_regrown x0 d os
  have X1 := fun d os => cell_regrown x1 d os
  obtain ⟨l, hl⟩ : ∃ l, lnL ls i = l := ⟨_, rfl⟩
  have HLN := Lib.hid (fun d os => by have := line_any (HM.out.later (below_regrown w2 d os)) i c hi; rw [hl] at this; exact this)
  have HSZ := size_mk l
  have hcl : c ≤ l.length := by rw [hl] at hc; omega
  have hll := h.short i
  rw [hl] at hll
  have hfew := h.few
  have hwc : IntKind.i64.wrap ((c : Int) + 1) = (c : Int) + 1 := IntWalk.i64_in _ (by omega)
  have HWC := Lib.hid hwc
  clear hwc
  have HON := Lib.hid (show onP ls (i, c) = if c + 1 < l.length then ((i, c + 1), true) else if i + 1 < ls.length then ((i + 1, 0), true) else ((i, c), false) from by unfold onP; rw [hl])
  clear h ht x0 x1 hl hc
  go_enter Tryz.func36, Tryz.ntmps36
  go_wp2_with fail
  refine wp_region_quiet_below (by kernel_rfl) (by kernel_rfl) ?_
  repeat (quiet_step (with_reducible exact Calls.regrown_of (HLN.out _ _)))
  refine wpQuiet_nil ?_
  intro _ hw'
  obtain ⟨⟨dq1, osq1⟩, hw''⟩ := hw'
  subst hw''
  have HT3 := Lib.hid (HT.out.later (below_regrown w2 dq1 osq1))
  have HM3 := Lib.hid (HM.out.later (below_regrown w2 dq1 osq1))
  generalize grow (redrawn w2 dq1) osq1 = w3 at *
  clear X0 X1 HLN hw2 HT HM
  rw [HWC.out]
  have y0 := Lib.cell_of_heap HT3.out.y 0
  have y1 := Lib.cell_of_heap HT3.out.y 1
  have g0 := Lib.frozen_of_heap HT3.out.y 0
  have g1 := Lib.frozen_of_heap HT3.out.y 1
  have x0 := Lib.cell_of_heap HT3.out.x 0
  have x1 := Lib.cell_of_heap HT3.out.x 1
  have f0 := Lib.frozen_of_heap HT3.out.x 0
  have f1 := Lib.frozen_of_heap HT3.out.x 1
  have m0 := HM3.out.c0
  simp at x0 x1 y0 y1
  by_cases h1 : c + 1 < l.length
  · have HR := Lib.hid (show onP ls (i, c) = ((i, c + 1), true) by rw [HON.out, if_pos h1])
    have h1i : (c : Int) + 1 < (l.length : Int) := by omega
    go_wp2_with fail
    obtain ⟨t0, t1, hb⟩ := fin_two (HT3.out.x1 (.int .i64 ((c : Int) + 1))).1 (HT3.out.x1 (.int .i64 ((c : Int) + 1))).2 (.int .i64 ((i : Int) + 1)) (.int .i64 ((c : Int) + 1))
    refine bodyPost_ret (v := .tuple #[plV (onP ls (i, c)).1.1 (onP ls (i, c)).1.2, .bool (onP ls (i, c)).2]) ?_ rfl ?_
    · rw [HR.out]; unfold plV
      simp [results, Tryz.results36, go_sem, t0, t1]
    · exact ⟨rfl, hb⟩
  · have h1i : ¬ (c : Int) + 1 < (l.length : Int) := by omega
    by_cases h2 : i + 1 < ls.length
    · have HR := Lib.hid (show onP ls (i, c) = ((i + 1, 0), true) by rw [HON.out, if_neg h1, if_pos h2])
      have h2i : (i : Int) + 1 < (ls.length : Int) := by omega
      go_wp2_with fail
      go_quiet (fail)
      go_wp2_with fail
      obtain ⟨t0, t1, hb⟩ := fin_two ((HT3.out.drewN nq).x01 (.int .i64 ((i : Int) + 1 + 1)) (.int .i64 0)).1 ((HT3.out.drewN nq).x01 (.int .i64 ((i : Int) + 1 + 1)) (.int .i64 0)).2 (.int .i64 ((i : Int) + 1 + 1)) (.int .i64 0)
      refine bodyPost_ret (v := .tuple #[plV (onP ls (i, c)).1.1 (onP ls (i, c)).1.2, .bool (onP ls (i, c)).2]) ?_ rfl ?_
      · rw [HR.out]; unfold plV
        simp [results, Tryz.results36, go_sem, t0, t1]
      · exact ⟨rfl, hb⟩
    · have HR := Lib.hid (show onP ls (i, c) = ((i, c), false) by rw [HON.out, if_neg h1, if_neg h2])
      have h2i : ¬ (i : Int) + 1 < (ls.length : Int) := by omega
      go_wp2_with fail
      go_quiet (fail)
      go_wp2_with fail
      obtain ⟨t0, t1, hb⟩ := fin_two (HT3.out.drewN nq).y (HT3.out.drewN nq).b (.int .i64 ((i : Int) + 1)) (.int .i64 (c : Int))
      refine bodyPost_ret (v := .tuple #[plV (onP ls (i, c)).1.1 (onP ls (i, c)).1.2, .bool (onP ls (i, c)).2]) ?_ rfl ?_
      · rw [HR.out]; unfold plV
        simp [results, Tryz.results36, go_sem, t0, t1]
      · exact ⟨rfl, hb⟩
end Go.Proofs.YtopbpmcanhbklaaGreatDoor
