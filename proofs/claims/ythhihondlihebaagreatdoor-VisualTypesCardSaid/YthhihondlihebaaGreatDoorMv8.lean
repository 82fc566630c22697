/- The walks of moves: Fit, First. -/
import Derived.Test.YthhihondlihebaaGreatDoorMv7
import Derived.Laws.Tables
import Derived.Deep.RegionHeld3
namespace Go.Proofs.YthhihondlihebaaGreatDoor
open Go Go.Proofs Go.RowKit Go.Ink Go.Sort

/-- A place that is there, next to one. -/
def fitI (ls : List (List UInt8)) (a b : Int) : Int × Int :=
  if ls.length = 0 then (0, 0) else (min (max a 1) ls.length, min (max b 0) (max (((lnL ls ((min (max a 1) (ls.length : Int)) - 1).toNat).length : Int) - 1) 0))
theorem two_blk2 {w : World} (o1 o2 : Obj) : ((w.alloc o1).alloc o2).heap[w.heap.size]? = some o1 ∧ ((w.alloc o1).alloc o2).heap[w.heap.size + 1]? = some o2 ∧ Below w.heap.size w ((w.alloc o1).alloc o2) := by
  refine ⟨?_, ?_, ((Below.refl _ _).alloc (Nat.le_refl _) _).alloc (by simp) _⟩
  · show ((w.heap.push o1).push o2)[w.heap.size]? = _
    rw [Array.getElem?_push, if_neg (by simp), Array.getElem?_push, if_pos rfl]
  · show ((w.heap.push o1).push o2)[w.heap.size + 1]? = _
    rw [Array.getElem?_push, if_pos (by simp)]
theorem str_at {w : World} {ls : List (List UInt8)} {ao : Option Addr} {cap : Nat} (h : SlOf IsStr w ao cap ls) {i : Nat} (hi : i < ls.length) : ∃ b off, ao = some ⟨b, off, none⟩ ∧ w.cell? ⟨b, off + i, none⟩ = some (.string ⟨(lnL ls i).toArray⟩) := by
  have e : ls[i]? = some (lnL ls i) := by unfold lnL; rw [List.getD_eq_getElem?_getD, List.getElem?_eq_getElem hi]; rfl
  obtain ⟨b, off, u, ha, hc, hu⟩ := h.2.2.2 i _ e
  exact ⟨b, off, ha, by rw [hc]; exact congrArg some hu⟩
theorem cell_other (w : World) {p q : Addr} (h : ¬ q.block = p.block) (v : Value) : (w.setCell p v).cell? q = w.cell? q :=
  World.cell?_of_block (Below.heap_setCell w p v q.block h)
set_option maxRecDepth 100000 in
set_option maxHeartbeats 1000000 in
theorem fit_any {w : World} {ls : List (List UInt8)} {ao : Option Addr} {cap : Nat} (h : SlOf IsStr w ao cap ls) (hsh : ∀ i, (lnL ls i).length ≤ 1000000) (a b : Int) :
    Calls Tryz.prog 75 #[.slice ao ls.length cap, .agg #[.int .i64 a, .int .i64 b]] w fun e w' => e = .returned (.agg #[.int .i64 (fitI ls a b).1, .int .i64 (fitI ls a b).2]) ∧ Below w.heap.size w w' := by
  obtain ⟨w2, hw2⟩ : ∃ w2, (w.alloc (.cells #[.int .i64 a, .int .i64 b] 49)).alloc (.cells #[.int .i64 0, .int .i64 0] 49) = w2 := ⟨_, rfl⟩
  have ht := @two_blk2 w (.cells #[.int .i64 a, .int .i64 b] 49) (.cells #[.int .i64 0, .int .i64 0] 49)
  rw [hw2] at ht
  obtain ⟨hx, hy, hb⟩ := ht
  have HX := Lib.hid hx
  have HY := Lib.hid hy
  have HB := Lib.hid hb
  have HS := Lib.hid (h.later lasts_str hb)
  have hlen : ls.length ≤ 9223372036854775807 := Nat.le_trans h.1 h.2.1
  have x0 := Lib.cell_of_heap hx 0
  have x1 := Lib.cell_of_heap hx 1
  have f0 := Lib.frozen_of_heap hx 0
  have f1 := Lib.frozen_of_heap hx 1
  have y0 := Lib.cell_of_heap hy 0
  have y1 := Lib.cell_of_heap hy 1
  have g0 := Lib.frozen_of_heap hy 0
  have g1 := Lib.frozen_of_heap hy 1
  simp at x0 x1 y0 y1
  by_cases h0 : ls.length = 0
  · have HF := Lib.hid (show fitI ls a b = (0, 0) by unfold fitI; rw [if_pos h0])
    rw [h0]
    clear h hx hy hb
    go_enter Tryz.func75, Tryz.ntmps75
    go_wp2_with fail
    obtain ⟨t0, t1, hb, t0'⟩ := fin_x HY.out (Nat.le_refl _) HB.out (.int .i64 0) (.int .i64 0)
    refine bodyPost_ret (v := .agg #[.int .i64 (fitI ls a b).1, .int .i64 (fitI ls a b).2]) ?_ rfl ?_
    · rw [HF.out]
      simp [results, Tryz.results75, go_sem, t0, t0', t1]
    · exact ⟨rfl, hb⟩
  obtain ⟨i, hi⟩ : ∃ i : Nat, min (max a 1) (ls.length : Int) = (i : Int) + 1 := ⟨(min (max a 1) (ls.length : Int) - 1).toNat, by omega⟩
  have hil : i < ls.length := by omega
  have HF := Lib.hid (show fitI ls a b = ((i : Int) + 1, min (max b 0) (max (((lnL ls i).length : Int) - 1) 0)) by
    unfold fitI
    rw [if_neg h0, hi, show ((i : Int) + 1 - 1).toNat = i by omega])
  obtain ⟨bb, off, rfl, hc0⟩ := str_at h hil
  have hc := (HB.out.cell (p := ⟨bb, off + i, none⟩) (lt_of_cell hc0)).trans hc0
  have hbl : bb < w.heap.size := lt_of_cell hc0
  have hll := hsh i
  have HSZ := size_mk (lnL ls i)
  have hn0 : ¬ (ls.length : Int) = 0 := by omega
  have hii : (i : Int) < (ls.length : Int) := by omega
  have hne : ¬ bb = w.heap.size := by omega
  have hne' : ¬ w.heap.size = bb := by omega
  have HI := Lib.hid (show (if (ls.length : Int) < (if a < 1 then 1 else a) then (ls.length : Int) else (if a < 1 then 1 else a)) = (i : Int) + 1 from by rw [← hi]; (repeat' split) <;> omega)
  clear h hx hy hb hc0 hbl hi
  generalize lnL ls i = l at *
  go_enter Tryz.func75, Tryz.ntmps75
  go_upto_region 4 with fail
  rw [HI.out]
  have hx2 := heap_set (j := 0) HX.out (.int .i64 ((i : Int) + 1))
  have HX2 := Lib.hid hx2
  have HY2 := Lib.hid ((Below.heap_setCell w2 ⟨w.heap.size, 0, none⟩ (.int .i64 ((i : Int) + 1)) (w.heap.size + 1) (fun e => by have e' : w.heap.size + 1 = w.heap.size := e; omega)).trans HY.out)
  have HB2 := Lib.hid (HB.out.setCell (p := ⟨w.heap.size, 0, none⟩) (Nat.le_refl _) (.int .i64 ((i : Int) + 1)))
  have hc2 := (cell_other w2 (p := ⟨w.heap.size, 0, none⟩) (q := ⟨bb, off + i, none⟩) hne (.int .i64 ((i : Int) + 1))).trans hc
  clear hx2 hc x0 x1 f0 f1 y0 y1 g0 g1 HX HY HB HS hw2
  generalize w2.setCell ⟨w.heap.size, 0, none⟩ (.int .i64 ((i : Int) + 1)) = w3 at *
  have x0 := Lib.cell_of_heap HX2.out 0
  have x1 := Lib.cell_of_heap HX2.out 1
  have f0 := Lib.frozen_of_heap HX2.out 0
  have f1 := Lib.frozen_of_heap HX2.out 1
  have y0 := Lib.cell_of_heap HY2.out 0
  have y1 := Lib.cell_of_heap HY2.out 1
  have g0 := Lib.frozen_of_heap HY2.out 0
  have g1 := Lib.frozen_of_heap HY2.out 1
  simp at x0 x1 y0 y1
  obtain ⟨V, hV⟩ : ∃ V, min (max b 0) (max ((l.length : Int) - 1) 0) = V := ⟨_, rfl⟩
  have HV := Lib.hid (show (if (if (l.length : Int) - 1 < 0 then 0 else (l.length : Int) - 1) < (if b < 0 then 0 else b) then (if (l.length : Int) - 1 < 0 then 0 else (l.length : Int) - 1) else (if b < 0 then 0 else b)) = V from by rw [← hV]; (repeat' split) <;> omega)
  rw [hV] at HF
  clear hV
  go_region
  go_upto_region 5 with fail
  rw [HV.out]
  have hx4 := heap_set (j := 1) HX2.out (.int .i64 V)
  have HX4 := Lib.hid hx4
  have HY4 := Lib.hid ((Below.heap_setCell w3 ⟨w.heap.size, 1, none⟩ (.int .i64 V) (w.heap.size + 1) (fun e => by have e' : w.heap.size + 1 = w.heap.size := e; omega)).trans HY2.out)
  have HB4 := Lib.hid ((HB2.out.setCell (p := ⟨w.heap.size, 1, none⟩) (Nat.le_refl _) (.int .i64 V)).drew)
  have HX5 : Hid ((w3.setCell ⟨w.heap.size, 1, none⟩ (.int .i64 V)).drew.heap[w.heap.size]? = _) := HX4
  have HY5 : Hid ((w3.setCell ⟨w.heap.size, 1, none⟩ (.int .i64 V)).drew.heap[w.heap.size + 1]? = _) := HY4
  clear hx4 hc2 x0 x1 f0 f1 y0 y1 g0 g1 HX2 HY2 HB2 HX4 HY4 HV
  generalize (w3.setCell ⟨w.heap.size, 1, none⟩ (.int .i64 V)).drew = w4 at *
  have x0 := Lib.cell_of_heap HX5.out 0
  have x1 := Lib.cell_of_heap HX5.out 1
  have y0 := Lib.cell_of_heap HY5.out 0
  have y1 := Lib.cell_of_heap HY5.out 1
  have g0 := Lib.frozen_of_heap HY5.out 0
  have g1 := Lib.frozen_of_heap HY5.out 1
  simp at x0 x1 y0 y1
  go_wp2_with fail
  all_goals
    obtain ⟨t0, t1, hb, t0'⟩ := fin_x HY5.out (Nat.le_refl _) HB4.out (.int .i64 ((i : Int) + 1)) (.int .i64 V)
    refine bodyPost_ret (v := .agg #[.int .i64 (fitI ls a b).1, .int .i64 (fitI ls a b).2]) ?_ rfl ?_
    · rw [HF.out]
      simp [results, Tryz.results75, go_sem, t0, t0', t1]
    · exact ⟨rfl, hb⟩
end Go.Proofs.YthhihondlihebaaGreatDoor
/- The walks of moves: what Move is asked; small laws. -/
namespace Go.Proofs.YthhihondlihebaaGreatDoor
open Go Go.Proofs Go.RowKit Go.Ink Go.Sort

/-- What is asked: lines, a place, a name, a count, a letter. -/
def askA (v : Value) (line col : Int) (name : Int) (count : Int) (letter : Int) : Array Value := #[v, .int .i64 line, .int .i64 col, .int .u8 name, .int .i64 count, .int .u8 letter, .int .i64 0, .int .i64 0, .int .i64 0, .int .i64 0, .int .i64 0, .int .i64 0, .int .i64 0, .int .i64 0, .int .i64 0, .int .i64 0, .int .i64 0, .int .i64 0, .int .i64 0, .int .i64 0, .int .i64 0, .int .i64 0, .int .i64 0, .int .i64 0, .int .i64 0, .int .i64 0, .int .i64 0, .int .i64 0, .int .i64 0, .int .i64 0, .int .i64 0, .int .i64 0, .string ⟨#[]⟩, .bool false, .int .u8 0, .int .u8 0]
/-- A struct that is built, its cells known. -/
theorem wpList_built {P : Program} {ops : Array Oper} {rest : List Oper} {o : Oper} {a : Act} {w : World} {Q : Exit → Act → World → Prop} (hg : o.guard = none) (t : TypeId) (parts : Array (Nat × Operand)) (ho : o.op = .build t parts) (cells : Array Value)
    (hc : P.built t (parts.map fun (i, x) => (i, a.eval x)).toList = some cells) (h : wpList P ops Q rest (a.put o.dst (.agg cells)) w) : wpList P ops Q (o :: rest) a w :=
  wpList_build hg t parts ho (by rw [hc]; rfl) (by rw [hc]; exact h)
theorem fit_ok {ls : List (List UInt8)} {p : Pl} (h : Okp ls p) : fitI ls ((p.1 : Int) + 1) (p.2 : Int) = ((p.1 : Int) + 1, (p.2 : Int)) := by
  obtain ⟨i, c⟩ := p
  obtain ⟨h1, h2⟩ := h
  simp only at h1 h2 ⊢
  unfold fitI
  rw [if_neg (by omega)]
  have e : min (max ((i : Int) + 1) 1) (ls.length : Int) = (i : Int) + 1 := by omega
  rw [e, show ((i : Int) + 1 - 1).toNat = i by omega]
  congr 1
  omega
/-- Where a motion leads, by numbers. -/
def toI (f : Int × Int) (whole incl : Bool) : Value := .agg #[.int .i64 f.1, .int .i64 f.2, .bool whole, .bool incl]
theorem below_setRow {B : Nat} {a w : World} (h : Below B a w) {g : Nat} (hg : B ≤ g) (cs : Array Value) : Below B a (w.setRow g cs) :=
  h.trans ⟨rfl, rfl, rfl, by simp, fun k hk => setRow_other w g k cs (by omega)⟩
end Go.Proofs.YthhihondlihebaaGreatDoor
/- The walks of moves: row. -/
namespace Go.Proofs.YthhihondlihebaaGreatDoor
open Go Go.Proofs Go.RowKit Go.Ink Go.Sort

set_option maxRecDepth 100000 in
set_option maxHeartbeats 1000000 in
theorem row_any {w : World} {m : Nat} {ls : List (List UInt8)} {ao : Option Addr} {cap : Nat} {p : Pl} {n : Nat} (h : MwAt w m ls ao cap p n) (c : Int) (inc : Bool) :
    Calls Tryz.prog 80 #[.pointer (some ⟨m, 0, none⟩), .int .i64 c, .bool inc] w fun e w' => e = .returned (.tuple #[toI (fitI ls ((p.1 : Int) + 1) c) false inc, .bool true]) ∧ Below w.heap.size w w' := by
  have HB := Lib.hid ((Below.refl w.heap.size w).alloc (Nat.le_refl _) (.cells #[.int .i64 0, .int .i64 0, .bool false, .bool false] 109))
  have HY := Lib.hid (heap_alloc_new w (.cells #[.int .i64 0, .int .i64 0, .bool false, .bool false] 109))
  have HM := Lib.hid (h.later HB.out)
  have hmx : m < w.heap.size := lt_of_cell h.c1
  have HF : Hid (∀ wx, Below w.heap.size w wx → Calls Tryz.prog 75 #[.slice ao ls.length cap, .agg #[.int .i64 ((p.1 : Int) + 1), .int .i64 c]] wx fun e w' => e = .returned (.agg #[.int .i64 (fitI ls ((p.1 : Int) + 1) c).1, .int .i64 (fitI ls ((p.1 : Int) + 1) c).2]) ∧ Below wx.heap.size wx w') := Lib.hid fun wx hb => fit_any (h.mv.sl.later lasts_str hb) h.mv.short ((p.1 : Int) + 1) c
  generalize fitI ls ((p.1 : Int) + 1) c = fi at *
  obtain ⟨fa, fb⟩ := fi
  unfold toI
  simp only at HF ⊢
  clear h
  go_enter Tryz.func80, Tryz.ntmps80
  go_upto_region 1 with fail
  generalize w.alloc (.cells #[.int .i64 0, .int .i64 0, .bool false, .bool false] 109) = w1 at *
  obtain ⟨y, hy⟩ : ∃ y, w.heap.size = y := ⟨_, rfl⟩
  rw [hy] at HY hmx ⊢
  have hmy : ¬ m = y := by omega
  have hym : ¬ y = m := by omega
  obtain ⟨q0, q1⟩ : w1.cell? ⟨m, 0, none⟩ = some (.slice ao ls.length cap) ∧ w1.cell? ⟨m, 1, none⟩ = some (.int .i64 ((p.1 : Int) + 1)) := ⟨HM.out.mv.c0, HM.out.c1⟩
  have tok1 : True := trivial
  go_region_held3 (fun w' => w'.cell? ⟨m, 0, none⟩ = some (.slice ao ls.length cap) ∧ w'.cell? ⟨m, 1, none⟩ = some (.int .i64 ((p.1 : Int) + 1)))
    (first | exact ⟨q0, q1⟩ | exact ⟨a0, a1⟩ | go_keep)
    (first | (have _t := tok1; go_at_call 75; refine (HF.out _ HB.out.drew).mono ?_; rintro e wa ⟨rfl, hb⟩; have a0 := (hb.cell (p := ⟨m, 0, none⟩) (lt_of_cell q0)).trans q0; have a1 := (hb.cell (p := ⟨m, 1, none⟩) (lt_of_cell q1)).trans q1; have HYA := Lib.hid ((hb.block _ (lt_of_heap HY.out)).trans HY.out); have HBA := Lib.hid (HB.out.drew.trans (hb.mono HB.out.size)); have y0 := Lib.cell_of_heap HYA.out 0; have y1 := Lib.cell_of_heap HYA.out 1; have y2 := Lib.cell_of_heap HYA.out 2; have y3 := Lib.cell_of_heap HYA.out 3; have g0 := Lib.frozen_of_heap HYA.out 0; have g1 := Lib.frozen_of_heap HYA.out 1; have g2 := Lib.frozen_of_heap HYA.out 2; have g3 := Lib.frozen_of_heap HYA.out 3; simp at y0 y1 y2 y3; clear hb _t tok1) | (fail "no arm"))
  go_wp2_with fail
  obtain ⟨t0, t1, t2, t3, hb⟩ := fin_four (w := w) HYA.out (by omega) HBA.out (.int .i64 fa) (.int .i64 fb) (.bool false) (.bool inc)
  refine bodyPost_ret (v := .tuple #[.agg #[.int .i64 fa, .int .i64 fb, .bool false, .bool inc], .bool true]) ?_ rfl ?_
  · simp [results, Tryz.results80, go_sem, t0, t1, t2, t3]
  · exact ⟨rfl, hb⟩
end Go.Proofs.YthhihondlihebaaGreatDoor
/- The walks of moves: First. -/
namespace Go.Proofs.YthhihondlihebaaGreatDoor
open Go Go.Proofs Go.RowKit Go.Ink Go.Sort

/-- The blanks at a line's head. -/
def blanks : List UInt8 → Nat
  | [] => 0
  | c :: l => if c = 32 ∨ c = 9 then blanks l + 1 else 0
def firstP (l : List UInt8) : Nat := min (blanks l) (l.length - 1)
theorem blanks_le (l : List UInt8) : blanks l ≤ l.length := by
  induction l with
  | nil => simp [blanks]
  | cons c l ih => simp only [blanks, List.length_cons]; split <;> omega
theorem blanks_at : ∀ (l : List UInt8) (k : Nat) (hk : k < l.length), k ≤ blanks l → (l[k] = 32 ∨ l[k] = 9 → k < blanks l) ∧ (¬ (l[k] = 32 ∨ l[k] = 9) → k = blanks l)
  | [], k, hk, _ => by simp at hk
  | c :: l, 0, _, _ => by
    simp only [blanks, List.getElem_cons_zero]
    constructor <;> intro h <;> simp [h]
  | c :: l, k + 1, hk, h => by
    simp only [blanks, List.getElem_cons_succ] at h ⊢
    split at h
    · have := blanks_at l k (by simpa using hk) (by omega)
      rename_i hc
      rw [if_pos hc]
      exact ⟨fun x => by have := this.1 x; omega, fun x => by have := this.2 x; omega⟩
    · omega
set_option maxRecDepth 100000 in
set_option maxHeartbeats 1000000 in
theorem first_any (l : List UInt8) (hl : l.length ≤ 1000000) (w : World) :
    Calls Tryz.prog 81 #[.string ⟨l.toArray⟩] w fun e w' => e = .returned (.int .i64 (firstP l : Int)) ∧ w' = w := by
  have HSZ := size_mk l
  have HBL := blanks_le l
  have hz : firstP l ≤ 1000000 := by unfold firstP; omega
  have HFP := Lib.hid (show firstP l = min (blanks l) (l.length - 1) from rfl)
  go_enter Tryz.func81, Tryz.ntmps81
  go_wp2_with fail
  go_loop [3] (fun iv => ∃ k : Nat, iv = .int .i64 (k : Int) ∧ k ≤ blanks l) (fun i => l.length - (intOf i).toNat)
  case atStart => exact ⟨0, rfl, Nat.zero_le _⟩
  case round =>
    obtain ⟨k, rfl, hk⟩ := hrel
    by_cases hkl : k < l.length
    · have hki : (k : Int) < (l.length : Int) := by omega
      have HA := Lib.hid (blanks_at l k hkl hk)
      have hget : l[k]? = some l[k] := List.getElem?_eq_getElem hkl
      go_wp2_with fail
      refine (blank_any l[k] w).mono ?_
      rintro e w' ⟨rfl, hw⟩
      subst hw
      by_cases hb : l[k] = 32 ∨ l[k] = 9
      · rw [decide_eq_true hb]
        have hk2 := HA.out.1 hb
        go_wp2_with fail
        go_round
        case rel => exact ⟨k + 1, by go_num, by omega⟩
        case measure => simp [intOf]; omega
      · rw [decide_eq_false hb]
        have hk2 := HA.out.2 hb
        go_wp2_with fail
        all_goals
          go_returns
          have hf := HFP.out
          exact ⟨congrArg (fun z => Ending.returned (.int .i64 z)) (by omega), rfl⟩
    · have hki : ¬ (k : Int) < (l.length : Int) := by omega
      go_wp2_with fail
      all_goals
        go_returns
        have hf := HFP.out
        exact ⟨congrArg (fun z => Ending.returned (.int .i64 z)) (by omega), rfl⟩
end Go.Proofs.YthhihondlihebaaGreatDoor
