/- The walk of RunsShow (chapter 23). -/
import Derived.Test.YthgjomihopijeaaGreatDoorRsZ
import Derived.Test.YthgjomihopijeaaGreatDoorRs3
import Derived.Test.YthgjomihopijeaaGreatDoorRs4
import Derived.Test.YthgjomihopijeaaGreatDoorRs5
import Derived.Test.YthgjomihopijeaaGreatDoorNums1
namespace Go.Proofs.YthgjomihopijeaaGreatDoor
open Go Go.Proofs Go.Ev Go.RowKit Go.Ink

theorem itoa_short (n : Int) (h1 : -9223372036854775808 ≤ n) (h2 : n ≤ 9223372036854775807) : (Lib.itoa n).length ≤ 100 := by
  by_cases h : 0 ≤ n
  · have := itoa_len19 n h h2
    omega
  · have h3 := nDigs_le 19 n.natAbs (by simp only [Nat.reduceAdd, Nat.reducePow]; omega)
    unfold Lib.itoa
    rw [if_pos (by omega)]
    simp only [List.length_cons, Lib.decDigits_length]
    omega
theorem show_both (b : UInt8) (n : Int) (l : List UInt8) (h1 : -9223372036854775808 ≤ n) (h2 : n ≤ 9223372036854775807) (hl : l.length ≤ 100) : ∃ S : List UInt8, ∀ w : World, Tab10 w →
    (Calls Tryz.prog 5 #[.int .u8 (b.toNat : Int), .int .i64 n, .string ⟨l.toArray⟩] w fun e w' => e = .returned (.string ⟨S.toArray⟩) ∧ Below w.heap.size w w') ∧
    (Calls Tryz.prog 6 #[.int .u8 (b.toNat : Int), .int .i64 n, .string ⟨l.toArray⟩] w fun e w' => e = .returned (.string ⟨S.toArray⟩) ∧ Below w.heap.size w w') := by
  by_cases hn : b = 110
  · subst hn
    exact ⟨_, fun w ht => ⟨show_n n l _ rfl w h1 h2 hl (itoa_short n h1 h2) ht, rShow_n n l _ rfl w h1 h2 hl (itoa_short n h1 h2) ht⟩⟩
  · by_cases hl8 : b = 108
    · subst hl8
      exact ⟨_, fun w _ => ⟨show_l n l w hl, rShow_l n l w hl⟩⟩
    · exact ⟨_, fun w _ => ⟨show_o b n l w hn hl8 hl, rShow_o b n l w hn hl8 hl⟩⟩
structure Env23 (w : World) : Prop where
  s : 6 ≤ w.heap.size
  t : TabW w
  p : Tab10 w
theorem Env23.later {w w' : World} (h : Env23 w) (hb : Below w.heap.size w w') : Env23 w' := ⟨Nat.le_trans h.s hb.size, h.t.later hb, h.p.later hb⟩
theorem step3 {w w1 w2 : World} (h : Below w.heap.size w w1) (h2 : Below w1.heap.size w1 w2) : Below w.heap.size w w2 := h.trans (h2.mono h.size)
set_option maxHeartbeats 1000000 in
theorem runsShow_law (b : UInt8) (n : Int) (l : List UInt8) (w : World) (h1 : -9223372036854775808 ≤ n) (h2 : n ≤ 9223372036854775807) (hw : Env23 w) :
    Calls Tryz.prog 3 #[.int .u8 (b.toNat : Int), .int .i64 n, .string ⟨l.toArray⟩] w fun r w' => r = .returned (.bool true) ∧ Below w.heap.size w w' := by
  have HW := Lib.hid hw
  have HSZ := size_mk l
  clear hw
  by_cases hl : 100 < l.length
  · have hli : (100 : Int) < (l.length : Int) := by omega
    go_enter Tryz.func3, Tryz.ntmps3
    go_wp2_with fail
    refine (lives_any ⟨HW.out.s, HW.out.t⟩).mono ?_
    rintro r w1 ⟨rfl, hb⟩
    go_wp2_with fail
    go_returns
    exact ⟨rfl, hb⟩
  have hli : ¬ (100 : Int) < (l.length : Int) := by omega
  obtain ⟨S, hS⟩ := show_both b n l h1 h2 (by omega)
  have HS := Lib.hid hS
  have hSS : (S == S) = true := beq_self_eq_true S
  have HR1 := Lib.hid (shift_right l (by omega))
  have HR2 := Lib.hid (rShift_right l (by omega))
  have HL1 := Lib.hid (shift_left l (by omega))
  have HL2 := Lib.hid (rShift_left l (by omega))
  generalize (if l = [] then [] else 9 :: l) = R at *
  generalize shiftL l = L at *
  have hRR : (R == R) = true := beq_self_eq_true R
  have hLL : (L == L) = true := beq_self_eq_true L
  clear hS h1 h2
  go_enter Tryz.func3, Tryz.ntmps3
  go_wp2_with fail
  refine ((HS.out _ HW.out.p).1).mono ?_
  rintro r w1 ⟨rfl, hb1⟩
  have HB1 := Lib.hid hb1
  clear hb1
  go_wp2_with fail
  refine ((HS.out _ (HW.out.later HB1.out).p).2).mono ?_
  rintro r w2 ⟨rfl, hb2⟩
  have HB2 := Lib.hid (step3 HB1.out hb2)
  clear hb2
  go_wp2_with fail
  refine (HR1.out _).mono ?_
  rintro r w3 ⟨rfl, rfl⟩
  go_wp2_with fail
  refine (HR2.out _).mono ?_
  rintro r w3 ⟨rfl, rfl⟩
  go_wp2_with fail
  refine (HL1.out _).mono ?_
  rintro r w3 ⟨rfl, rfl⟩
  go_wp2_with fail
  refine (HL2.out _).mono ?_
  rintro r w3 ⟨rfl, rfl⟩
  go_wp2_with fail
  have hq := HW.out.later HB2.out
  refine (lives_any ⟨hq.s, hq.t⟩).mono ?_
  rintro r w4 ⟨rfl, hb4⟩
  have HB4 := Lib.hid (step3 HB2.out hb4)
  clear hb4
  go_wp2_with fail
  go_returns
  exact ⟨rfl, HB4.out⟩
end Go.Proofs.YthgjomihopijeaaGreatDoor
