/- strings.Builder's WriteByte; lines shifted, by the program and by the reference (chapter 23). -/
import Derived.Test.YthgjomihopijeaaGreatDoorBuild
import Derived.Test.YthgjomihopijeaaGreatDoorRs1
import Derived.Deep.QuietTactic
import Derived.BigQuiet
namespace Go.Proofs.YthgjomihopijeaaGreatDoor
open Go Go.Proofs Go.RowKit Go.Ink

set_option maxRecDepth 100000 in
set_option maxHeartbeats 2000000 in
theorem writeByte_any (B b : Nat) (l : List UInt8) (c : UInt8) (w : World) (h : Bdr w B b l) (hlen : l.length + 1 ≤ 140737488355328) (hBw : B ≤ w.heap.size) :
    Calls Tryz.prog 12 #[.pointer (some ⟨b, 0, none⟩), .int .u8 (c.toNat : Int)] w fun e w' => e = .returned .nilIface ∧ Bdr w' B b (l ++ [c]) ∧ Below B w w' := by
  obtain ⟨i0, hi, hz0, hz1, hz2⟩ := info_parts byte_info
  have HL := Lib.hid (show (Lib.byteCells l).length + 1 ≤ 140737488355328 by rw [Lib.byteCells_length]; exact hlen); clear hlen
  have HB := Lib.hid (show Lib.byteCells l ++ [.int .u8 (c.toNat : Int)] = Lib.byteCells (l ++ [c]) by rw [Lib.byteCells_append]; rfl)
  unfold Bdr at *
  generalize Lib.byteCells l = bs at *
  generalize Lib.byteCells (l ++ [c]) = bs' at *
  go_enter Tryz.func12, Tryz.ntmps12
  go_wp2_with (go_at_call 17; refine (copyCheck_any B b bs _ h).mono ?_)
  rintro e w0 ⟨rfl, h1, hb1⟩
  have hs0 : B ≤ w0.heap.size := Nat.le_trans hBw hb1.size
  obtain ⟨w1, hw1⟩ : ∃ w1, w0.alloc (.cells #[.int .u8 (c.toNat : Int)] 5) = w1 := ⟨_, rfl⟩
  have hal : Below w0.heap.size w0 w1 := by rw [← hw1]; exact (Below.refl _ _).alloc (Nat.le_refl _) _
  have h2 := BuilderAt_later h1 hal
  have hbB := hb1.trans (hal.mono hs0)
  have hsrc : w1.cell? ⟨w0.heap.size, 0, none⟩ = some (.int .u8 (c.toNat : Int)) := by rw [← hw1]; simp
  obtain ⟨hB, v, hbk0, hown0, hne0⟩ := h1
  have c0 : w0.cell? ⟨b, 0, none⟩ = some (.pointer (some ⟨b, 0, none⟩)) := by rw [Lib.cell_of_heap hbk0]; rfl
  have c1 : w0.cell? ⟨b, 1, none⟩ = some v := by rw [Lib.cell_of_heap hbk0]; rfl
  have hbk : w1.heap[b]? = some (.cells #[.pointer (some ⟨b, 0, none⟩), v] 31 (0, 0)) := (hal.block b (lt_of_heap hbk0)).trans hbk0
  obtain ⟨hB', v', hbk', hown, hne⟩ := h2
  have hvv : v' = v := by
    rw [hbk] at hbk'
    simp at hbk'
    exact hbk'.symm
  subst hvv
  have HSRC := Lib.hid hsrc
  have hN : ∀ j u, [Value.int .u8 (c.toNat : Int)][j]? = some u → w1.cell? ((⟨w0.heap.size, 0, none⟩ : Addr).add j) = some u := by
    intro j u hj
    match j with
    | 0 => simp at hj; subst hj; simpa [Addr.add] using HSRC.out
    | j + 1 => simp at hj
  have HN := Lib.hid hN
  have HW1 := Lib.hid hw1
  clear hN hsrc hbk' hbk0 hown0 hne0
  go_wp2_with (at_builtin; refine wpList_append_own _ rfl _ _ 29 rfl B 5 i0 (.int .u8 0) 1 1 Tryz.underlying29 hi hz0 hz1 hz2 rfl (by decide) _ _ _ rfl hown ⟨w0.heap.size, 0, none⟩ 1 1 [.int .u8 (c.toNat : Int)] rfl rfl HN.out (by simp [Value.oneCell']) ?c3 ?c4 ?c5 ?_)
  case c3 => have := HL.out; unfold maxLen; omega
  case c4 => have := HL.out; omega
  case c5 => exact Nat.le_trans hs0 hal.size
  intro v2 w2 hown' hgrow _
  have hlt : b < w1.heap.size := lt_of_heap hbk
  have hb2 : w2.heap[b]? = some (.cells #[.pointer (some ⟨b, 0, none⟩), v'] 31 (0, 0)) := by
    rw [hgrow.block b hlt (fun e => hne e.symm)]
    exact hbk
  have d0 : w2.cell? ⟨b, 0, none⟩ = some (.pointer (some ⟨b, 0, none⟩)) := by rw [Lib.cell_of_heap hb2]; rfl
  have d1 : w2.cell? ⟨b, 1, none⟩ = some v' := by rw [Lib.cell_of_heap hb2]; rfl
  have f1 : w2.frozen? ⟨b, 1, none⟩ = false := Lib.frozen_of_heap hb2 1
  obtain ⟨ao, n', cap, rfl⟩ : ∃ ao n' cap, v2 = .slice ao n' cap := by
    rcases hown'.2 with ⟨hv, _⟩ | ⟨g, cap, cur, hv, _⟩
    · exact ⟨_, _, _, hv⟩
    · exact ⟨_, _, _, hv⟩
  go_wp2
  go_ret
  refine ⟨rfl, .inr ?_, ?_⟩
  · rw [← HB.out]
    exact Lib.BuilderAt.put (T := 31) (e := 5) hB hb2 (bs' := bs ++ [.int .u8 (c.toNat : Int)]) (by simpa using hown') builder_ne
  · exact (hbB.grown hgrow (Nat.le_trans hs0 hal.size) (fun k hk => (hown.lt k hk).1)).setCell (p := ⟨b, 1, none⟩) hB _
end Go.Proofs.YthgjomihopijeaaGreatDoor
