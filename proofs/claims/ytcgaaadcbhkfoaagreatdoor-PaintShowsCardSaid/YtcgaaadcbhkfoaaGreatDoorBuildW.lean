/- The walk of strings.Builder's Write over a builder that the call itself made. -/
import Derived.Test.YtcgaaadcbhkfoaaGreatDoorBuild
namespace Go.Proofs.YtcgaaadcbhkfoaaGreatDoor
open Go Go.Proofs Go.RowKit Go.Ink

set_option maxRecDepth 100000 in
set_option maxHeartbeats 2000000 in
theorem write_any (B b : Nat) (l l2 : List UInt8) (g off n cap : Nat) (hn : l2.length = n) (w : World) (h : Bdr w B b l) (hs : SlOf IsByte w (some ⟨g, off, none⟩) cap l2) (hg : g < B) (hlen : l.length + l2.length ≤ 140737488355328) (hBw : B ≤ w.heap.size) :
    Calls Tryz.prog 33 #[.pointer (some ⟨b, 0, none⟩), .slice (some ⟨g, off, none⟩) n cap] w fun e w' => e = .returned (.tuple #[.int .i64 n, .nilIface]) ∧ Bdr w' B b (l ++ l2) ∧ Below B w w' := by
  subst hn
  obtain ⟨i0, hi, hz0, hz1, hz2⟩ := info_parts byte_info
  have HL := Lib.hid (show (Lib.byteCells l).length + l2.length ≤ 140737488355328 by rw [Lib.byteCells_length]; exact hlen); clear hlen
  have HB := Lib.hid (show Lib.byteCells l ++ Lib.byteCells l2 = Lib.byteCells (l ++ l2) by rw [Lib.byteCells_append])
  unfold Bdr at *
  generalize Lib.byteCells l = bs at *
  generalize Lib.byteCells (l ++ l2) = bs' at *
  have HN : Hid (∀ w1, Below B w w1 → ∀ j u, (Lib.byteCells l2)[j]? = some u → w1.cell? ((⟨g, off, none⟩ : Addr).add j) = some u) := by
    intro w1 hb1 j u hu
    simp only [Lib.byteCells, List.getElem?_map, Option.map_eq_some_iff] at hu
    obtain ⟨c, hc, rfl⟩ := hu
    obtain ⟨b', o', u', ha, hcell, rfl⟩ := hs.2.2.2 j c hc
    simp only [Option.some.injEq, Addr.mk.injEq, and_true] at ha
    obtain ⟨rfl, rfl⟩ := ha
    have e : (⟨g, off, none⟩ : Addr).add j = ⟨g, off + j, none⟩ := by unfold Addr.add; split <;> simp_all
    rw [e, hb1.cell (p := ⟨g, off + j, none⟩) hg]
    exact hcell
  have HL2 := Lib.hid (show (Lib.byteCells l2).length = l2.length * 1 by rw [Lib.byteCells_length, Nat.mul_one])
  have HO := Lib.hid (show ∀ u ∈ Lib.byteCells l2, u.oneCell' = true by intro u hu; simp only [Lib.byteCells, List.mem_map] at hu; obtain ⟨c, _, rfl⟩ := hu; rfl)
  have HM := Lib.hid (show l2.length ≤ 9223372036854775807 from Nat.le_trans hs.1 hs.2.1)
  clear hs
  generalize Lib.byteCells l2 = news at *
  go_enter Tryz.func33, Tryz.ntmps33
  go_wp2_with (go_at_call 34; refine (copyCheck_any B b bs _ h).mono ?_)
  rintro e w1 ⟨rfl, h1, hb1⟩
  obtain ⟨hB, v, hbk, hown, hne⟩ := h1
  have c0 : w1.cell? ⟨b, 0, none⟩ = some (.pointer (some ⟨b, 0, none⟩)) := by rw [Lib.cell_of_heap hbk]; rfl
  have c1 : w1.cell? ⟨b, 1, none⟩ = some v := by rw [Lib.cell_of_heap hbk]; rfl
  go_wp2_with (at_builtin; refine wpList_append_own _ rfl _ _ 37 rfl B 5 i0 (.int .u8 0) 1 1 Tryz.underlying37 hi hz0 hz1 hz2 rfl (by decide) _ _ _ rfl hown ⟨g, off, none⟩ l2.length cap news rfl HL2.out (HN.out _ hb1) HO.out ?c3 ?c4 ?c5 ?_)
  case c3 => have := HL.out; unfold maxLen; omega
  case c4 => have := HL.out; omega
  case c5 => have := hb1.size; omega
  intro v' w2 hown' hgrow _
  have hlt : b < w1.heap.size := by
    rcases Nat.lt_or_ge b w1.heap.size with h' | h'
    · exact h'
    · simp [Array.getElem?_eq_none h'] at hbk
  have hb2 : w2.heap[b]? = some (.cells #[.pointer (some ⟨b, 0, none⟩), v] 44 (0, 0)) := by
    rw [hgrow.block b hlt (fun e => hne e.symm)]
    exact hbk
  have d0 : w2.cell? ⟨b, 0, none⟩ = some (.pointer (some ⟨b, 0, none⟩)) := by rw [Lib.cell_of_heap hb2]; rfl
  have d1 : w2.cell? ⟨b, 1, none⟩ = some v := by rw [Lib.cell_of_heap hb2]; rfl
  have f1 : w2.frozen? ⟨b, 1, none⟩ = false := Lib.frozen_of_heap hb2 1
  obtain ⟨ao, n', cap, rfl⟩ : ∃ ao n' cap, v' = .slice ao n' cap := by
    rcases hown'.2 with ⟨hv, _⟩ | ⟨g, cap, cur, hv, _⟩
    · exact ⟨_, _, _, hv⟩
    · exact ⟨_, _, _, hv⟩
  go_wp2
  go_ret2
  refine ⟨rfl, .inr ?_, ?_⟩
  · rw [← HB.out]
    exact Lib.BuilderAt.put (T := 44) (e := 5) hB hb2 (bs' := bs ++ news) (by have := HL2.out; simp only [Nat.mul_one] at this; simpa [this] using hown') builder_ne
  · exact (hb1.grown hgrow (by have := hb1.size; omega) (fun k hk => (hown.lt k hk).1)).setCell (p := ⟨b, 1, none⟩) hB _

end Go.Proofs.YtcgaaadcbhkfoaaGreatDoor
