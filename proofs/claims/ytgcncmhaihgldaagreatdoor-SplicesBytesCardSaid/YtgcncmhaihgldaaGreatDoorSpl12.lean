/- The walk of chapter 15's examples (does): they come out. -/
import Derived.Test.YtgcncmhaihgldaaGreatDoorSpl11
namespace Go.Proofs.YtgcncmhaihgldaaGreatDoor
open Go Go.Proofs Go.RowKit Go.Ink

theorem sx1 : applyS [[97], [98], [99]] ⟨1, 1, [[120], [121]]⟩ = ([[97], [120], [121], [99]], 0) := by decide +kernel
theorem sx2 : invS [[97], [98], [99]] ⟨1, 1, [[120], [121]]⟩ = (⟨1, 2, [[98]]⟩, 0) := by kernel_rfl
theorem sx3 : applyS [[97]] ⟨1, 1, []⟩ = ([], 2) := by decide +kernel
theorem sx4 : encS ⟨1, 2, [[98], []]⟩ = ([49, 58, 50, 58, 50, 58, 49, 58, 98, 48, 58], 0) := by decide +kernel

theorem strs_block {w : World} {g : Nat} {T : TypeId} {fr : Nat × Nat} (l : List Line) (h : w.heap[g]? = some (.cells (l.map fun t => Value.string ⟨t.toArray⟩).toArray T fr)) (hl : l.length ≤ 1000000) : SlOf IsStr w (some ⟨g, 0, none⟩) l.length l := by
  refine ⟨Nat.le_refl _, by unfold maxLen; omega, by simp, fun k x hk => ?_⟩
  refine ⟨g, 0, .string ⟨x.toArray⟩, rfl, ?_, rfl⟩
  rw [Lib.cell_of_heap h]
  simp [List.getElem?_map, hk]

theorem three_blocks (w : World) (o1 o2 o3 : Obj) : (((w.alloc o1).alloc o2).alloc o3).heap[w.heap.size]? = some o1 ∧ (((w.alloc o1).alloc o2).alloc o3).heap[w.heap.size + 1]? = some o2 ∧ (((w.alloc o1).alloc o2).alloc o3).heap[w.heap.size + 2]? = some o3 ∧ Below w.heap.size w (((w.alloc o1).alloc o2).alloc o3) := by
  obtain ⟨h1, h2, h3, h4⟩ := two_blocks w o1 o2
  have hb := below_alloc ((w.alloc o1).alloc o2) o3
  refine ⟨(hb.block _ (by omega)).trans h1, (hb.block _ (by omega)).trans h2, ?_, h3.trans (hb.mono h3.size)⟩
  rw [← h4]
  exact heap_alloc_at _ _

set_option maxRecDepth 100000 in
set_option maxHeartbeats 1000000 in
theorem does_any (w : World) (ht : Tab10 w) :
    Calls Tryz.prog 10 #[] w fun e w' => e = .returned (.bool true) ∧ Below w.heap.size w w' := by
  have HT := Lib.hid ht; clear ht
  have H1 := Lib.hid (fun (ao ai : Option Addr) (c ci : Nat) w hl hi => by have := apply_any [[97], [98], [99]] ao c ⟨1, 1, [[120], [121]]⟩ ai ci w hl hi (by simp); rw [sx1] at this; exact this)
  have H2 := Lib.hid (fun (ao ai : Option Addr) (c ci : Nat) w hl hi => by have := inverse_any [[97], [98], [99]] ao c ⟨1, 1, [[120], [121]]⟩ ai ci w hl hi (by simp); rw [sx2] at this; exact this)
  have H3 := Lib.hid (fun (ao ai : Option Addr) (c ci : Nat) w hl hi => by have := apply_any [[97]] ao c ⟨1, 1, []⟩ ai ci w hl hi (by simp); rw [sx3] at this; exact this)
  have H4 := Lib.hid (fun (ao : Option Addr) (c : Nat) w hs ht => by have := encode_any ⟨1, 2, [[98], []]⟩ ao c w hs (by unfold Spl.fits; simp) (by decide +kernel) ht; rw [sx4] at this; exact this)
  have H5 := Lib.hid (fun (ao1 ao2 cap1 cap2 w ha hb) => by have := same_any [[97], [120], [121], [99]] [[97], [120], [121], [99]] ao1 ao2 cap1 cap2 w ha hb; rw [sameS_self] at this; exact this)
  have H6 := Lib.hid (fun (a1 a2 : Option Addr) (c1 c2 : Nat) w ha hb => by have := splSame_any ⟨1, 2, [[98]]⟩ ⟨1, 2, [[98]]⟩ a1 a2 c1 c2 w ha hb; rw [(splSame_iff _ _).2 rfl] at this; exact this)
  simp only [splV, List.length_cons, List.length_nil] at H1 H2 H3 H4 H5 H6
  have HAL := Lib.hid (fun (w : World) o => below_alloc w o)
  go_enter Tryz.func10, Tryz.ntmps10
  go_wp2_with fail
  have H3B := Lib.hid (three_blocks w (.cells #[.string ⟨#[97]⟩, .string ⟨#[98]⟩, .string ⟨#[99]⟩] 9 (0, 0)) (.cells #[.string ⟨#[120]⟩, .string ⟨#[121]⟩] 9 (0, 0)) (.cells #[.int .i64 1, .int .i64 1, .slice (some ⟨w.heap.size + 1, 0, none⟩) 2 2] 24 (0, 0)))
  have HL := Lib.hid (strs_block [[97], [98], [99]] H3B.out.1 (by simp))
  have HI := Lib.hid (strs_block [[120], [121]] H3B.out.2.1 (by simp))
  refine (H1.out _ _ _ _ _ HL.out HI.out).mono ?_
  rintro e w1 ⟨v1, rfl, ho, hb⟩
  have HB1 := Lib.hid (H3B.out.2.2.2.trans (hb.mono H3B.out.2.2.2.size))
  have HX := Lib.hid ((hb.block (w.heap.size + 2) (lt_of_heap H3B.out.2.2.1)).trans H3B.out.2.2.1)
  have HL1 := Lib.hid (HL.out.later lasts_str hb)
  have HI1 := Lib.hid (HI.out.later lasts_str hb)
  obtain ⟨a1, k1, hv1⟩ := ownsRow_shape ho
  subst hv1
  have HO1 := Lib.hid ho
  clear ho hb H3B HL HI
  have c0 : w1.cell? ⟨w.heap.size + 2, 0, none⟩ = some (.int .i64 1) := by rw [Lib.cell_of_heap HX.out]; rfl
  have c1 : w1.cell? ⟨w.heap.size + 2, 1, none⟩ = some (.int .i64 1) := by rw [Lib.cell_of_heap HX.out]; rfl
  have c2 : w1.cell? ⟨w.heap.size + 2, 2, none⟩ = some (.slice (some ⟨w.heap.size + 1, 0, none⟩) 2 2) := by rw [Lib.cell_of_heap HX.out]; rfl
  go_wp2_with fail
  refine (H2.out _ _ _ _ _ HL1.out HI1.out).mono ?_
  rintro e w2 ⟨v2, rfl, ho, hb⟩
  have HB2 := Lib.hid (HB1.out.trans (hb.mono HB1.out.size))
  obtain ⟨a2, k2, hv2⟩ := ownsRow_shape ho
  subst hv2
  obtain ⟨ax, kx, hvx, hsx⟩ := OwnStrs.slOf ho
  simp only [Value.slice.injEq] at hvx
  obtain ⟨rfl, _, rfl⟩ := hvx
  have HS2 := Lib.hid hsx
  have HO2 := Lib.hid (ownsRow_below HO1.out hb)
  clear ho hb HX c0 c1 c2 HL1 HI1 HO1 hsx
  go_wp2_with fail
  have H2B := Lib.hid (two_blocks w2 (.cells #[.int .i64 1, .int .i64 2, .slice a2 1 k2] 24 (0, 0)) (.cells #[.string ⟨#[97]⟩] 9 (0, 0)))
  refine (H3.out _ _ _ _ _ (strs_block [[97]] H2B.out.2.1 (by simp)) (slOf_none _)).mono ?_
  rintro e w3 ⟨v3, rfl, ho, hb⟩
  have HW3 := Lib.hid (H2B.out.2.2.1.trans (hb.mono H2B.out.2.2.1.size))
  have HX5 := Lib.hid ((hb.block w2.heap.size (lt_of_heap H2B.out.1)).trans H2B.out.1)
  have HB3 := Lib.hid (HB2.out.trans (HW3.out.mono HB2.out.size))
  have HS3 := Lib.hid (HS2.out.later lasts_str HW3.out)
  have HO3 := Lib.hid (ownsRow_below HO2.out (HW3.out.mono (Nat.le_refl _)))
  clear ho hb H2B HS2 HO2
  go_wp2_with fail
  have HA4 := Lib.hid (HAL.out w3 (.cells #[.string ⟨#[98]⟩, .string ⟨#[]⟩] 9 (0, 0)))
  refine (H4.out _ _ _ (strs_block [[98], []] (heap_alloc_at w3 _) (by simp)) ((HT.out.later HB3.out).later HA4.out)).mono ?_
  rintro e w4 ⟨rfl, hb⟩
  have HW4 := Lib.hid (HA4.out.trans (hb.mono HA4.out.size))
  have HX4 := Lib.hid ((HW4.out.block w2.heap.size (lt_of_heap HX5.out)).trans HX5.out)
  have HB4 := Lib.hid (HB3.out.trans (HW4.out.mono HB3.out.size))
  have HS4 := Lib.hid (HS3.out.later lasts_str HW4.out)
  have HO4 := Lib.hid (ownsRow_below HO3.out HW4.out)
  clear hb HA4 HS3 HO3 HX5
  go_wp2_with fail
  obtain ⟨ax, kx, hvx, hsx⟩ := OwnStrs.slOf HO4.out
  simp only [Value.slice.injEq] at hvx
  obtain ⟨rfl, _, rfl⟩ := hvx
  have HA5 := Lib.hid (HAL.out w4 (.cells #[.string ⟨#[97]⟩, .string ⟨#[120]⟩, .string ⟨#[121]⟩, .string ⟨#[99]⟩] 9 (0, 0)))
  refine (H5.out _ _ _ _ _ (hsx.later lasts_str HA5.out) (strs_block [[97], [120], [121], [99]] (heap_alloc_at w4 _) (by simp))).mono ?_
  rintro e w5 ⟨rfl, n, rfl⟩
  have HW5 := Lib.hid (HA5.out.trans (⟨rfl, rfl, rfl, Nat.le_refl _, fun _ _ => rfl⟩ : Below w4.heap.size (w4.alloc (.cells #[.string ⟨#[97]⟩, .string ⟨#[120]⟩, .string ⟨#[121]⟩, .string ⟨#[99]⟩] 9 (0, 0))) ((w4.alloc (.cells #[.string ⟨#[97]⟩, .string ⟨#[120]⟩, .string ⟨#[121]⟩, .string ⟨#[99]⟩] 9 (0, 0))).drewN n)))
  generalize (w4.alloc (.cells #[.string ⟨#[97]⟩, .string ⟨#[120]⟩, .string ⟨#[121]⟩, .string ⟨#[99]⟩] 9 (0, 0))).drewN n = w5 at *
  have HX6 := Lib.hid ((HW5.out.block w2.heap.size (lt_of_heap HX4.out)).trans HX4.out)
  have HB5 := Lib.hid (HB4.out.trans (HW5.out.mono HB4.out.size))
  have HS5 := Lib.hid (HS4.out.later lasts_str HW5.out)
  clear HA5 HS4 HO4 HX4 hsx
  have c0 : w5.cell? ⟨w2.heap.size, 0, none⟩ = some (.int .i64 1) := by rw [Lib.cell_of_heap HX6.out]; rfl
  have c1 : w5.cell? ⟨w2.heap.size, 1, none⟩ = some (.int .i64 2) := by rw [Lib.cell_of_heap HX6.out]; rfl
  have c2 : w5.cell? ⟨w2.heap.size, 2, none⟩ = some (.slice a2 1 k2) := by rw [Lib.cell_of_heap HX6.out]; rfl
  have hz : w2.heap.size < w5.heap.size := lt_of_heap HX6.out
  go_wp2_with fail
  have HA6 := Lib.hid (HAL.out w5 (.cells #[.string ⟨#[98]⟩] 9 (0, 0)))
  refine (H6.out _ _ _ _ _ (HS5.out.later lasts_str HA6.out) (strs_block [[98]] (heap_alloc_at w5 _) (by simp))).mono ?_
  rintro e w6 ⟨rfl, hb⟩
  have HB6 := Lib.hid (HB5.out.trans ((HA6.out.trans (hb.mono HA6.out.size)).mono HB5.out.size))
  clear hb
  go_wp2_with fail
  go_returns
  exact ⟨rfl, HB6.out⟩
end Go.Proofs.YtgcncmhaihgldaaGreatDoor
