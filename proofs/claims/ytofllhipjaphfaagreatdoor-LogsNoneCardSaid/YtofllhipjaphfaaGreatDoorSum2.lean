/- The walks of the sums: fold, of, behind, number, weigh, Hex. -/
import Derived.Test.YtofllhipjaphfaaGreatDoorSum1
import Derived.Test.YtofllhipjaphfaaGreatDoorBase
import Derived.Test.YtofllhipjaphfaaGreatDoorChecked
import Derived.Laws.BitsAllLaws
import Derived.Laws.Rows
import Derived.Deep.QuietTactic
import Derived.BigQuiet
import Derived.StillTailTactics
namespace Go.Proofs.YtofllhipjaphfaaGreatDoor
open Go Go.Proofs Go.RowKit Go.Ink

theorem and_low (k : Nat) (h : k < 18446744073709551616) : bits .and .u64 (k : Int) 65535 = ((k % 65536 : Nat) : Int) := by
  have := u64_and_nat k 65535 h (by omega)
  rw [nat_mask16] at this
  exact this
theorem ret_nat (k : IntKind) {a b : Nat} (h : a = b) : Ending.returned (.int k (a : Int)) = .returned (.int k (b : Int)) := by rw [h]
theorem or_parts (a b : Nat) (ha : a < 65536) (hb : b < 65536) : bits .or .u32 ((b : Int) * 65536) (a : Int) = ((65536 * b + a : Nat) : Int) := by
  have h := u32_or_nat (b * 65536) a (by omega) (by omega)
  rw [nat_join 16 (b * 65536) a (by omega) (by omega), Int.natCast_mul] at h
  rw [Nat.mul_comm 65536 b]
  exact h
theorem fold_any (n : Nat) (w : World) (hn : n < 18446744073709551616) :
    Calls Tryz.prog 111 #[.int .u64 n] w fun e w' => e = .returned (.int .u64 ((n % 65535 : Nat) : Int)) ∧ w = w' := by
  go_enter Tryz.func111, Tryz.ntmps111
  go_wp2_with fail
  go_loop [0] (fun v => ∃ k : Nat, v = .int .u64 k ∧ k < 18446744073709551616 ∧ Hid (k % 65535 = n % 65535)) (fun v => (intOf v).toNat)
  case atStart => exact ⟨n, rfl, hn, Lib.hid rfl⟩
  case round =>
    obtain ⟨k, rfl, hk, HK⟩ := hrel
    have HA := and_low k hk
    by_cases hlt : 65535 < k
    · have HF := Lib.hid (show (k / 65536 + k % 65536) % 65535 = n % 65535 by rw [fold_step]; exact HK.out)
      have hless := fold_less k hlt
      go_wp2_with fail
      go_round
      case rel => exact ⟨k / 65536 + k % 65536, by go_num, by omega, HF⟩
      case measure => simp [intOf]; omega
    · have HF := Lib.hid (show k % 65535 = n % 65535 from HK.out)
      go_wp2_with fail
      go_returns
      exact ⟨ret_nat .u64 HF.out, rfl⟩
theorem fold_at (x : Int) (n r : Nat) (w : World) (hn : n < 18446744073709551616) (hx : x = n) (hr : n % 65535 = r) :
    Calls Tryz.prog 111 #[.int .u64 x] w fun e w' => e = .returned (.int .u64 (r : Int)) ∧ w' = w := by
  subst hx hr
  exact (fold_any n w hn).mono fun e w' ⟨h1, h2⟩ => ⟨h1, h2.symm⟩
/-- Two parts, and of how many bytes. -/
def wgt (a b m : Nat) : Value := .agg #[.int .u64 (a : Int), .int .u64 (b : Int), .int .u64 (m : Int)]
theorem of_zero (w : World) :
    Calls Tryz.prog 90 #[.int .u32 0, .int .u64 0] w fun e w' => e = .returned (wgt 0 0 0) ∧ Below w.heap.size w w' := by
  unfold wgt
  go_enter Tryz.func90, Tryz.ntmps90
  go_wp2_with fail
  refine (fold_any 0 _ (by omega)).mono ?_
  rintro e w' ⟨rfl, rfl⟩
  go_wp2_with fail
  refine (fold_any 0 _ (by omega)).mono ?_
  rintro e w' ⟨rfl, rfl⟩
  go_wp2_with fail
  refine bodyPost_ret (v := .agg #[.int .u64 0, .int .u64 0, .int .u64 0]) ?_ rfl ⟨rfl, ?_⟩
  · simp [results, Tryz.results90, go_sem]
  · exact (Below.refl _ _).alloc (Nat.le_refl _) _
theorem number_any (a b m : Nat) (w : World) (ha : a < 65535) (hb : b < 65535) :
    Calls Tryz.prog 94 #[wgt a b m] w fun e w' => e = .returned (.int .u32 ((65536 * b + a : Nat) : Int)) ∧ Below w.heap.size w w' := by
  unfold wgt
  have HO := Lib.hid (or_parts a b (by omega) (by omega))
  go_enter Tryz.func94, Tryz.ntmps94
  go_wp2_with fail
  go_returns
  refine ⟨?_, (Below.refl _ _).alloc (Nat.le_refl _) _⟩
  rw [← HO.out]; rfl
theorem three_blocks (w : World) (A B C : Array Value) (T U V : TypeId) : ∃ W, ((w.alloc (.cells A T)).alloc (.cells B U)).alloc (.cells C V) = W ∧ W.heap[w.heap.size]? = some (.cells A T (0, 0)) ∧ W.heap[w.heap.size + 1]? = some (.cells B U (0, 0)) ∧ W.heap[w.heap.size + 1 + 1]? = some (.cells C V (0, 0)) ∧ Below w.heap.size w W := by
  refine ⟨_, rfl, ?_, ?_, ?_, (((Below.refl _ _).alloc (Nat.le_refl _) _).alloc (by simp) _).alloc (by simp; omega) _⟩
  · rw [Below.heap_alloc _ _ _ (by simp; omega), Below.heap_alloc _ _ _ (by simp)]; exact heap_alloc_new _ _
  · rw [Below.heap_alloc _ _ _ (by simp)]
    have := heap_alloc_new (w.alloc (.cells A T)) (.cells B U); rwa [World.size_alloc] at this
  · have := heap_alloc_new ((w.alloc (.cells A T)).alloc (.cells B U)) (.cells C V); rwa [World.size_alloc, World.size_alloc] at this
set_option maxRecDepth 100000 in
theorem behind_any (a b m c d k : Nat) (w : World) (ha : a < 65535) (hb : b < 65535) (hc : c < 1000000) (hd : d < 1000000000) (hk : k ≤ 256) :
    Calls Tryz.prog 92 #[wgt a b m, wgt c d k] w fun e w' => e = .returned (wgt ((a + c) % 65535) ((b + d + a % 65535 * k % 65535) % 65535) k) ∧ Below w.heap.size w w' := by
  unfold wgt
  obtain ⟨W, hW, h0, h1, h2, hB⟩ := three_blocks w #[.int .u64 (a : Int), .int .u64 (b : Int), .int .u64 (m : Int)] #[.int .u64 (c : Int), .int .u64 (d : Int), .int .u64 (k : Int)] #[.int .u64 0, .int .u64 0, .int .u64 0] 149 149 149
  have HW := Lib.hid hW; clear hW
  have c0 := Lib.cell_of_heap h0
  have c1 := Lib.cell_of_heap h1
  have a0 := c0 0; have a1 := c0 1; have a2 := c0 2
  have b0 := c1 0; have b1 := c1 1; have b2 := c1 2
  simp at a0 a1 a2 b0 b1 b2
  have H2 := Lib.hid h2
  have HB := Lib.hid hB
  clear c0 c1 h0 h1 h2 hB
  obtain ⟨r1, hr1⟩ : ∃ r1, (a + c) % 65535 = r1 := ⟨_, rfl⟩
  obtain ⟨p, hp⟩ : ∃ p, a % 65535 = p := ⟨_, rfl⟩
  rw [hr1, hp]
  have hlt1 : r1 < 65535 := by omega
  have hpk : p * k ≤ 65535 * 256 := Nat.mul_le_mul (by omega) hk
  obtain ⟨q, hq⟩ : ∃ q, p * k = q := ⟨_, rfl⟩
  rw [hq]
  obtain ⟨r2, hr2⟩ : ∃ r2, (b + d + q % 65535) % 65535 = r2 := ⟨_, rfl⟩
  rw [hr2]
  have HR2 := Lib.hid hr2; clear hr2
  have HW2 := Lib.hid (show IntKind.u64.wrap (IntKind.u64.wrap ((b : Int) + (d : Int)) + (q : Int).tmod 65535) = ((b + d + q % 65535 : Nat) : Int) by
    rw [IntKind.wrap_u64, IntKind.wrap_u64, Int.tmod_eq_emod_of_nonneg (by omega)]; omega)
  have HW1 := Lib.hid (show IntKind.u64.wrap ((a : Int) + (c : Int)) = (a : Int) + (c : Int) by rw [IntKind.wrap_u64]; omega)
  have HR1 := Lib.hid hr1
  have HP := Lib.hid hp
  have hm : IntKind.u64.wrap ((p : Int) * (k : Int)) = (q : Int) := by rw [IntKind.wrap_u64, ← Int.natCast_mul, hq]; omega
  clear hr1 hp hpk hq
  go_enter Tryz.func92, Tryz.ntmps92
  go_wp2_with fail
  rw [HW.out]
  refine wp_region_still_tail 23 (by kernel_rfl) (by kernel_rfl) ?_
  simp only [List.take_succ_cons, List.take_zero, List.drop_succ_cons, List.drop_zero]
  repeat still_step
  still_call (fold_at _ (a + c) r1 _ (by omega) (by rw [HW1.out]; omega) HR1.out)
  repeat still_step
  still_call (fold_at _ a p _ (by omega) rfl HP.out)
  repeat still_step
  still_call (fold_at _ (b + d + q % 65535) r2 _ (by omega) HW2.out HR2.out)
  repeat still_step
  refine wpStill_nil ?_
  have hw := HB.out.size
  have d0 := Lib.cell_of_heap H2.out
  have f0 := Lib.frozen_of_heap H2.out
  have e0 := d0 0; have e1 := d0 1; have e2 := d0 2
  have g0 := f0 0; have g1 := f0 1; have g2 := f0 2
  simp at e0 e1 e2 g0 g1 g2
  clear d0 f0
  go_wp2_with fail
  refine bodyPost_ret (v := .agg #[.int .u64 (r1 : Int), .int .u64 (r2 : Int), .int .u64 (k : Int)]) ?_ rfl ⟨rfl, ?_⟩
  · simp [results, Tryz.results92, go_sem, e0, e1, e2]
  · exact (((HB.out.drew).setCell (p := ⟨w.heap.size + 1 + 1, 0, none⟩) (by simp; omega) _).setCell (p := ⟨w.heap.size + 1 + 1, 1, none⟩) (by simp; omega) _).setCell (p := ⟨w.heap.size + 1 + 1, 2, none⟩) (by simp; omega) _
end Go.Proofs.YtofllhipjaphfaaGreatDoor
