/- sums.More from nothing on, sums.Sum. -/
import Derived.Test.YtofllhipjaphfaaGreatDoorSum4
import Derived.Lib.SmallJoins
namespace Go.Proofs.YtofllhipjaphfaaGreatDoor
open Go Go.Proofs Go.RowKit Go.Ink Go.Shelf

attribute [local go_sem] Oper.semAt_some

/-- The weight's block, and what lay when the loop began. -/
structure MoreAt (w W0 W : World) (Bw : Nat) (c : List UInt8) : Prop where
  v : ∃ m : Nat, W.heap[Bw]? = some (.cells #[.int .u64 ((sumA c % 65535 : Nat) : Int), .int .u64 ((sumB c % 65535 : Nat) : Int), .int .u64 (m : Int)] 149 (0, 0))
  k : KeepBut W0.heap.size Bw W0 W
  b : Below w.heap.size w W

theorem MoreAt.own (w W0 : World) (Bw : Nat) (l : List UInt8) (hB : Bw < W0.heap.size) (hw : w.heap.size ≤ W0.heap.size) : OwnFrom W0.heap.size (fun (pre : List Nat) W => MoreAt w W0 W Bw (chunks l pre)) := by
  rintro s A B row ⟨⟨m, hv⟩, hk, hb⟩ hg hr
  refine ⟨⟨m, (hg.block Bw (lt_of_heap hv) (fun e => ?_)).trans hv⟩, ⟨Nat.le_trans hk.size hg.size, fun i h1 h2 => ?_⟩, hb.grown hg hb.size (fun k e => by have := (hr k e).1; omega)⟩
  · have := (hr Bw e.symm).1; omega
  · exact (hg.block i (by have := hk.size; omega) (fun e => by have := (hr i e.symm).1; omega)).trans (hk.block i h1 h2)
theorem MoreAt.sl {w W0 W : World} {Bw b cap : Nat} {c l : List UInt8} (h : MoreAt w W0 W Bw c) (hs : SlOf IsByte W0 (some ⟨b, 0, none⟩) cap l) (h1 : b < W0.heap.size) (h2 : b ≠ Bw) : SlOf IsByte W (some ⟨b, 0, none⟩) cap l := by
  obtain ⟨a1, a2, a3, a4⟩ := hs
  refine ⟨a1, a2, a3, fun k x hk => ?_⟩
  obtain ⟨b', off, u, ha, hc, hr⟩ := a4 k x hk
  simp only [Option.some.injEq, Addr.mk.injEq, and_true] at ha
  obtain ⟨rfl, rfl⟩ := ha
  exact ⟨b, 0, u, rfl, (h.k.cell (p := ⟨b, 0 + k, none⟩) h1 h2).trans hc, hr⟩

theorem MoreAt.next {w W0 W w2 w3 : World} {Bw : Nat} {p c : List UInt8} (hM : MoreAt w W0 W Bw p) (hlt : Bw < W.heap.size) (h2 : Below W.drew.heap.size W.drew w2) (h3 : Below w2.heap.size w2 w3) (A1 B1 k : Nat) (hA : sumA (p ++ c) % 65535 = A1) (hB : sumB (p ++ c) % 65535 = B1) (hw : w.heap.size ≤ Bw) :
    KeepsOthers W (((w3.setCell ⟨Bw, 0, none⟩ (.int .u64 (A1 : Int))).setCell ⟨Bw, 1, none⟩ (.int .u64 (B1 : Int))).setCell ⟨Bw, 2, none⟩ (.int .u64 (k : Int))) ∧
    KeepBut W0.heap.size Bw W (((w3.setCell ⟨Bw, 0, none⟩ (.int .u64 (A1 : Int))).setCell ⟨Bw, 1, none⟩ (.int .u64 (B1 : Int))).setCell ⟨Bw, 2, none⟩ (.int .u64 (k : Int))) ∧
    MoreAt w W0 (((w3.setCell ⟨Bw, 0, none⟩ (.int .u64 (A1 : Int))).setCell ⟨Bw, 1, none⟩ (.int .u64 (B1 : Int))).setCell ⟨Bw, 2, none⟩ (.int .u64 (k : Int))) Bw (p ++ c) := by
  have h2w : Below W.heap.size W w2 := (Below.refl W.heap.size W).drew.trans h2
  have h23 : Below W.heap.size W w3 := h2w.trans (h3.mono h2w.size)
  have hk : KeepBut W0.heap.size Bw W w3 := KeepBut.of_below h23 hM.k.size
  have hk' := ((hk.setCell 0 (.int .u64 (A1 : Int))).setCell 1 (.int .u64 (B1 : Int))).setCell 2 (.int .u64 (k : Int))
  obtain ⟨m, hv⟩ := hM.v
  refine ⟨?_, hk', ⟨⟨k, ?_⟩, hM.k.trans hk', ?_⟩⟩
  · have : KeepsOthers W w3 := ⟨h23.size, fun i o hi _ => (h23.block i (Array.getElem?_eq_some_iff.1 hi).1).trans hi⟩
    exact ((this.trans (KeepsOthers.setCell _ _ _)).trans (KeepsOthers.setCell _ _ _)).trans (KeepsOthers.setCell _ _ _)
  · have hv3 := (h23.block Bw hlt).trans hv
    have := heap_set (j := 2) (heap_set (j := 1) (heap_set (j := 0) hv3 (.int .u64 (A1 : Int))) (.int .u64 (B1 : Int))) (.int .u64 (k : Int))
    rw [this, hA, hB]; rfl
  · exact (((hM.b.trans (h23.mono hM.b.size)).setCell (p := ⟨Bw, 0, none⟩) hw _).setCell (p := ⟨Bw, 1, none⟩) hw _).setCell (p := ⟨Bw, 2, none⟩) hw _
theorem behind_sum (p c : List UInt8) (m : Nat) (hc : c.length ≤ 256) (A0 B0 A1 B1 : Nat) (h0 : sumA p % 65535 = A0) (h1 : sumB p % 65535 = B0) (h2 : sumA (p ++ c) % 65535 = A1) (h3 : sumB (p ++ c) % 65535 = B1) (W : World) :
    Calls Tryz.prog 92 #[.agg #[.int .u64 (A0 : Int), .int .u64 (B0 : Int), .int .u64 (m : Int)], .agg #[.int .u64 (sumA c : Int), .int .u64 (sumB c : Int), .int .u64 (c.length : Int)]] W
      fun e w' => e = .returned (.agg #[.int .u64 (A1 : Int), .int .u64 (B1 : Int), .int .u64 (c.length : Int)]) ∧ Below W.heap.size W w' := by
  have hA := sumA_le c
  have hB := sumB_le c
  have hB2 : c.length * c.length ≤ 256 * 256 := Nat.mul_le_mul hc hc
  have := behind_any A0 B0 m (sumA c) (sumB c) c.length W (by omega) (by omega) (by omega) (by omega) hc
  rw [← h0, ← h1, behind_first, behind_second, h0, h1, h2, h3] at this
  exact this

set_option maxRecDepth 100000 in
set_option maxHeartbeats 2000000 in
theorem more_any (l : List UInt8) (w : World) (hl : l.length ≤ 140737488355328) :
    Calls Tryz.prog 62 #[.int .u32 0, .string ⟨l.toArray⟩] w fun e w' => e = .returned (.int .u32 ((sumN l : Nat) : Int)) ∧ Below w.heap.size w w' := by
  refine (callsIn_wide (n := 4)).1 ?_
  refine callsIn_of_wp_marks Tryz.func62 rfl trivial ?_ rfl
  simp only [Tryz.ntmps62, List.size_toArray, List.length_cons, List.length_nil, Nat.reduceAdd, Nat.reduceSub, Array.replicate_succ, Array.replicate_zero, List.push_toArray, List.append_toArray, List.nil_append, List.cons_append]
  have hcv := fun w : World => Lib.run_convert_string_bytes (P := Tryz.prog) w 9 79 5 ⟨l.toArray⟩ Tryz.underlying9 Tryz.underlying79 Tryz.underlying5
  gi_wp2_with (refine ⟨trivial, ?_⟩; gi_at_call 90; refine (callsIn_wide.2 (of_zero _)).mono ?_; rintro e w1 ⟨rfl, hb1⟩; unfold wgt)
  refine ⟨trivial, ?_⟩
  have HB1 := Lib.hid hb1
  have hsz := hb1.size
  obtain ⟨Bw, hBw⟩ : ∃ Bw, w1.heap.size = Bw := ⟨_, rfl⟩
  obtain ⟨wA, hwA⟩ : ∃ wA, w1.alloc (.cells #[.int .u64 0, .int .u64 0, .int .u64 0] 149) = wA := ⟨_, rfl⟩
  have hv0 : wA.heap[Bw]? = some (.cells #[.int .u64 0, .int .u64 0, .int .u64 0] 149 (0, 0)) := by rw [← hwA, ← hBw]; exact heap_alloc_new _ _
  have hszA : wA.heap.size = Bw + 1 := by rw [← hwA, ← hBw]; simp
  have hbA : Below w.heap.size w wA := by rw [← hwA]; exact hb1.alloc hsz _
  rw [hwA, hBw]
  have hcapg := grownCap_ge wA l.length 0 5
  have hcapm := grownCap_le_maxLen wA l.length 0 5 (by unfold maxLen; omega)
  unfold maxLen at hcapm
  have hsl : SlOf IsByte (Lib.bytesWorld wA 5 ⟨l.toArray⟩) (some ⟨Bw + 1, 0, none⟩) (grownCap wA l.length 0 5) l := by
    refine ⟨hcapg, by unfold maxLen; omega, by simp, fun k x hk => ⟨Bw + 1, 0, .int .u8 (x.toNat : Int), rfl, ?_, rfl⟩⟩
    have := Lib.bytesWorld_cell wA 5 ⟨l.toArray⟩ k (by rw [size_mk]; exact (List.getElem?_eq_some_iff.1 hk).1)
    rw [hszA] at this
    rw [Nat.zero_add, this]
    simp [List.getD_eq_getElem?_getD, hk]
  have hszB := Lib.bytesWorld_size wA 5 ⟨l.toArray⟩
  have hvB := (Lib.bytesWorld_at_old wA 5 ⟨l.toArray⟩ Bw (by omega)).trans hv0
  have hbB := hbA.trans ((Joins.below_bytesWorld _ wA 5 ⟨l.toArray⟩ (Nat.le_refl _)).mono (by omega))
  generalize Lib.bytesWorld wA 5 ⟨l.toArray⟩ = wB at *
  generalize grownCap wA l.length 0 5 = cap at *
  rw [hszA] at hszB
  refine (chunk_in Fence.wide 3 trivial rfl _ _ _ _).mono ?_
  rintro e w' ⟨rfl, rfl⟩
  gi_wp2
  obtain ⟨W0, hW0⟩ : ∃ W0, (wB.alloc (.cells #[.slice (some ⟨Bw + 1, 0, none⟩) l.length cap] 79)).alloc (.cells #[.int .i64 256] 3) = W0 := ⟨_, rfl⟩
  have hs0 : W0.cell? ⟨wB.heap.size, 0, none⟩ = some (.slice (some ⟨Bw + 1, 0, none⟩) l.length cap) := by rw [← hW0]; simp
  have hs1 : W0.cell? ⟨wB.heap.size + 1, 0, none⟩ = some (.int .i64 256) := by rw [← hW0]; simp
  have hszW : W0.heap.size = Bw + 4 := by rw [← hW0]; simp; omega
  have hbW : Below wB.heap.size wB W0 := by rw [← hW0]; exact ((Below.refl _ _).alloc (Nat.le_refl _) _).alloc (by simp) _
  rw [hW0]
  rw [hszB] at hs0 hs1
  have hvW := (hbW.block Bw (by omega)).trans hvB
  have hslW := hsl.later lasts_byte hbW
  have hB0 : Below w.heap.size w W0 := hbB.trans (hbW.mono (by omega))
  clear hwA hv0 hszA hbA hsl hvB hbB hbW hW0 hszB hcv hb1
  have HI0 := Lib.hid (show MoreAt w W0 W0 Bw (chunks l []) from ⟨⟨0, hvW⟩, KeepBut.refl _ _ _, hB0⟩)
  have HSL := Lib.hid hslW
  have HE : ∀ (s : List Nat) (W : World) (m : Nat), MoreAt w W0 W Bw (chunks l s) → MoreAt w W0 (W.drewN m) Bw (chunks l s) := fun s W m h => ⟨h.v, h.k.drewN m, below_drewN h.b m⟩
  have HE' := Lib.hid HE
  clear HE hvW hslW hB0
  refine wpIn_rangeFunc_ownF (F := Fence.wide) (n := 4) (P := Tryz.prog) rfl (by omega) (gf := 112) (lb := #[.pointer (some ⟨Bw + 1 + 1, 0, none⟩), .pointer (some ⟨Bw + 1 + 1 + 1, 0, none⟩)]) rfl trivial (enters_of Tryz.func112 (by kernel_rfl) rfl)
    (encs := fun x => #[chunkV (Bw + 1) 0 l.length x]) (Kp := KeepBut W0.heap.size Bw) (S := fun ys => ys = List.range ((l.length + 255) / 256)) (Sp := fun _ => True) (N := (l.length + 255) / 256) (w0 := W0)
    ?seq (fun h k => h.trans k) (fun W l o o' h1 _ _ _ => KeepBut.putObj (Nat.le_refl _) l o' h1) (Below.refl _ _) (fun _ => rfl)
    (fun pre W => MoreAt w W0 W Bw (chunks l pre)) (fun _ _ _ => False) (MoreAt.own w W0 Bw l (by omega) (by have := HB1.out.size; omega)) (fun _ _ _ _ _ hs _ _ => hs) HI0.out
    (fun x => { tmps := #[.int .u32 0, .string ⟨l.toArray⟩, undef, undef, .int .u32 0, .pointer (some ⟨Bw, 0, none⟩), chunkV (Bw + 1) 0 l.length x, .int .u32 0, .agg #[.int .u64 0, .int .u64 0, .int .u64 0], .string ⟨l.toArray⟩, .slice (some ⟨Bw + 1, 0, none⟩) l.length cap, .func (.func 112) #[] #[.pointer (some ⟨Bw + 1 + 1, 0, none⟩), .pointer (some ⟨Bw + 1 + 1 + 1, 0, none⟩)], chunkV (Bw + 1) 0 l.length x, undef, undef, undef, undef, undef, undef], defers := [] }) ?assign ?body ?done ?stop
  case seq =>
    intro y J Jx W hW hJ hJx hY h0
    have c0 := (hW.cell (p := ⟨Bw + 1 + 1, 0, none⟩) (by simp; omega)).trans hs0
    have c1 := (hW.cell (p := ⟨Bw + 1 + 1 + 1, 0, none⟩) (by simp; omega)).trans hs1
    refine (chunk1_in Fence.wide 3 trivial rfl (by omega) y (Bw + 1 + 1) (Bw + 1 + 1 + 1) W0.heap.size (Bw + 1) 0 l.length cap hcapg (by omega) (by omega) Bw ⟨by omega, by omega⟩ ⟨by omega, by omega⟩ J Jx hY
      (fun s A m h => hJ s A _ none h ⟨rfl, rfl, rfl, Nat.le_refl _, fun _ _ _ => rfl⟩ (fun r e => by cases e)) W c0 c1 h0).mono ?_
    rintro e W' ⟨he, h⟩
    exact ⟨he, h⟩
  case assign =>
    intro y x W K hK
    gi_wp2
    exact hK
  case body =>
    rintro y pre x W HM _
    obtain ⟨m, hv⟩ := HM.v
    obtain ⟨A0, hA0⟩ : ∃ A0, sumA (chunks l pre) % 65535 = A0 := ⟨_, rfl⟩
    obtain ⟨B0, hB0⟩ : ∃ B0, sumB (chunks l pre) % 65535 = B0 := ⟨_, rfl⟩
    rw [hA0, hB0] at hv
    have hc := Lib.cell_of_heap hv
    have hf := Lib.frozen_of_heap hv
    have e0 := hc 0; have e1 := hc 1; have e2 := hc 2; have f0 := hf 0; have f1 := hf 1; have f2 := hf 2
    simp at e0 e1 e2 f0 f1 f2
    clear hc hf hv
    have HM := Lib.hid HM
    have hmx : Tryz.prog.follows .mixedOrders = true := by kernel_rfl
    have hcs := (chunkL_sl (HM.out.sl HSL.out (by omega) (by omega)) x).later lasts_byte (Below.refl W.heap.size W).drew
    have hcl := chunkL_len l x
    unfold chunkV
    rw [← hcl] at hcs ⊢
    rw [Nat.zero_add] at hcs ⊢
    have hcl256 : (chunkL l x).length ≤ 256 := by rw [hcl]; omega
    obtain ⟨A1, hA1⟩ : ∃ A1, sumA (chunks l pre ++ chunkL l x) % 65535 = A1 := ⟨_, rfl⟩
    obtain ⟨B1, hB1⟩ : ∃ B1, sumB (chunks l pre ++ chunkL l x) % 65535 = B1 := ⟨_, rfl⟩
    have HBH := Lib.hid (behind_sum (chunks l pre) (chunkL l x) m hcl256 A0 B0 A1 B1 hA0 hB0 hA1 hB1)
    have HA1 := Lib.hid hA1
    have HB1' := Lib.hid hB1
    have HWG := Lib.hid (fun W' h => weigh_any (chunkL l x) (some ⟨Bw + 1, 256 * x, none⟩) (chunkL l x).length W' h hcl256)
    unfold wgt at HWG
    have HCS := Lib.hid hcs
    have hlt : Bw < W.heap.size := lt_of_cell e0
    clear hcs hcl hA0 hB0 hA1 hB1
    have HC := Lib.hid (chunks_snoc l pre x)
    generalize chunkL l x = c at *
    gi_wp2
    gi_region_with_o (first
      | (refine ⟨trivial, ?_⟩; gi_at_call 93; refine (CallsIn.inRound y (callsIn_wide.2 (HWG.out _ HCS.out))).mono ?_; rintro e w2 ⟨rfl, hb2⟩
         have k0 := (hb2.cell (p := ⟨Bw, 0, none⟩) hlt).trans e0
         have k1 := (hb2.cell (p := ⟨Bw, 1, none⟩) hlt).trans e1
         have k2 := (hb2.cell (p := ⟨Bw, 2, none⟩) hlt).trans e2
         have j0 := (hb2.frozen (p := ⟨Bw, 0, none⟩) hlt).trans f0
         have j1 := (hb2.frozen (p := ⟨Bw, 1, none⟩) hlt).trans f1
         have j2 := (hb2.frozen (p := ⟨Bw, 2, none⟩) hlt).trans f2
         have HB2 := Lib.hid hb2)
      | (refine ⟨trivial, ?_⟩; gi_at_call 92; refine (CallsIn.inRound y (callsIn_wide.2 (HBH.out _))).mono ?_; rintro e w3 ⟨rfl, hb3⟩
         have hlt2 : Bw < w2.heap.size := lt_of_cell k0
         have m0 := (hb3.cell (p := ⟨Bw, 0, none⟩) hlt2).trans k0
         have m1 := (hb3.cell (p := ⟨Bw, 1, none⟩) hlt2).trans k1
         have m2 := (hb3.cell (p := ⟨Bw, 2, none⟩) hlt2).trans k2
         have n0 := (hb3.frozen (p := ⟨Bw, 0, none⟩) hlt2).trans j0
         have n1 := (hb3.frozen (p := ⟨Bw, 1, none⟩) hlt2).trans j1
         have n2 := (hb3.frozen (p := ⟨Bw, 2, none⟩) hlt2).trans j2
         have HB3 := Lib.hid hb3))
    all_goals gi_wp2
    all_goals
      have := MoreAt.next HM.out hlt HB2.out HB3.out A1 B1 c.length HA1.out HB1'.out (by have := HB1.out.size; omega)
      rw [← HC.out] at this
      exact this
  case done =>
    rintro D ys W hD rfl HM hK
    obtain ⟨m, hv⟩ := HM.v
    have hmod : ∀ n : Nat, n % 65535 < 65535 := fun n => by omega
    rw [chunks_take, List.take_of_length_le (by omega)] at hv HM
    obtain ⟨A0, hA0⟩ : ∃ A0, sumA l % 65535 = A0 := ⟨_, rfl⟩
    obtain ⟨B0, hB0⟩ : ∃ B0, sumB l % 65535 = B0 := ⟨_, rfl⟩
    have hN : Hid (sumN l = 65536 * B0 + A0) := by unfold sumN; rw [hA0, hB0]; exact Lib.hid rfl
    rw [hA0, hB0] at hv
    have hc := Lib.cell_of_heap hv
    have e0 := hc 0; have e1 := hc 1; have e2 := hc 2
    simp at e0 e1 e2
    have HNB := Lib.hid (fun W' => number_any A0 B0 m W' (by rw [← hA0]; exact hmod _) (by rw [← hB0]; exact hmod _))
    unfold wgt at HNB
    have HM := Lib.hid HM
    have HD := Lib.hid hK
    clear hc hv hA0 hB0 hmod
    gi_wp2_with (refine ⟨trivial, ?_⟩; gi_at_call 94; refine (callsIn_wide.2 (HNB.out _)).mono ?_; rintro e w4 ⟨rfl, hb4⟩)
    have hK4 := (hb4.block D (lt_of_heap HD.out)).trans HD.out
    refine ⟨by simp, .inl ⟨_, _, rfl, run_takeDeferred hK4, ?_⟩⟩
    refine ⟨_, results_tmp rfl _ _ _, by rw [hN.out]; rfl, ?_⟩
    exact (HM.out.b.trans (hb4.mono HM.out.b.size)).trans (belowK_b (w := W0) (by have := HB1.out.size; omega) _ D _ _ hD hK4 rfl rfl)
  case stop =>
    rintro D c pre W _ _ h _
    exact h.elim

theorem sum_any (l : List UInt8) (w : World) (hl : l.length ≤ 140737488355328) :
    Calls Tryz.prog 38 #[.string ⟨l.toArray⟩] w fun e w' => e = .returned (.int .u32 ((sumN l : Nat) : Int)) ∧ Below w.heap.size w w' := by
  have HM := Lib.hid (more_any l w hl)
  have hlt := sumN_lt l
  generalize sumN l = n at *
  go_enter Tryz.func38, Tryz.ntmps38
  go_wp2_with fail
  refine HM.out.mono ?_
  rintro e w1 ⟨rfl, hb⟩
  go_wp2_with fail
  go_returns
  exact ⟨rfl, hb⟩
end Go.Proofs.YtofllhipjaphfaaGreatDoor
