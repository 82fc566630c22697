/- addr: what an address by number says; what a range of numbers says. -/
import Derived.Test.YtlcjjcmfpmflcaaGreatDoorCo1
import Derived.Test.YtlcjjcmfpmflcaaGreatDoorLawM
import Derived.Deep.RegionHeld3
set_option linter.unusedVariables false
set_option linter.unusedSimpArgs false
namespace Go.Proofs.YtlcjjcmfpmflcaaGreatDoor
open Go Go.Proofs Go.RowKit Go.Ink Go.Sort

theorem addrSemi_none (w : World) (li : Value) (k : Nat) : Calls Tryz.prog 152 #[.agg #[li, .slice none 0 0], .int .i64 (k : Int)] w fun e w' => e = .returned (.bool false) ∧ Below w.heap.size w w' := by
  have hk : ¬ (k : Int) < 0 := by omega
  go_enter Tryz.func152, Tryz.ntmps152
  go_wp2_with fail
  go_returns
  exact ⟨rfl, (Below.refl _ _).alloc (Nat.le_refl _) _⟩
theorem addrSemi_one (w : World) (li : Value) (k b : Nat) (hb : w.cell? ⟨b, 0, none⟩ = some (.bool false)) : Calls Tryz.prog 152 #[.agg #[li, .slice (some ⟨b, 0, none⟩) 1 1], .int .i64 (k : Int)] w fun e w' => e = .returned (.bool false) ∧ Below w.heap.size w w' := by
  by_cases hk : k = 0
  · subst hk
    have hb' : ∀ o, (w.alloc o).cell? ⟨b, 0, none⟩ = some (.bool false) := fun o => ((below_alloc w o).cell (p := ⟨b, 0, none⟩) (lt_of_cell hb)).trans hb
    go_enter Tryz.func152, Tryz.ntmps152
    go_wp2_with fail
    go_returns
    exact ⟨rfl, (Below.refl _ _).alloc (Nat.le_refl _) _⟩
  · have hk : ¬ (k : Int) < 1 := by omega
    go_enter Tryz.func152, Tryz.ntmps152
    go_wp2_with fail
    go_returns
    exact ⟨rfl, (Below.refl _ _).alloc (Nat.le_refl _) _⟩
theorem run_max4 (w : World) (ts : Array TypeId) (t : TypeId) (a b c d : Int) : (Builtin.max_ ts t #[.int .i64 a, .int .i64 b, .int .i64 c, .int .i64 d]).run Tryz.prog w = .ok (.int .i64 (max (max (max a b) c) d)) w := by
  have e : ∀ x y : Int, (if y > x then y else x) = max x y := fun x y => by
    rw [Int.max_def]
    split <;> split <;> omega
  simp [Builtin.max_, Builtin.max2, e]
/-- An address by number, as a value. -/
def numV (i : Nat) : Value := .agg #[.int .i64 3, .int .i64 (i : Int), .string ⟨#[]⟩, .int .i64 0]
theorem addrValue_num (w : World) (v i n cap : Nat) (la : Option Addr) (hv : w.cell? ⟨v, 0, none⟩ = some (.slice la n cap)) (hi : i ≤ n) (hn : n ≤ 1000000) :
    Calls Tryz.prog 151 #[.pointer (some ⟨v, 0, none⟩), numV i] w fun e w' => e = .returned (.tuple #[.int .i64 (i : Int), .int .i64 0]) ∧ Below w.heap.size w w' := by
  have hv' : ∀ o, (w.alloc o).cell? ⟨v, 0, none⟩ = some (.slice la n cap) := fun o => ((below_alloc w o).cell (p := ⟨v, 0, none⟩) (lt_of_cell hv)).trans hv
  have hneg : IntKind.i64.wrap (-(i : Int)) = -(i : Int) := IntWalk.i64_in _ (by omega)
  have hadd : IntKind.i64.wrap ((i : Int) + 0) = (i : Int) := by rw [Int.add_zero]; exact IntWalk.i64_in _ (by omega)
  have hmx : max (max (max (i : Int) (-(i : Int))) 0) 0 = (i : Int) := by omega
  have hfar : ¬ (1099511627776 : Int) < (i : Int) := by omega
  have hmn : min (i : Int) 0 = 0 := by omega
  have hr4 := fun (X : World) ts t => run_max4 X ts t (i : Int) (-(i : Int)) 0 0
  rw [hmx] at hr4
  have h0 : ¬ (i : Int) < 0 := by omega
  have hin : ¬ (n : Int) < (i : Int) := by omega
  unfold numV
  go_enter Tryz.func151, Tryz.ntmps151
  go_wp2_with fail
  go_returns
  exact ⟨rfl, (Below.refl _ _).alloc (Nat.le_refl _) _⟩
/-- The first and the second of the last two numbers among the first k. -/
def evA (ns : List Nat) : Nat → Nat
  | 0 => 0
  | 1 => ns.getD 0 0
  | k + 2 => ns.getD k 0
def evB (ns : List Nat) : Nat → Nat
  | 0 => 0
  | k + 1 => ns.getD k 0
/-- A row of addresses by number. -/
def NumRow (w : World) (b : Nat) (ns : List Nat) : Prop := ∀ (k : Nat) i, ns[k]? = some i → w.cell? ⟨b, k * 4, none⟩ = some (.int .i64 3) ∧ w.cell? ⟨b, k * 4 + 1, none⟩ = some (.int .i64 (i : Int)) ∧ w.cell? ⟨b, k * 4 + 2, none⟩ = some (.string ⟨#[]⟩) ∧ w.cell? ⟨b, k * 4 + 3, none⟩ = some (.int .i64 0)
theorem NumRow.later {w w' : World} {b : Nat} {ns : List Nat} (h : NumRow w b ns) (hb : Below w.heap.size w w') : NumRow w' b ns := fun k i hk => by
  obtain ⟨h0, h1, h2, h3⟩ := h k i hk
  exact ⟨(hb.cell (p := ⟨b, k * 4, none⟩) (lt_of_cell h0)).trans h0, (hb.cell (p := ⟨b, k * 4 + 1, none⟩) (lt_of_cell h1)).trans h1, (hb.cell (p := ⟨b, k * 4 + 2, none⟩) (lt_of_cell h2)).trans h2, (hb.cell (p := ⟨b, k * 4 + 3, none⟩) (lt_of_cell h3)).trans h3⟩
/-- Semicolons: none of them is one. -/
def NoSemi (w : World) (sv : Value) : Prop := sv = .slice none 0 0 ∨ ∃ b, sv = .slice (some ⟨b, 0, none⟩) 1 1 ∧ w.cell? ⟨b, 0, none⟩ = some (.bool false)
theorem NoSemi.later {w w' : World} {sv : Value} (h : NoSemi w sv) (hb : Below w.heap.size w w') : NoSemi w' sv := by
  rcases h with h | ⟨b, h, hc⟩
  · exact .inl h
  · exact .inr ⟨b, h, (hb.cell (p := ⟨b, 0, none⟩) (lt_of_cell hc)).trans hc⟩
theorem addrSemi_any (w : World) (li sv : Value) (k : Nat) (h : NoSemi w sv) : Calls Tryz.prog 152 #[.agg #[li, sv], .int .i64 (k : Int)] w fun e w' => e = .returned (.bool false) ∧ Below w.heap.size w w' := by
  rcases h with rfl | ⟨b, rfl, hc⟩
  · exact addrSemi_none w li k
  · exact addrSemi_one w li k b hc
theorem evA_next (ns : List Nat) (k : Nat) (i : Nat) (h : ns[k]? = some i) : evB ns (k + 1) = i ∧ evA ns (k + 1) = (if k = 0 then i else evB ns k) := by
  have hi : ns.getD k 0 = i := by rw [List.getD_eq_getElem?_getD, h]; rfl
  match k, hi with
  | 0, hi => exact ⟨hi, hi⟩
  | k + 1, hi => exact ⟨hi, rfl⟩
set_option maxRecDepth 100000 in
set_option maxHeartbeats 1000000 in
theorem addrEval_nums (w : World) (vc : List Value) (la : Option Addr) (n lcap b cap : Nat) (ns : List Nat) (sv : Value) (last : List UInt8) (h0 : vc[0]? = some (.slice la n lcap)) (h28 : vc[28]? = some (.string ⟨last.toArray⟩)) (hr : NumRow w b ns) (hsv : NoSemi w sv) (_hcap : ns.length ≤ cap) (hcm : cap ≤ maxLen)
    (hlen : ns.length ≤ 1000) (hin : ∀ i ∈ ns, i ≤ n) (hn : n ≤ 1000000) (hab : evA ns ns.length ≤ evB ns ns.length) (hpos : 1 ≤ ns.length) :
    Calls Tryz.prog 127 #[.agg vc.toArray, .agg #[.slice (some ⟨b, 0, none⟩) ns.length cap, sv]] w fun e w' => e = .returned (.tuple #[.int .i64 (evA ns ns.length : Int), .int .i64 (evB ns ns.length : Int), .int .i64 (min ns.length 2 : Nat), .string ⟨last.toArray⟩, .int .i64 0]) ∧ Below w.heap.size w w' := by
  have hcm' : cap ≤ 9223372036854775807 := hcm
  have hsv1 : sv.oneCell' = true := by rcases hsv with rfl | ⟨_, rfl, _⟩ <;> rfl
  go_enter Tryz.func127, Tryz.ntmps127
  go_wp2_with fail
  generalize hwB : (w.alloc _).alloc _ = wB
  have HB := Lib.hid (show Below w.heap.size w wB from hwB ▸ ((below_alloc w _).alloc (by simp) _))
  have HV0 := Lib.hid (show wB.heap[w.heap.size]? = some (.cells vc.toArray 184 (0, 0)) from hwB ▸ ((Below.heap_alloc _ _ _ (by simp)).trans (heap_alloc_at w _)))
  have HR0 := Lib.hid (show wB.heap[w.heap.size + 1]? = some (.cells #[.slice (some ⟨b, 0, none⟩) ns.length cap, sv] 47 (0, 0)) from hwB ▸ (by
    have h := heap_alloc_at (w.alloc (.cells vc.toArray 184)) (.cells #[.slice (some ⟨b, 0, none⟩) ns.length cap, sv] 47)
    rw [show (w.alloc (.cells vc.toArray 184)).heap.size = w.heap.size + 1 by simp] at h
    exact h))
  clear hwB
  have v0 : wB.cell? ⟨w.heap.size, 0, none⟩ = some (.slice la n lcap) := by rw [Lib.cell_of_heap HV0.out]; simpa using h0
  have v28 : wB.cell? ⟨w.heap.size, 28, none⟩ = some (.string ⟨last.toArray⟩) := by rw [Lib.cell_of_heap HV0.out]; simpa using h28
  have r0 : wB.cell? ⟨w.heap.size + 1, 0, none⟩ = some (.slice (some ⟨b, 0, none⟩) ns.length cap) := by rw [Lib.cell_of_heap HR0.out]; rfl
  have r1 : wB.cell? ⟨w.heap.size + 1, 1, none⟩ = some sv := by rw [Lib.cell_of_heap HR0.out]; rfl
  have HNR := Lib.hid (hr.later HB.out)
  have HSV := Lib.hid (hsv.later HB.out)
  have HIN := Lib.hid hin
  have HAB := Lib.hid hab
  clear hr hsv hin hab
  go_loopw [4, 5, 16] (fun av bv iv wr => ∃ k : Nat, iv = .int .i64 k ∧ av = .int .i64 (evA ns k : Int) ∧ bv = .int .i64 (evB ns k : Int) ∧ k ≤ ns.length ∧ Hid (Below wB.heap.size wB wr)) (fun _ _ iv _ => ns.length - (intOf iv).toNat)
  case atStart => exact ⟨0, rfl, rfl, rfl, by omega, Lib.hid (Below.refl _ _)⟩
  case round =>
    obtain ⟨k, rfl, rfl, rfl, hk, HX⟩ := hrel
    by_cases hlt : k < ns.length
    · obtain ⟨i, hki⟩ : ∃ i, ns[k]? = some i := ⟨_, List.getElem?_eq_getElem hlt⟩
      obtain ⟨k0, k1, k2, k3⟩ := (HNR.out.later HX.out) k i hki
      have hi : i ≤ n := HIN.out i (List.mem_of_getElem? hki)
      have HNX := Lib.hid (evA_next ns k i hki)
      clear hki
      generalize evA ns k = A at *
      obtain ⟨B, hB⟩ : ∃ B, B = evB ns k := ⟨_, rfl⟩
      rw [← hB] at HNX ⊢
      clear hB
      have r0' := (HX.out.cell (p := ⟨w.heap.size + 1, 0, none⟩) (lt_of_cell r0)).trans r0
      have r1' := (HX.out.cell (p := ⟨w.heap.size + 1, 1, none⟩) (lt_of_cell r1)).trans r1
      by_cases hk0 : k = 0
      · subst hk0
        go_wp2_with fail
        have HA := Lib.hid (HX.out.alloc HX.out.size (.cells #[.int .i64 3, .int .i64 (i : Int), .string ⟨#[]⟩, .int .i64 0] 49))
        refine (addrValue_num _ w.heap.size i n lcap la ((HA.out.cell (p := ⟨w.heap.size, 0, none⟩) (lt_of_cell v0)).trans v0) hi hn).mono ?_
        rintro e w1 ⟨rfl, hb1⟩
        have HB1 := Lib.hid (HA.out.trans (hb1.mono HA.out.size))
        have q0 := (HB1.out.cell (p := ⟨w.heap.size + 1, 0, none⟩) (lt_of_cell r0)).trans r0
        have q1 := (HB1.out.cell (p := ⟨w.heap.size + 1, 1, none⟩) (lt_of_cell r1)).trans r1
        clear hb1
        go_wp2_with fail
        refine (addrSemi_any w1 (.slice (some ⟨b, 0, none⟩) ns.length cap) sv 0 (HSV.out.later HB1.out)).mono ?_
        rintro e w2 ⟨rfl, hb2⟩
        have HB2 := Lib.hid (HB1.out.trans (hb2.mono HB1.out.size))
        clear hb2
        go_wp2_with fail
        go_roundw
        case rel => exact ⟨0 + 1, by go_num, by rw [HNX.out.2, if_pos trivial], by rw [HNX.out.1], by omega, HB2⟩
        case measure => simp [intOf]; omega
      · have hk1 : ¬ (k : Int) = 0 := by omega
        have hkb : ((k : Int) == 0) = false := by rw [beq_eq_false_iff_ne]; exact hk1
        go_wp2_with fail
        have HA := Lib.hid (HX.out.alloc HX.out.size (.cells #[.int .i64 3, .int .i64 (i : Int), .string ⟨#[]⟩, .int .i64 0] 49))
        refine (addrValue_num _ w.heap.size i n lcap la ((HA.out.cell (p := ⟨w.heap.size, 0, none⟩) (lt_of_cell v0)).trans v0) hi hn).mono ?_
        rintro e w1 ⟨rfl, hb1⟩
        have HB1 := Lib.hid (HA.out.trans (hb1.mono HA.out.size))
        have q0 := (HB1.out.cell (p := ⟨w.heap.size + 1, 0, none⟩) (lt_of_cell r0)).trans r0
        have q1 := (HB1.out.cell (p := ⟨w.heap.size + 1, 1, none⟩) (lt_of_cell r1)).trans r1
        clear hb1
        go_wp2_with fail
        refine (addrSemi_any w1 (.slice (some ⟨b, 0, none⟩) ns.length cap) sv k (HSV.out.later HB1.out)).mono ?_
        rintro e w2 ⟨rfl, hb2⟩
        have HB2 := Lib.hid (HB1.out.trans (hb2.mono HB1.out.size))
        clear hb2
        go_wp2_with fail
        go_roundw
        case rel => exact ⟨k + 1, by go_num, by rw [HNX.out.2, if_neg hk0], by rw [HNX.out.1], by omega, HB2⟩
        case measure => simp [intOf]; omega
    · have hkl : k = ns.length := by omega
      subst hkl
      have hab : ¬ ((evB ns ns.length : Nat) : Int) < (evA ns ns.length : Int) := by have := HAB.out; omega
      have q0 := (HX.out.cell (p := ⟨w.heap.size + 1, 0, none⟩) (lt_of_cell r0)).trans r0
      have q28 := (HX.out.cell (p := ⟨w.heap.size, 28, none⟩) (lt_of_cell v28)).trans v28
      have hmn : min (ns.length : Int) 2 = ((min ns.length 2 : Nat) : Int) := by omega
      have HBZ := Lib.hid (HB.out.trans (HX.out.mono HB.out.size))
      obtain ⟨A, hA⟩ : ∃ A, A = evA ns ns.length := ⟨_, rfl⟩
      obtain ⟨B, hB⟩ : ∃ B, B = evB ns ns.length := ⟨_, rfl⟩
      have HAE := Lib.hid hA
      have HBE := Lib.hid hB
      rw [← hA, ← hB] at hab
      rw [← hA, ← hB]
      clear hA hB
      go_wp2_with fail
      go_region_held3 (fun w' => w'.cell? ⟨w.heap.size + 1, 0, none⟩ = some (.slice (some ⟨b, 0, none⟩) ns.length cap) ∧ w'.cell? ⟨w.heap.size, 28, none⟩ = some (.string ⟨last.toArray⟩))
        (first | exact ⟨q0, q28⟩ | go_keep)
        (fail "no arm")
      go_wp2_with fail
      go_returns
      rw [← HAE.out, ← HBE.out]
      exact ⟨rfl, HBZ.out.drew⟩
end Go.Proofs.YtlcjjcmfpmflcaaGreatDoor
