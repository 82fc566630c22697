/- A visual editor takes a key (chapter 28). -/
import Derived.Test.YthhihondlihebaaGreatDoorVi8
import Derived.Test.YthhihondlihebaaGreatDoorConv
import Derived.Test.YthhihondlihebaaGreatDoorRgS
import Derived.Test.YthhihondlihebaaGreatDoorVi2
namespace Go.Proofs.YthhihondlihebaaGreatDoor
open Go Go.Proofs Go.RowKit Go.Ink Go.Sort

theorem conv_byte (w : World) (b : UInt8) :
    (Go.convert 80 9 (.slice (some ⟨w.heap.size, 0, none⟩) 1 1)).run Tryz.prog (w.alloc (.cells #[.int .u8 (b.toNat : Int)] 5)) =
      .ok (.string ⟨#[b]⟩) (w.alloc (.cells #[.int .u8 (b.toNat : Int)] 5)) := by
  refine SlOf.convert (l := [b]) (w := w.alloc (.cells #[.int .u8 (b.toNat : Int)] 5)) ⟨by simp, by unfold maxLen; omega, by simp, fun k c hk => ⟨w.heap.size, 0, .int .u8 (b.toNat : Int), rfl, ?_, ?_⟩⟩ Tryz.underlying80 Tryz.underlying5 Tryz.underlying9 (Below.refl _ _)
  · have hk0 : k = 0 := by have := (List.getElem?_eq_some_iff.1 hk).1; simp at this; exact this
    subst hk0
    rw [Lib.cell_of_heap (cs := #[.int .u8 (b.toNat : Int)]) (T := 5) (fr := (0, 0)) (by show (w.heap.push _)[w.heap.size]? = _; rw [Array.getElem?_push, if_pos rfl])]
    rfl
  · have hk0 : k = 0 := by have := (List.getElem?_eq_some_iff.1 hk).1; simp at this; exact this
    subst hk0
    simp only [List.getElem?_cons_zero, Option.some.injEq] at hk
    subst hk
    rfl
theorem conv_byteD (w : World) (b : UInt8) :
    (Go.convert 80 9 (.slice (some ⟨w.heap.size, 0, none⟩) 1 1)).run Tryz.prog (w.alloc (.cells #[.int .u8 (b.toNat : Int)] 5)).drew =
      .ok (.string ⟨#[b]⟩) (w.alloc (.cells #[.int .u8 (b.toNat : Int)] 5)).drew := by
  refine SlOf.convert (l := [b]) (w := w.alloc (.cells #[.int .u8 (b.toNat : Int)] 5)) ⟨by simp, by unfold maxLen; omega, by simp, fun k c hk => ⟨w.heap.size, 0, .int .u8 (b.toNat : Int), rfl, ?_, ?_⟩⟩ Tryz.underlying80 Tryz.underlying5 Tryz.underlying9 (Below.refl _ _).drew
  · have hk0 : k = 0 := by have := (List.getElem?_eq_some_iff.1 hk).1; simp at this; exact this
    subst hk0
    rw [Lib.cell_of_heap (cs := #[.int .u8 (b.toNat : Int)]) (T := 5) (fr := (0, 0)) (by show (w.heap.push _)[w.heap.size]? = _; rw [Array.getElem?_push, if_pos rfl])]
    rfl
  · have hk0 : k = 0 := by have := (List.getElem?_eq_some_iff.1 hk).1; simp at this; exact this
    subst hk0
    simp only [List.getElem?_cons_zero, Option.some.injEq] at hk
    subst hk
    rfl
section
variable {S : Nat → Prop} {w w' : World} {d : Nat} {v : Vis}
set_option maxRecDepth 100000 in
set_option maxHeartbeats 1000000 in
theorem visKey {b : UInt8} (hbK : b.toNat ∈ keyL) (hw : 4 ≤ w.heap.size) (h : VisB w d v) (hm : v.mode = 1) (hk : v.keys = []) (R : World → Value → World → Prop)
    (hR : ∀ X, KeepT (Only d) w X → VisB X d v → Calls Tryz.prog 37 #[.pointer (some ⟨d, 0, none⟩), keyV 0 0 (b.toNat : Int) 0 0] X fun e w' => ∃ sl, e = .returned (.tuple #[sl, .int .i64 0]) ∧ R X sl w') :
    Calls Tryz.prog 13 #[.pointer (some ⟨d, 0, none⟩), .int .u8 (b.toNat : Int)] w fun e w' => ∃ X sl, KeepT (Only d) w X ∧ VisB X d v ∧ e = .returned (.tuple #[sl, .string ⟨#[]⟩, .bool false, .int .i64 0]) ∧ R X sl w' := by
  have HNO := Lib.hid (visNone h)
  have h3 := h.at 3 rfl
  have h4 := h.at 4 rfl
  have g4 := h.fz 4
  rw [hm] at h3
  rw [hk] at h4
  have h4A := (h.later (below_alloc w (.cells #[.int .u8 (b.toNat : Int)] 5))).at 4 rfl
  have g4A := (h.later (below_alloc w (.cells #[.int .u8 (b.toNat : Int)] 5))).fz 4
  rw [hk] at h4A
  have hcv := fun w : World => conv_byteD w b
  have hb27 : ¬ (b.toNat : Int) = 27 := by simp [keyL] at hbK; omega
  go_enter Tryz.func13, Tryz.ntmps13
  go_wp2_with fail
  refine HNO.out.mono ?_
  rintro e w1 ⟨rfl, rfl⟩
  go_wp2_with fail
  go_region
  have hap : (⟨#[]⟩ : ByteArray) ++ ⟨#[b]⟩ = ⟨[b].toArray⟩ := mk_append [] [b]
  rw [hap]
  have hbA := below_alloc w1 (.cells #[.int .u8 (b.toNat : Int)] 5)
  have HVS := Lib.hid (show VisB (((w1.alloc (.cells #[.int .u8 (b.toNat : Int)] 5)).setCell ⟨d, 4, none⟩ (.string ⟨[b].toArray⟩)).drew) d { v with keys := [b] } from (h.later hbA).set4 [b])
  have HKS := Lib.hid (show KeepT (Only d) w1 (((w1.alloc (.cells #[.int .u8 (b.toNat : Int)] 5)).setCell ⟨d, 4, none⟩ (.string ⟨[b].toArray⟩)).drew) from (keepOnly (KeepT.of_below (S := Only d) hbA) rfl 4 _).drew)
  generalize (((w1.alloc (.cells #[.int .u8 (b.toNat : Int)] 5)).setCell ⟨d, 4, none⟩ (.string ⟨[b].toArray⟩)).drew) = wS at *
  have q4 : wS.cell? ⟨d, 4, none⟩ = some (.string ⟨#[b]⟩) := HVS.out.at 4 rfl
  have HPA := Lib.hid (keysParse_any hbK (w := wS) (Nat.le_trans hw HKS.out.size))
  rw [UInt8.ofNat_toNat] at HPA
  clear hbA h3 h4 g4 h4A g4A hcv hap
  go_wp2_with fail
  refine HPA.out.mono ?_
  rintro e w3 ⟨rfl, hb3⟩
  have HV3 := Lib.hid (HVS.out.later hb3)
  have HK3 := Lib.hid (HKS.out.trans (KeepT.of_below (S := Only d) hb3) (fun x _ hx => hx))
  clear hb3 q4
  unfold keyV
  go_upto_region 20 with fail
  have hbT := below_alloc w3 (.cells #[.int .u8 0, .int .i64 0, .int .u8 (b.toNat : Int), .int .u8 0, .int .u8 0] 72)
  have hKy := heap_alloc_at w3 (.cells #[.int .u8 0, .int .i64 0, .int .u8 (b.toNat : Int), .int .u8 0, .int .u8 0] 72)
  generalize w3.alloc (.cells #[.int .u8 0, .int .i64 0, .int .u8 (b.toNat : Int), .int .u8 0, .int .u8 0] 72) = wT at *
  have HVT := Lib.hid (HV3.out.later hbT)
  have HKT := Lib.hid (HK3.out.trans (KeepT.of_below (S := Only d) hbT) (fun x _ hx => hx))
  have HKY := Lib.hid hKy
  have HD3 := Lib.hid HV3.out.lt
  have f4 := HVT.out.at 4 rfl
  have i4 := HVT.out.fz 4
  clear hbT hKy
  go_upto_region 23 with fail
  have HVU := Lib.hid (show VisB (wT.setCell ⟨d, 4, none⟩ (.string ⟨#[]⟩)) d v from by
    have e := HVT.out.set4 []
    have : { ({ v with keys := [b] } : Vis) with keys := [] } = v := by cases v; simp only at hk; subst hk; rfl
    rw [this] at e
    exact e)
  have HKU := Lib.hid (show (wT.setCell ⟨d, 4, none⟩ (.string ⟨#[]⟩)).heap[w3.heap.size]? = some (.cells #[.int .u8 0, .int .i64 0, .int .u8 (b.toNat : Int), .int .u8 0, .int .u8 0] 72 (0, 0)) from (Below.heap_setCell _ _ _ _ (show w3.heap.size ≠ d by have := HD3.out; omega)).trans HKY.out)
  have HU := Lib.hid (keepOnly HKT.out (show Only d d from rfl) 4 (.string ⟨#[]⟩))
  generalize wT.setCell ⟨d, 4, none⟩ (.string ⟨#[]⟩) = wU at *
  have n0 : wU.cell? ⟨w3.heap.size, 0, none⟩ = some (.int .u8 0) := by rw [Lib.cell_of_heap HKU.out]; rfl
  have n1 : wU.cell? ⟨w3.heap.size, 1, none⟩ = some (.int .i64 0) := by rw [Lib.cell_of_heap HKU.out]; rfl
  have n2 : wU.cell? ⟨w3.heap.size, 2, none⟩ = some (.int .u8 (b.toNat : Int)) := by rw [Lib.cell_of_heap HKU.out]; rfl
  have n3 : wU.cell? ⟨w3.heap.size, 3, none⟩ = some (.int .u8 0) := by rw [Lib.cell_of_heap HKU.out]; rfl
  have n4 : wU.cell? ⟨w3.heap.size, 4, none⟩ = some (.int .u8 0) := by rw [Lib.cell_of_heap HKU.out]; rfl
  have HCM := Lib.hid (hR wU HU.out HVU.out)
  unfold keyV at HCM
  clear f4 i4
  go_wp2_with fail
  refine HCM.out.mono ?_
  rintro e w6 ⟨sl, rfl, hr⟩
  have HRR := Lib.hid hr
  clear hr
  go_wp2_with fail
  go_returns
  exact ⟨wU, sl, HU.out, HVU.out, rfl, HRR.out⟩
end
end Go.Proofs.YthhihondlihebaaGreatDoor
/- A visual editor enters a text (chapter 28). -/
namespace Go.Proofs.YthhihondlihebaaGreatDoor
open Go Go.Proofs Go.RowKit Go.Ink Go.Sort

section
variable {S : Nat → Prop} {w w' : World} {d : Nat} {v : Vis}
set_option maxRecDepth 100000 in
set_option maxHeartbeats 1000000 in
theorem visEnterI {t : Nat} {cur : Int} {last : List UInt8} {r : Nat} {dirty : Bool} {undo was held : Option Addr} {dn : Value} {ps : List (List Line)} (h : VisB w d v) (hc : CoreB w v.c t cur last r dirty undo was held dn) (ht : TabOf S w t ps) (hl : ps.length ≤ 100000) (hm : manyS ps ≤ 1000000) (hm1 : 1 ≤ manyS ps) :
    Calls Tryz.prog 120 #[.pointer (some ⟨d, 0, none⟩), keyV 0 0 105 0 0] w fun e w' => e = .returned (.int .i64 0) ∧ Below w.heap.size w w' := by
  have hbA := below_alloc w (.cells #[.int .u8 0, .int .i64 0, .int .u8 105, .int .u8 0, .int .u8 0] 72)
  have hkA := heap_alloc_at w (.cells #[.int .u8 0, .int .i64 0, .int .u8 105, .int .u8 0, .int .u8 0] 72)
  obtain ⟨wA, hwA⟩ : ∃ wA, w.alloc (.cells #[.int .u8 0, .int .i64 0, .int .u8 105, .int .u8 0, .int .u8 0] 72) = wA := ⟨_, rfl⟩
  rw [hwA] at hbA hkA
  have k0 : wA.cell? ⟨w.heap.size, 0, none⟩ = some (.int .u8 0) := by rw [Lib.cell_of_heap hkA]; rfl
  have k1 : wA.cell? ⟨w.heap.size, 1, none⟩ = some (.int .i64 0) := by rw [Lib.cell_of_heap hkA]; rfl
  have k2 : wA.cell? ⟨w.heap.size, 2, none⟩ = some (.int .u8 105) := by rw [Lib.cell_of_heap hkA]; rfl
  have k3 : wA.cell? ⟨w.heap.size, 3, none⟩ = some (.int .u8 0) := by rw [Lib.cell_of_heap hkA]; rfl
  have k4 : wA.cell? ⟨w.heap.size, 4, none⟩ = some (.int .u8 0) := by rw [Lib.cell_of_heap hkA]; rfl
  have HBA := Lib.hid hbA
  have hHA := h.later hbA
  have hCA := hc.later hbA
  have hTA := ht.later hbA
  have HNN := Lib.hid (coreN_of (⟨hCA.c0, hCA.c1, hTA, hl, hm⟩ : CoreOf S wA v.c t cur ps))
  have hd0 := hHA.at 0 rfl
  have hm0 : ¬ (manyS ps : Int) = 0 := by omega
  have hm0b : ((manyS ps : Int) == 0) = false := by rw [beq_eq_false_iff_ne]; exact hm0
  unfold keyV
  go_enter Tryz.func120, Tryz.ntmps120
  go_wp2_with fail
  refine HNN.out.mono ?_
  rintro e w1 ⟨rfl, rfl⟩
  go_wp2_with fail
  go_returns
  exact ⟨rfl, HBA.out⟩
set_option maxRecDepth 100000 in
set_option maxHeartbeats 1000000 in
theorem visEnterA {t : Nat} {cur : Int} {last : List UInt8} {r : Nat} {dirty : Bool} {undo was held : Option Addr} {dn : Value} {ps : List (List Line)} {n k : Nat} {x : Line} (hln : v.ln = ((n + 1 : Nat) : Int)) (hcol : v.col = (k : Int) - 1) (hk1 : 1 ≤ k) (hk : k ≤ x.length) (hxl : x.length ≤ 1000000) (hx : ps.flatten[n]? = some x) (h : VisB w d v) (hc : CoreB w v.c t cur last r dirty undo was held dn) (ht : TabOf S w t ps) (hl : ps.length ≤ 100000) (hm : manyS ps ≤ 1000000) (hm1 : 1 ≤ manyS ps) :
    Calls Tryz.prog 120 #[.pointer (some ⟨d, 0, none⟩), keyV 0 0 97 0 0] w fun e w' => e = .returned (.int .i64 0) ∧ VisB w' d { v with col := (k : Int) } ∧ KeepT (Only d) w w' := by
  have hbA := below_alloc w (.cells #[.int .u8 0, .int .i64 0, .int .u8 97, .int .u8 0, .int .u8 0] 72)
  have hkA := heap_alloc_at w (.cells #[.int .u8 0, .int .i64 0, .int .u8 97, .int .u8 0, .int .u8 0] 72)
  obtain ⟨wA, hwA⟩ : ∃ wA, w.alloc (.cells #[.int .u8 0, .int .i64 0, .int .u8 97, .int .u8 0, .int .u8 0] 72) = wA := ⟨_, rfl⟩
  rw [hwA] at hbA hkA
  have k0 : wA.cell? ⟨w.heap.size, 0, none⟩ = some (.int .u8 0) := by rw [Lib.cell_of_heap hkA]; rfl
  have k1 : wA.cell? ⟨w.heap.size, 1, none⟩ = some (.int .i64 0) := by rw [Lib.cell_of_heap hkA]; rfl
  have k2 : wA.cell? ⟨w.heap.size, 2, none⟩ = some (.int .u8 97) := by rw [Lib.cell_of_heap hkA]; rfl
  have k3 : wA.cell? ⟨w.heap.size, 3, none⟩ = some (.int .u8 0) := by rw [Lib.cell_of_heap hkA]; rfl
  have k4 : wA.cell? ⟨w.heap.size, 4, none⟩ = some (.int .u8 0) := by rw [Lib.cell_of_heap hkA]; rfl
  have HBA := Lib.hid hbA
  have hHA := h.later hbA
  have hCA := hc.later hbA
  have hTA := ht.later hbA
  have HNN := Lib.hid (coreN_of (⟨hCA.c0, hCA.c1, hTA, hl, hm⟩ : CoreOf S wA v.c t cur ps))
  have hd0 := hHA.at 0 rfl
  have hm0 : ¬ (manyS ps : Int) = 0 := by omega
  have hm0b : ((manyS ps : Int) == 0) = false := by rw [beq_eq_false_iff_ne]; exact hm0
  have HLN := Lib.hid (fun (X : World) (hb : Below wA.heap.size wA X) => visLine (v := v) (d := d) (t := t) (cur := cur) (ps := ps) (S := S) (hHA.later hb) ⟨(hCA.later hb).c0, (hCA.later hb).c1, hTA.later hb, hl, hm⟩ hln (by omega) hx)
  have HSV := Lib.hid (fun (X : World) (hb : Below wA.heap.size wA X) => (show X.cell? ⟨d, 2, none⟩ = some (.int .i64 ((k : Int) - 1)) from by rw [← hcol]; exact (hHA.later hb).at 2 rfl))
  have hz1 : wrap64 ((k : Int) - 1 + 1) = (k : Int) := by unfold wrap64; omega
  have hHW := hHA
  have HX := Lib.hid (Below.refl wA.heap.size wA)
  unfold keyV
  go_enter Tryz.func120, Tryz.ntmps120
  go_wp2_with fail
  refine HNN.out.mono ?_
  rintro e w1 ⟨rfl, rfl⟩
  go_upto_region 7 with fail
  refine wp_region_noPanic ?_
  refine wp_region_any (by kernel_rfl) ?_
  change wpAny _ _ _ _ _ _ _ w1.drew
  refine wpAny_parted_held 14 14 (Array.replicate 15 false) (fun w' => w'.cell? ⟨d, 2, none⟩ = some (.int .i64 ((k : Int) - 1))) (by kernel_rfl) (HSV.out _ HX.out.drew) (fun hHeld => ?_)
  simp only [List.take_succ_cons, List.take_zero, List.drop_succ_cons, List.drop_zero]
  refine wpAnyH_takeL (i := 0) (v := ?_) rfl (by kernel_rfl) (by kernel_rfl) (by kernel_rfl) (fun _ _ _ h => h) (Or.inl ⟨by rfl, ?_⟩) (by assumption) ?_
  rotate_left
  · intro w hSw
    (try dsimp only at hSw)
    go_simp
    (try with_reducible rfl)
  (try simp only [Act.put, List.setIfInBounds_toArray, List.set_cons_zero, List.set_cons_succ])
  refine wpAnyH_takeL (i := 1) (v := ?_) rfl (by kernel_rfl) (by kernel_rfl) (by kernel_rfl) (fun _ _ _ h => h) (Or.inl ⟨by rfl, ?_⟩) (by assumption) ?_
  rotate_left
  · intro w hSw
    (try dsimp only at hSw)
    go_simp
    (try with_reducible rfl)
  (try simp only [Act.put, List.setIfInBounds_toArray, List.set_cons_zero, List.set_cons_succ])
  refine wpAnyH_takeL (i := 2) (v := ?_) rfl (by kernel_rfl) (by kernel_rfl) (by kernel_rfl) (fun _ _ _ h => h) (Or.inl ⟨by rfl, ?_⟩) (by assumption) ?_
  rotate_left
  · intro w hSw
    (try dsimp only at hSw)
    go_simp
    (try with_reducible rfl)
  (try simp only [Act.put, List.setIfInBounds_toArray, List.set_cons_zero, List.set_cons_succ])
  refine wpAnyH_takeL (i := 3) (v := ?_) rfl (by kernel_rfl) (by kernel_rfl) (by kernel_rfl) (fun _ _ _ h => h) (Or.inl ⟨by rfl, ?_⟩) (by assumption) ?_
  rotate_left
  · intro w hSw
    (try dsimp only at hSw)
    go_simp
    (try with_reducible rfl)
  (try simp only [Act.put, List.setIfInBounds_toArray, List.set_cons_zero, List.set_cons_succ])
  refine wpAnyH_takeL (i := 4) (v := ?_) rfl (by kernel_rfl) (by kernel_rfl) (by kernel_rfl) (fun _ _ _ h => h) (Or.inl ⟨by rfl, ?_⟩) (by assumption) ?_
  rotate_left
  · intro w hSw
    (try dsimp only at hSw)
    go_simp
    (try with_reducible rfl)
  (try simp only [Act.put, List.setIfInBounds_toArray, List.set_cons_zero, List.set_cons_succ])
  refine wpAnyH_takeL (i := 5) (v := ?_) rfl (by kernel_rfl) (by kernel_rfl) (by kernel_rfl) (fun _ _ _ h => h) (Or.inl ⟨by rfl, ?_⟩) (by assumption) ?_
  rotate_left
  · intro w hSw
    (try dsimp only at hSw)
    go_simp
    (try with_reducible rfl)
  (try simp only [Act.put, List.setIfInBounds_toArray, List.set_cons_zero, List.set_cons_succ])
  refine wpAnyH_takeL (i := 6) (v := ?_) rfl (by kernel_rfl) (by kernel_rfl) (by kernel_rfl) (fun _ _ _ h => h) (Or.inl ⟨by rfl, ?_⟩) (by assumption) ?_
  rotate_left
  · intro w hSw
    (try dsimp only at hSw)
    go_simp
    (try with_reducible rfl)
  (try simp only [Act.put, List.setIfInBounds_toArray, List.set_cons_zero, List.set_cons_succ])
  refine wpAnyH_takeL (i := 7) (v := ?_) rfl (by kernel_rfl) (by kernel_rfl) (by kernel_rfl) (fun _ _ _ h => h) (Or.inl ⟨by rfl, ?_⟩) (by assumption) ?_
  rotate_left
  · intro w hSw
    (try dsimp only at hSw)
    go_simp
    (try with_reducible rfl)
  (try simp only [Act.put, List.setIfInBounds_toArray, List.set_cons_zero, List.set_cons_succ])
  refine wpAnyH_ready (rs := [8]) (by kernel_rfl) (by simp) ?_
  refine AllReadyH.consL rfl (fun K hK => ?_) ?_
  · go_simp
    (with_reducible refine (HLN.out _ HX.out.drew).mono ?_)
    rintro e w2 ⟨rfl, hbl⟩
    have HB2 := Lib.hid ((HX.out.drew).trans (hbl.mono (HX.out.drew).size))
    have hsz := size_mk x
    have hz2 : min ((k : Int)) (x.length : Int) = (k : Int) := by omega
    clear hbl
    refine hK.out _ _ ?_ (fun hHeld => ?_)
    · first | exact HSV.out _ HX.out.drew | exact HSV.out _ HB2.out
    clear hK K
    (try simp only [List.setIfInBounds_toArray])
    refine wpAnyH_takeL (i := 9) (v := ?_) rfl (by kernel_rfl) (by kernel_rfl) (by kernel_rfl) (fun _ _ _ h => h) (Or.inl ⟨by rfl, ?_⟩) (by assumption) ?_
    rotate_left
    · intro w hSw
      (try dsimp only at hSw)
      go_simp
      (try with_reducible rfl)
    (try simp only [Act.put, List.setIfInBounds_toArray, List.set_cons_zero, List.set_cons_succ])
    refine wpAnyH_takeL (i := 10) (v := ?_) rfl (by kernel_rfl) (by kernel_rfl) (by kernel_rfl) (fun _ _ _ h => h) (Or.inl ⟨by rfl, ?_⟩) (by assumption) ?_
    rotate_left
    · intro w hSw
      (try dsimp only at hSw)
      go_simp
      (try with_reducible rfl)
    (try simp only [Act.put, List.setIfInBounds_toArray, List.set_cons_zero, List.set_cons_succ])
    refine wpAnyH_takeL (i := 11) (v := ?_) rfl (by kernel_rfl) (by kernel_rfl) (by kernel_rfl) (fun _ _ _ h => h) (Or.inl ⟨by rfl, ?_⟩) (by assumption) ?_
    rotate_left
    · intro w hSw
      (try dsimp only at hSw)
      go_simp
      (try with_reducible rfl)
    (try simp only [Act.put, List.setIfInBounds_toArray, List.set_cons_zero, List.set_cons_succ])
    refine wpAnyH_takeL (i := 12) (v := ?_) rfl (by kernel_rfl) (by kernel_rfl) (by kernel_rfl) (fun _ _ _ h => h) (Or.inl ⟨by rfl, ?_⟩) (by assumption) ?_
    rotate_left
    · intro w hSw
      (try dsimp only at hSw)
      go_simp
      (try with_reducible rfl)
    (try simp only [Act.put, List.setIfInBounds_toArray, List.set_cons_zero, List.set_cons_succ])
    refine wpAnyH_takeL (i := 13) (v := ?_) rfl (by kernel_rfl) (by kernel_rfl) (by kernel_rfl) (fun _ _ _ h => h) (Or.inl ⟨by rfl, ?_⟩) (by assumption) ?_
    rotate_left
    · intro w hSw
      (try dsimp only at hSw)
      go_simp
      (try with_reducible rfl)
    (try simp only [Act.put, List.setIfInBounds_toArray, List.set_cons_zero, List.set_cons_succ])
    refine wpAnyH_done (by kernel_rfl) ?_ _
    have HV2 := Lib.hid (hHA.later HB2.out)
    have u2 := HV2.out.at 2 rfl
    have i2 := HV2.out.fz 2
    have HV3 := Lib.hid (HV2.out.set2 (k : Int))
    have HK3 := Lib.hid (keepOnly (KeepT.of_below (S := Only d) (HBA.out.trans (HB2.out.mono HBA.out.size))) (show Only d d from rfl) 2 (.int .i64 (k : Int)))
    change wpList _ _ _ _ _ _
    go_wp2_with fail
    refine NoPanic.normal ?_
    go_wp2_with fail
    go_returns
    rw [hz2]
    exact ⟨rfl, HV3.out, HK3.out⟩
  exact AllReadyH.nil
end
end Go.Proofs.YthhihondlihebaaGreatDoor
/- A visual editor begins a change in which text is inserted (chapter 28). -/
namespace Go.Proofs.YthhihondlihebaaGreatDoor
open Go Go.Proofs Go.RowKit Go.Ink Go.Sort

section
variable {S : Nat → Prop} {w w' : World} {d : Nat} {v : Vis}
set_option maxRecDepth 100000 in
set_option maxHeartbeats 1000000 in
theorem visChange {c n0 : Nat} (hw : 4 ≤ w.heap.size) (hI : ∀ X : World, 4 ≤ X.heap.size → Calls Tryz.prog 93 #[.string ⟨#[105, 73, 97, 65, 111, 79, 82]⟩, .int .u8 (c : Int)] X fun e w' => e = .returned (.int .i64 (n0 : Int)) ∧ Below X.heap.size X w') (R : World → Prop)
    (hE : ∀ X, Below w.heap.size w X → Calls Tryz.prog 120 #[.pointer (some ⟨d, 0, none⟩), keyV 0 0 (c : Int) 0 0] X fun e w' => e = .returned (.int .i64 0) ∧ R w') :
    Calls Tryz.prog 98 #[.pointer (some ⟨d, 0, none⟩), keyV 0 0 (c : Int) 0 0] w fun e w' => e = .returned (.tuple #[.bool true, .int .i64 0]) ∧ R w' := by
  have hbA := below_alloc w (.cells #[.int .u8 0, .int .i64 0, .int .u8 (c : Int), .int .u8 0, .int .u8 0] 72)
  have hkA := heap_alloc_at w (.cells #[.int .u8 0, .int .i64 0, .int .u8 (c : Int), .int .u8 0, .int .u8 0] 72)
  obtain ⟨wA, hwA⟩ : ∃ wA, w.alloc (.cells #[.int .u8 0, .int .i64 0, .int .u8 (c : Int), .int .u8 0, .int .u8 0] 72) = wA := ⟨_, rfl⟩
  rw [hwA] at hbA hkA
  have k0 : wA.cell? ⟨w.heap.size, 0, none⟩ = some (.int .u8 0) := by rw [Lib.cell_of_heap hkA]; rfl
  have k1 : wA.cell? ⟨w.heap.size, 1, none⟩ = some (.int .i64 0) := by rw [Lib.cell_of_heap hkA]; rfl
  have k2 : wA.cell? ⟨w.heap.size, 2, none⟩ = some (.int .u8 (c : Int)) := by rw [Lib.cell_of_heap hkA]; rfl
  have k3 : wA.cell? ⟨w.heap.size, 3, none⟩ = some (.int .u8 0) := by rw [Lib.cell_of_heap hkA]; rfl
  have k4 : wA.cell? ⟨w.heap.size, 4, none⟩ = some (.int .u8 0) := by rw [Lib.cell_of_heap hkA]; rfl
  have HBA := Lib.hid hbA
  have HKA := Lib.hid hkA
  have hn0 : (n0 : Int) ≥ 0 := by omega
  have hn0d : decide ((n0 : Int) ≥ 0) = true := by simp
  have HII := Lib.hid (hI wA (Nat.le_trans hw hbA.size))
  unfold keyV
  clear hbA hkA
  go_enter Tryz.func98, Tryz.ntmps98
  go_wp2_with fail
  refine HII.out.mono ?_
  rintro e w1 ⟨rfl, hb1⟩
  have hk1 := (hb1.block _ (lt_of_heap HKA.out)).trans HKA.out
  have m0 : w1.cell? ⟨w.heap.size, 0, none⟩ = some (.int .u8 0) := by rw [Lib.cell_of_heap hk1]; rfl
  have m1 : w1.cell? ⟨w.heap.size, 1, none⟩ = some (.int .i64 0) := by rw [Lib.cell_of_heap hk1]; rfl
  have m2 : w1.cell? ⟨w.heap.size, 2, none⟩ = some (.int .u8 (c : Int)) := by rw [Lib.cell_of_heap hk1]; rfl
  have m3 : w1.cell? ⟨w.heap.size, 3, none⟩ = some (.int .u8 0) := by rw [Lib.cell_of_heap hk1]; rfl
  have m4 : w1.cell? ⟨w.heap.size, 4, none⟩ = some (.int .u8 0) := by rw [Lib.cell_of_heap hk1]; rfl
  have HEN := Lib.hid (hE w1 (HBA.out.trans (hb1.mono HBA.out.size)))
  unfold keyV at HEN
  clear k0 k1 k2 k3 k4 hk1 hb1
  go_wp2_with fail
  refine HEN.out.mono ?_
  rintro e w2 ⟨rfl, hr⟩
  go_wp2_with fail
  go_returns
  exact ⟨rfl, hr⟩
theorem VisB.set14 (h : VisB w d v) (a : Int) : VisB (w.setCell ⟨d, 14, none⟩ (.int .u8 a)) d { v with dr := a } := (heap_set h _).trans rfl
theorem VisB.set15 (h : VisB w d v) (a : Int) : VisB (w.setCell ⟨d, 15, none⟩ (.int .i64 a)) d { v with dc := a } := (heap_set h _).trans rfl
theorem VisB.set16 (h : VisB w d v) (a : Int) : VisB (w.setCell ⟨d, 16, none⟩ (.int .u8 a)) d { v with dn := a } := (heap_set h _).trans rfl
theorem VisB.set17 (h : VisB w d v) (a : Int) : VisB (w.setCell ⟨d, 17, none⟩ (.int .u8 a)) d { v with dm := a } := (heap_set h _).trans rfl
theorem VisB.set18 (h : VisB w d v) (a : Int) : VisB (w.setCell ⟨d, 18, none⟩ (.int .u8 a)) d { v with dl := a } := (heap_set h _).trans rfl
set_option maxRecDepth 100000 in
set_option maxHeartbeats 8000000 in
theorem visBegin {c n0 n : Nat} {k : Int} (hc121 : (c : Int) ≠ 121) (hc89 : (c : Int) ≠ 89) (hc82 : (c : Int) ≠ 82) (hw : 4 ≤ w.heap.size) (hI : ∀ X : World, 4 ≤ X.heap.size → Calls Tryz.prog 93 #[.string ⟨#[105, 73, 97, 65, 111, 79, 82]⟩, .int .u8 (c : Int)] X fun e w' => e = .returned (.int .i64 (n0 : Int)) ∧ Below X.heap.size X w')
    {t : Nat} {cur : Int} {last : List UInt8} {r : Nat} {dirty : Bool} {undo : Option Addr} {dn : Value} {ps : List (List Line)} (h : VisB w d v) (hc : CoreB w v.c t cur last r dirty undo none none dn) (hr : NewRegs w r) (ht : TabOf S w t ps) (hl : ps.length ≤ 100000) (hm : manyS ps ≤ 1000000) (hln : v.ln = (n : Int) + 1) (hn : n < manyS ps) (hcd : v.c ≠ d) (hSc : S v.c) (hSd : S d)
    (hE : ∀ X s hh, VisB X d v → CoreB X v.c t cur last r dirty undo (some ⟨s, 0, none⟩) (some ⟨hh, 0, none⟩) (.slice none 0 0) → TabOf S X t ps → Calls Tryz.prog 120 #[.pointer (some ⟨d, 0, none⟩), keyV 0 0 (c : Int) 0 0] X fun e w' => e = .returned (.int .i64 0) ∧ VisB w' d { v with col := k } ∧ KeepT (Only d) X w') :
    Calls Tryz.prog 66 #[.pointer (some ⟨d, 0, none⟩), keyV 0 0 (c : Int) 0 0] w fun e w' => e = .returned (.tuple #[.slice none 0 0, .int .i64 0]) ∧ VisB w' d { v with ln := (n : Int) + 1, col := k, dr := 0, dc := 0, dn := (c : Int), dm := 0, dl := 0, text := [], mode := 2, fl := (n : Int) + 1, fc := k, done := [] } ∧ KeepT (TwoV v.c d) w w' ∧ ∃ s hh,
      CoreB w' v.c t ((n : Int) + 1) last r dirty undo (some ⟨s, 0, none⟩) (some ⟨hh, 0, none⟩) (.slice none 0 0) ∧ w.heap.size ≤ s ∧ w.heap.size ≤ hh := by
  have hbA := below_alloc w (.cells #[.int .u8 0, .int .i64 0, .int .u8 (c : Int), .int .u8 0, .int .u8 0] 72)
  have hkA := heap_alloc_at w (.cells #[.int .u8 0, .int .i64 0, .int .u8 (c : Int), .int .u8 0, .int .u8 0] 72)
  obtain ⟨wA, hwA⟩ : ∃ wA, w.alloc (.cells #[.int .u8 0, .int .i64 0, .int .u8 (c : Int), .int .u8 0, .int .u8 0] 72) = wA := ⟨_, rfl⟩
  rw [hwA] at hbA hkA
  have h1 := (h.later hbA).at 1 rfl
  have h2 := (h.later hbA).at 2 rfl
  have HBA := Lib.hid hbA
  have HKA := Lib.hid hkA
  have HVA := Lib.hid (h.later hbA)
  have HCA := Lib.hid (hc.later hbA)
  have HRA := Lib.hid (hr.later hbA)
  have HTA := Lib.hid (ht.later hbA)
  have HSIZ := Lib.hid hbA.size
  clear hbA hkA
  unfold keyV
  go_enter Tryz.func66, Tryz.ntmps66
  go_upto_region 2 with fail
  have hbP := below_alloc wA (.cells #[.int .i64 ((n : Int) + 1), .int .i64 v.col] 49)
  generalize wA.alloc (.cells #[.int .i64 ((n : Int) + 1), .int .i64 v.col] 49) = wP at *
  have HBP := Lib.hid (HBA.out.trans (hbP.mono HBA.out.size))
  have HVP := Lib.hid (HVA.out.later hbP)
  have HTP := Lib.hid (HTA.out.later hbP)
  have HKP := Lib.hid ((hbP.block _ (lt_of_heap HKA.out)).trans HKA.out)
  have HBG := Lib.hid (coreBegin_of (HCA.out.later hbP) (HRA.out.later hbP))
  have x0 := HVP.out.at 0 rfl
  have hcw := hc.lt
  have hdw := h.lt
  clear hbP h1 h2 HVA HCA HRA HTA HKA hc hr ht
  go_wp2_with fail
  refine HBG.out.mono ?_
  rintro e wB ⟨rfl, s, hh, hcb, -, -, hsl, hhl, hkb⟩
  have HSL := Lib.hid (show w.heap.size ≤ s ∧ w.heap.size ≤ hh from ⟨Nat.le_trans HBP.out.size hsl, Nat.le_trans HBP.out.size hhl⟩)
  have HVB := Lib.hid (HVP.out.kept hkb (by unfold Only; exact fun e => hcd e.symm))
  have HCB := Lib.hid hcb
  have HTB := Lib.hid (HTP.out.kept (hkb.mono (fun x _ hx => (show x = v.c from hx) ▸ hSc)))
  have HKB := Lib.hid ((hkb.block _ (lt_of_heap HKP.out) (by unfold Only; omega)).trans HKP.out)
  have HEB := Lib.hid ((KeepT.of_below (S := TwoV v.c d) HBP.out).trans hkb (fun x _ hx => .inl hx))
  have m0 : wB.cell? ⟨w.heap.size, 0, none⟩ = some (.int .u8 0) := by rw [Lib.cell_of_heap HKB.out]; rfl
  have m1 : wB.cell? ⟨w.heap.size, 1, none⟩ = some (.int .i64 0) := by rw [Lib.cell_of_heap HKB.out]; rfl
  have m2 : wB.cell? ⟨w.heap.size, 2, none⟩ = some (.int .u8 (c : Int)) := by rw [Lib.cell_of_heap HKB.out]; rfl
  have m3 : wB.cell? ⟨w.heap.size, 3, none⟩ = some (.int .u8 0) := by rw [Lib.cell_of_heap HKB.out]; rfl
  have m4 : wB.cell? ⟨w.heap.size, 4, none⟩ = some (.int .u8 0) := by rw [Lib.cell_of_heap HKB.out]; rfl
  have HCH := Lib.hid (visChange (d := d) (c := c) (n0 := n0) (Nat.le_trans hw HEB.out.size) hI (fun X => VisB X d { v with col := k } ∧ KeepT (Only d) wB X) (fun X hb => (hE X s hh (HVB.out.later hb) (HCB.out.later hb) (HTB.out.later hb)).mono (fun e w' hx => ⟨hx.1, hx.2.1, (KeepT.of_below (S := Only d) hb).trans hx.2.2 (fun x _ hx => hx)⟩)))
  unfold keyV at HCH
  clear hcb hkb hsl hhl x0 HBG
  go_wp2_with fail
  refine HCH.out.mono ?_
  rintro e wC ⟨rfl, hvc, hkc⟩
  have HVC := Lib.hid hvc
  have HCC := Lib.hid (HCB.out.kept hkc (by unfold Only; exact hcd))
  have HTC := Lib.hid (HTB.out.kept (hkc.mono (fun x _ hx => (show x = d from hx) ▸ hSd)))
  have HKC := Lib.hid ((hkc.block _ (lt_of_heap HKB.out) (by unfold Only; omega)).trans HKB.out)
  have HEC := Lib.hid (HEB.out.trans hkc (fun x _ hx => .inr hx))
  clear hvc hkc m0 m1 m2 m3 m4 HCH
  have m0 : wC.cell? ⟨w.heap.size, 0, none⟩ = some (.int .u8 0) := by rw [Lib.cell_of_heap HKC.out]; rfl
  have m1 : wC.cell? ⟨w.heap.size, 1, none⟩ = some (.int .i64 0) := by rw [Lib.cell_of_heap HKC.out]; rfl
  have m2 : wC.cell? ⟨w.heap.size, 2, none⟩ = some (.int .u8 (c : Int)) := by rw [Lib.cell_of_heap HKC.out]; rfl
  have m3 : wC.cell? ⟨w.heap.size, 3, none⟩ = some (.int .u8 0) := by rw [Lib.cell_of_heap HKC.out]; rfl
  have m4 : wC.cell? ⟨w.heap.size, 4, none⟩ = some (.int .u8 0) := by rw [Lib.cell_of_heap HKC.out]; rfl
  have ag := HVC.out.at 20 rfl
  have hd121 : ((c : Int) != 121) = true := bne_iff_ne.2 hc121
  have hd89 : ((c : Int) != 89) = true := bne_iff_ne.2 hc89
  go_upto_region 11 with fail
  have s0 := HVC.out
  have u14 := s0.at 14 rfl
  have g14 := s0.fz 14
  have s1 := s0.set14 0
  have u15 := s1.at 15 rfl
  have g15 := s1.fz 15
  have s2 := s1.set15 0
  have u16 := s2.at 16 rfl
  have g16 := s2.fz 16
  have s3 := s2.set16 (c : Int)
  have u17 := s3.at 17 rfl
  have g17 := s3.fz 17
  have s4 := s3.set17 0
  have u18 := s4.at 18 rfl
  have g18 := s4.fz 18
  have s5 := s4.set18 0
  have u19 := s5.at 19 rfl
  have g19 := s5.fz 19
  have HVD := Lib.hid (s5.set19 [])
  clear s0 s1 s2 s3 s4 s5
  go_upto_region 13 with fail
  have hkd : ∀ T : Nat → Prop, T d → KeepT T wC ((((((wC.setCell ⟨d, 14, none⟩ (.int .u8 0)).setCell ⟨d, 15, none⟩ (.int .i64 0)).setCell ⟨d, 16, none⟩ (.int .u8 (c : Int))).setCell ⟨d, 17, none⟩ (.int .u8 0)).setCell ⟨d, 18, none⟩ (.int .u8 0)).setCell ⟨d, 19, none⟩ (.string ⟨([] : List UInt8).toArray⟩)) := fun T hT => keepOnly (keepOnly (keepOnly (keepOnly (keepOnly (keepOnly (KeepT.refl T wC) hT 14 _) hT 15 _) hT 16 _) hT 17 _) hT 18 _) hT 19 _
  have HCD := Lib.hid (HCC.out.kept (hkd (Only d) rfl) (by unfold Only; exact hcd))
  have HTD := Lib.hid (HTC.out.kept (hkd S hSd))
  have hkd1 := hkd (Only d) rfl
  have HKD := Lib.hid ((hkd1.block _ (lt_of_heap HKC.out) (by unfold Only; omega)).trans HKC.out)
  have HED := Lib.hid (HEC.out.trans hkd1 (fun x _ hx => .inr hx))
  clear hkd hkd1 u14 u15 u16 u17 u18 u19 g14 g15 g16 g17 g18 g19 m0 m1 m2 m3 m4 ag
  generalize (((((wC.setCell _ _).setCell _ _).setCell _ _).setCell _ _).setCell _ _).setCell _ _ = wD at *
  have x0 := HVD.out.at 0 rfl
  have x1 := HVD.out.at 1 rfl
  rw [hln] at x1
  have hcv : (((n + 1 : Nat) : Int)) = (n : Int) + 1 := by omega
  have HGZ := Lib.hid (fun (X : World) (hb : Below wD.heap.size wD X) => coreGo_of (⟨(HCD.out.later hb).c0, (HCD.out.later hb).c1, HTD.out.later hb, hl, hm⟩ : CoreOf S X v.c t cur ps) (HCD.out.later hb) (n + 1) hn)
  rw [hcv] at HGZ
  have HX2 := Lib.hid (Below.refl wD.heap.size wD)
  have HCL := Lib.hid HCD.out.lt
  go_region_held3 (fun w' => w'.cell? ⟨d, 0, none⟩ = some (.pointer (some ⟨v.c, 0, none⟩)) ∧ w'.cell? ⟨d, 1, none⟩ = some (.int .i64 ((n : Int) + 1)))
    (first | exact ⟨x0, x1⟩ | exact ⟨y0, y1⟩ | go_keep)
    (first
      | ((with_reducible refine (HGZ.out _ HX2.out.drew).mono ?_); rintro e w4 ⟨rfl, hw4⟩
         have hk4 : KeepT (Only v.c) wD w4 := by rw [hw4]; exact keepOnly (S := Only v.c) (KeepT.of_below HX2.out.drew) (show Only v.c v.c from rfl) 1 _
         have HC4 := Lib.hid (show CoreB w4 v.c t ((n : Int) + 1) last r dirty undo (some ⟨s, 0, none⟩) (some ⟨hh, 0, none⟩) (.slice none 0 0) from by rw [hw4]; exact (HCD.out.later HX2.out.drew).set1 ((n : Int) + 1))
         have HV4 := Lib.hid (HVD.out.kept hk4 (by unfold Only; exact fun e => hcd e.symm))
         have HE4 := Lib.hid (HED.out.trans hk4 (fun x _ hx => .inl hx))
         have HK4 := Lib.hid ((hk4.block _ (lt_of_heap HKD.out) (by unfold Only; omega)).trans HKD.out)
         have y0 := HV4.out.at 0 rfl
         have y1 := HV4.out.at 1 rfl
         rw [hln] at y1
         clear hw4 hk4)
      | (fail "no arm"))
  have y2 := HV4.out.at 2 rfl
  have r0 := HV4.out
  have u3 := r0.at 3 rfl
  have g3 := r0.fz 3
  have r1 := r0.set3 2
  have u6 := r1.at 6 rfl
  have g6 := r1.fz 6
  have r2 := r1.set6 ((n : Int) + 1)
  have u7 := r2.at 7 rfl
  have g7 := r2.fz 7
  have r3 := r2.set7 k
  have u8 := r3.at 8 rfl
  have g8 := r3.fz 8
  have HV5 := Lib.hid (r3.set8 [])
  clear r0 r1 r2 r3
  go_upto_region 15 with fail
  have hke : ∀ T : Nat → Prop, T d → KeepT T w4 ((((w4.setCell ⟨d, 3, none⟩ (.int .i64 2)).setCell ⟨d, 6, none⟩ (.int .i64 ((n : Int) + 1))).setCell ⟨d, 7, none⟩ (.int .i64 k)).setCell ⟨d, 8, none⟩ (.string ⟨([] : List UInt8).toArray⟩)) := fun T hT => keepOnly (keepOnly (keepOnly (keepOnly (KeepT.refl T w4) hT 3 _) hT 6 _) hT 7 _) hT 8 _
  have HC5 := Lib.hid (HC4.out.kept (hke (Only d) rfl) (by unfold Only; exact hcd))
  have hke1 := hke (Only d) rfl
  have HK5 := Lib.hid ((hke1.block _ (lt_of_heap HK4.out) (by unfold Only; omega)).trans HK4.out)
  have HE5 := Lib.hid (HE4.out.trans hke1 (fun x _ hx => .inr hx))
  clear hke hke1 u3 u6 u7 u8 g3 g6 g7 g8 x0 x1 y0 y1 y2
  generalize (((w4.setCell _ _).setCell _ _).setCell _ _).setCell _ _ = w5 at *
  have m0 : w5.cell? ⟨w.heap.size, 0, none⟩ = some (.int .u8 0) := by rw [Lib.cell_of_heap HK5.out]; rfl
  have m1 : w5.cell? ⟨w.heap.size, 1, none⟩ = some (.int .i64 0) := by rw [Lib.cell_of_heap HK5.out]; rfl
  have m2 : w5.cell? ⟨w.heap.size, 2, none⟩ = some (.int .u8 (c : Int)) := by rw [Lib.cell_of_heap HK5.out]; rfl
  have m3 : w5.cell? ⟨w.heap.size, 3, none⟩ = some (.int .u8 0) := by rw [Lib.cell_of_heap HK5.out]; rfl
  have m4 : w5.cell? ⟨w.heap.size, 4, none⟩ = some (.int .u8 0) := by rw [Lib.cell_of_heap HK5.out]; rfl
  have hd82 : ((c : Int) == 82) = false := by rw [beq_eq_false_iff_ne]; exact hc82
  go_wp2_with fail
  go_returns
  exact ⟨rfl, by have e := HV5.out; rw [hln] at e; exact e, HE5.out, s, hh, HC5.out, HSL.out.1, HSL.out.2⟩
end
end Go.Proofs.YthhihondlihebaaGreatDoor
/- A visual editor's command that begins an insertion (chapter 28). -/
namespace Go.Proofs.YthhihondlihebaaGreatDoor
open Go Go.Proofs Go.RowKit Go.Ink Go.Sort

section
variable {S : Nat → Prop} {w w' : World} {d : Nat} {v : Vis}
set_option maxRecDepth 100000 in
set_option maxHeartbeats 1000000 in
theorem visCmdIns {c : Nat} (hcK : c ∈ keyL) (hmot : isMot c = false) (hw : 4 ≤ w.heap.size) (R : World → Prop)
    (hB : ∀ X, Below w.heap.size w X → Calls Tryz.prog 66 #[.pointer (some ⟨d, 0, none⟩), keyV 0 0 (c : Int) 0 0] X fun e w' => e = .returned (.tuple #[.slice none 0 0, .int .i64 0]) ∧ R w') :
    Calls Tryz.prog 37 #[.pointer (some ⟨d, 0, none⟩), keyV 0 0 (c : Int) 0 0] w fun e w' => e = .returned (.tuple #[.slice none 0 0, .int .i64 0]) ∧ R w' := by
  have hbA := below_alloc w (.cells #[.int .u8 0, .int .i64 0, .int .u8 (c : Int), .int .u8 0, .int .u8 0] 72)
  have hkA := heap_alloc_at w (.cells #[.int .u8 0, .int .i64 0, .int .u8 (c : Int), .int .u8 0, .int .u8 0] 72)
  obtain ⟨wA, hwA⟩ : ∃ wA, w.alloc (.cells #[.int .u8 0, .int .i64 0, .int .u8 (c : Int), .int .u8 0, .int .u8 0] 72) = wA := ⟨_, rfl⟩
  rw [hwA] at hbA hkA
  have k0 : wA.cell? ⟨w.heap.size, 0, none⟩ = some (.int .u8 0) := by rw [Lib.cell_of_heap hkA]; rfl
  have k1 : wA.cell? ⟨w.heap.size, 1, none⟩ = some (.int .i64 0) := by rw [Lib.cell_of_heap hkA]; rfl
  have k2 : wA.cell? ⟨w.heap.size, 2, none⟩ = some (.int .u8 (c : Int)) := by rw [Lib.cell_of_heap hkA]; rfl
  have k3 : wA.cell? ⟨w.heap.size, 3, none⟩ = some (.int .u8 0) := by rw [Lib.cell_of_heap hkA]; rfl
  have k4 : wA.cell? ⟨w.heap.size, 4, none⟩ = some (.int .u8 0) := by rw [Lib.cell_of_heap hkA]; rfl
  have HBA := Lib.hid hbA
  have HKA := Lib.hid hkA
  have e12 : ¬ (c : Int) = 12 := by simp [keyL, isMot] at hcK hmot; omega
  have b12 : ((c : Int) == 12) = false := by rw [beq_eq_false_iff_ne]; exact e12
  have e109 : ¬ (c : Int) = 109 := by simp [keyL, isMot] at hcK hmot; omega
  have b109 : ((c : Int) == 109) = false := by rw [beq_eq_false_iff_ne]; exact e109
  have e117 : ¬ (c : Int) = 117 := by simp [keyL, isMot] at hcK hmot; omega
  have b117 : ((c : Int) == 117) = false := by rw [beq_eq_false_iff_ne]; exact e117
  have e58 : ¬ (c : Int) = 58 := by simp [keyL, isMot] at hcK hmot; omega
  have b58 : ((c : Int) == 58) = false := by rw [beq_eq_false_iff_ne]; exact e58
  have e47 : ¬ (c : Int) = 47 := by simp [keyL, isMot] at hcK hmot; omega
  have b47 : ((c : Int) == 47) = false := by rw [beq_eq_false_iff_ne]; exact e47
  have e63 : ¬ (c : Int) = 63 := by simp [keyL, isMot] at hcK hmot; omega
  have b63 : ((c : Int) == 63) = false := by rw [beq_eq_false_iff_ne]; exact e63
  have e46 : ¬ (c : Int) = 46 := by simp [keyL, isMot] at hcK hmot; omega
  have b46 : ((c : Int) == 46) = false := by rw [beq_eq_false_iff_ne]; exact e46
  unfold keyV
  clear hbA hkA
  go_enter Tryz.func37, Tryz.ntmps37
  go_wp2_with fail
  refine (keysMotion_any hcK (Nat.le_trans hw HBA.out.size)).mono ?_
  rw [hmot]
  rintro e w1 ⟨rfl, hb1⟩
  have hk1 := (hb1.block _ (lt_of_heap HKA.out)).trans HKA.out
  have m0 : w1.cell? ⟨w.heap.size, 0, none⟩ = some (.int .u8 0) := by rw [Lib.cell_of_heap hk1]; rfl
  have m1 : w1.cell? ⟨w.heap.size, 1, none⟩ = some (.int .i64 0) := by rw [Lib.cell_of_heap hk1]; rfl
  have m2 : w1.cell? ⟨w.heap.size, 2, none⟩ = some (.int .u8 (c : Int)) := by rw [Lib.cell_of_heap hk1]; rfl
  have m3 : w1.cell? ⟨w.heap.size, 3, none⟩ = some (.int .u8 0) := by rw [Lib.cell_of_heap hk1]; rfl
  have m4 : w1.cell? ⟨w.heap.size, 4, none⟩ = some (.int .u8 0) := by rw [Lib.cell_of_heap hk1]; rfl
  have HBE := Lib.hid (hB w1 (HBA.out.trans (hb1.mono HBA.out.size)))
  unfold keyV at HBE
  clear k0 k1 k2 k3 k4 hk1 hb1
  go_wp2_with fail
  refine HBE.out.mono ?_
  rintro e w2 ⟨rfl, hr⟩
  go_wp2_with fail
  go_returns
  exact ⟨rfl, hr⟩
end
end Go.Proofs.YthhihondlihebaaGreatDoor
