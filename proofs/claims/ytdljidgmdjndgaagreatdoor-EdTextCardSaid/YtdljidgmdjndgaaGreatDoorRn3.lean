/- runs: a part of a change done. -/
import Derived.Test.YtdljidgmdjndgaaGreatDoorAd1
namespace Go.Proofs.YtdljidgmdjndgaaGreatDoor
open Go Go.Proofs Go.RowKit Go.Ink Go.Sort

/-- The variable of what was done. -/
def DidB (w : World) (dp : Nat) (dv : Value) : Prop := w.heap[dp]? = some (.cells #[dv] 32 (0, 0))
/-- What a part of a change turns. -/
def Turn (c dp : Nat) (dn dv : Value) (j : Nat) : Prop := j = c ∨ j = dp ∨ dn.ownBlock = some j ∨ dv.ownBlock = some j
section
variable {S : Nat → Prop} {w w' : World} {rb c t : Nat} {lv sv : Value} {d dp : Nat} {a b n : Int} {r : Nat} {dirty : Bool} {undo held : Option Addr} {was : Addr} {dn dv : Value} {ps : List (List Line)}
set_option maxRecDepth 100000 in
set_option maxHeartbeats 2000000 in
theorem runSplice_ok {k p dl m mv : Nat} {ins : List Line} {ai : Option Addr} {ci : Nat} (hw : 6 ≤ w.heap.size) (h : RunB w rb c lv sv d a b n dp) (hc : CoreB w c t (k : Int) [] r dirty undo (some was) held dn) (ht : TabOf S w t ps) (hd : DoneOf w dn m) (hv : DidB w dp dv) (hdv : DoneOf w dv mv) (hi : SlOf IsStr w ai ci ins)
    (hS : ∀ j, S j → j < w.heap.size) (hSc : S c) (hSp : S dp) (hdS : ∀ g, dn.ownBlock = some g → S g) (hvS : ∀ g, dv.ownBlock = some g → S g) (hdd : ∀ g, dn.ownBlock = some g → dv.ownBlock ≠ some g) (hcr : c ≠ rb)
    (hps : ps.length ≤ 40000) (hk : k ≤ manyS ps) (hM : manyS ps ≤ 2000) (hm : m ≤ 1000) (hmv : mv ≤ 1000) (hE : tabErr (manyS ps) ⟨(p : Int), (dl : Int), ins⟩ = 0) :
    Calls Tryz.prog 154 #[.pointer (some ⟨rb, 0, none⟩), .int .i64 (p : Int), .int .i64 (dl : Int), .slice ai ins.length ci] w fun e w' => e = .returned (.int .i64 0) ∧ ∃ t' g cp g2 cp2,
      RunB w' rb c lv sv d a b n dp ∧ CoreB w' c t' (curS k p dl ins.length (manyS (tabSpl ps ⟨p, dl, ins⟩)) : Int) [] r dirty undo (some was) held (.slice (some ⟨g, 0, none⟩) (m + 1) cp) ∧ DoneOf w' (.slice (some ⟨g, 0, none⟩) (m + 1) cp) (m + 1) ∧
      DidB w' dp (.slice (some ⟨g2, 0, none⟩) (mv + 1) cp2) ∧ DoneOf w' (.slice (some ⟨g2, 0, none⟩) (mv + 1) cp2) (mv + 1) ∧
      TabOf (fun j => (S j ∨ j = g) ∨ j = g2) w' t' (tabSpl ps ⟨p, dl, ins⟩) ∧ (dn.ownBlock = some g ∨ w.heap.size ≤ g) ∧ (dv.ownBlock = some g2 ∨ w.heap.size ≤ g2) ∧ g ≠ g2 ∧ g < w'.heap.size ∧ g2 < w'.heap.size ∧ KeepT (Turn c dp dn dv) w w' := by
  have HA := Lib.hid (below_alloc w (.cells #[.int .i64 (p : Int), .int .i64 (dl : Int), .slice ai ins.length ci] 158))
  have HBX := Lib.hid (heap_alloc_at w (.cells #[.int .i64 (p : Int), .int .i64 (dl : Int), .slice ai ins.length ci] 158))
  have HR := Lib.hid h
  have HC := Lib.hid hc
  have HD := Lib.hid hd
  have HV := Lib.hid hv
  have HDV := Lib.hid hdv
  have HSP := Lib.hid (fun (X : World) (hb : Below w.heap.size w X) => coreSplice_of (S := S) (w := X) (Nat.le_trans hw hb.size) (hc.later hb) (ht.later hb) (hd.later hb) (hi.later lasts_str hb) (fun j hj => Nat.lt_of_lt_of_le (hS j hj) hb.size) hSc hdS hps hk hM hm hE)
  clear h hc hd hv hdv hi
  go_enter Tryz.func154, Tryz.ntmps154
  go_wp2_with fail
  generalize hwA : w.alloc _ = wA
  rw [hwA] at HA HBX
  clear hwA
  have HRA := Lib.hid (HR.out.later HA.out)
  have e0 := HRA.out.c0
  have b0 := Lib.cell_of_heap HBX.out 0
  have b1 := Lib.cell_of_heap HBX.out 1
  have b2 := Lib.cell_of_heap HBX.out 2
  simp only [List.getElem?_toArray, List.getElem?_cons_succ, List.getElem?_cons_zero] at b0 b1 b2
  have HX := Lib.hid (Below.refl wA.heap.size wA)
  have hcw : c < w.heap.size := HC.out.lt
  have hdlt : ∀ g, dn.ownBlock = some g → g < w.heap.size := fun g hg => hS g (hdS g hg)
  have HRR := Lib.hid (show ∀ (X Y : World), KeepT (fun j => j = c ∨ dn.ownBlock = some j) X Y → Below wA.heap.size wA X → RunB Y rb c lv sv d a b n dp from fun X Y hk hb => (HRA.out.later hb).kept hk (by
    rintro (h | h)
    · exact hcr h.symm
    · obtain ⟨cs, fr, hh⟩ := HD.out.kind h
      have := HR.out
      unfold RunB at this
      rw [hh] at this
      simp only [Option.some.injEq, Obj.cells.injEq] at this
      exact absurd this.2.1 (by decide)))
  have HRX := Lib.hid (show ∀ (X Y : World), KeepT (fun j => j = c ∨ dn.ownBlock = some j) X Y → Below wA.heap.size wA X → Y.heap[w.heap.size]? = some (.cells #[.int .i64 (p : Int), .int .i64 (dl : Int), .slice ai ins.length ci] 158 (0, 0)) from fun X Y hk hb =>
    (hk.block _ (lt_of_heap ((hb.block _ (lt_of_heap HBX.out)).trans HBX.out)) (by
      rintro (h | h)
      · omega
      · have := hdlt _ h; omega)).trans ((hb.block _ (lt_of_heap HBX.out)).trans HBX.out))
  go_region_held3 (fun w' => w'.cell? ⟨rb, 0, none⟩ = some (.pointer (some ⟨c, 0, none⟩)) ∧ w'.cell? ⟨w.heap.size, 0, none⟩ = some (.int .i64 (p : Int)) ∧ w'.cell? ⟨w.heap.size, 1, none⟩ = some (.int .i64 (dl : Int)) ∧ w'.cell? ⟨w.heap.size, 2, none⟩ = some (.slice ai ins.length ci))
    (first | exact ⟨e0, b0, b1, b2⟩ | exact ⟨q0, q1, q2, q3⟩ | go_keep)
    (first
      | ((with_reducible refine (HSP.out _ (HA.out.drew)).mono ?_); rintro e w2 ⟨rfl, t', g, cp, hC2, hD2, hT2, hat, hlt, hk2⟩
         have HC2 := Lib.hid hC2
         have HD2 := Lib.hid hD2
         have HT2 := Lib.hid hT2
         have HAT := Lib.hid hat
         have HLT := Lib.hid hlt
         have HK2 := Lib.hid hk2
         have HR2 := Lib.hid (HRR.out _ _ hk2 HX.out.drew)
         have HX2 := Lib.hid (HRX.out _ _ hk2 HX.out.drew)
         have q0 := HR2.out.c0
         have q1 : w2.cell? ⟨w.heap.size, 0, none⟩ = some (.int .i64 (p : Int)) := by rw [Lib.cell_of_heap HX2.out]; rfl
         have q2 : w2.cell? ⟨w.heap.size, 1, none⟩ = some (.int .i64 (dl : Int)) := by rw [Lib.cell_of_heap HX2.out]; rfl
         have q3 : w2.cell? ⟨w.heap.size, 2, none⟩ = some (.slice ai ins.length ci) := by rw [Lib.cell_of_heap HX2.out]; rfl
         clear hC2 hD2 hT2 hat hlt hk2)
      | (fail "no arm"))
  clear e0 b0 b1 b2 q0 q1 q2 q3
  go_wp2_with fail
  have HV2 := Lib.hid (show DidB w2 dp dv from (HK2.out.block dp (lt_of_heap ((HA.out.drew.block _ (lt_of_heap HV.out)).trans HV.out)) (by
    have hvv := HV.out
    unfold DidB at hvv
    rintro (h | h)
    · have := HC.out
      unfold CoreB at this
      rw [h] at hvv
      rw [hvv] at this
      simp only [Option.some.injEq, Obj.cells.injEq] at this
      exact absurd this.2.1 (by decide)
    · obtain ⟨cs, fr, hh⟩ := HD.out.kind h
      rw [hh] at hvv
      simp only [Option.some.injEq, Obj.cells.injEq] at hvv
      exact absurd hvv.2.1 (by decide))).trans ((HA.out.drew.block _ (lt_of_heap HV.out)).trans HV.out))
  have HDV2 := Lib.hid ((HDV.out.later HA.out.drew).kept HK2.out (fun g' hg' hh => by
    rcases hh with hh | hh
    · obtain ⟨cs, fr, h1⟩ := HDV.out.kind hg'
      have := HC.out
      unfold CoreB at this
      rw [hh] at h1
      rw [h1] at this
      simp only [Option.some.injEq, Obj.cells.injEq] at this
      exact absurd this.2.1 (by decide)
    · exact hdd g' hh hg'))
  obtain ⟨Dv, hDv⟩ : ∃ Dv : Nat → Prop, Dv = fun j => dv.ownBlock = some j := ⟨_, rfl⟩
  have HKD := Lib.hid (show ∀ j, Dv j → ∃ cs fr, w2.heap[j]? = some (.cells cs 158 fr) from fun j hj => HDV2.out.kind (by rw [hDv] at hj; exact hj))
  have HNP := Lib.hid (show ¬ Dv dp from fun hj => by
    obtain ⟨cs, fr, h1⟩ := HKD.out _ hj
    have := HV2.out
    unfold DidB at this
    rw [h1] at this
    simp only [Option.some.injEq, Obj.cells.injEq] at this
    exact absurd this.2.1 (by decide))
  have HNR := Lib.hid (show ¬ Dv rb from fun hj => by
    obtain ⟨cs, fr, h1⟩ := HKD.out _ hj
    have := HR2.out
    unfold RunB at this
    rw [h1] at this
    simp only [Option.some.injEq, Obj.cells.injEq] at this
    exact absurd this.2.1 (by decide))
  have HNC := Lib.hid (show ¬ Dv c from fun hj => by
    obtain ⟨cs, fr, h1⟩ := HKD.out _ hj
    have := HC2.out
    unfold CoreB at this
    rw [h1] at this
    simp only [Option.some.injEq, Obj.cells.injEq] at this
    exact absurd this.2.1 (by decide))
  have HNX := Lib.hid (show ¬ Dv w.heap.size from fun hj => by
    rw [hDv] at hj
    have := hS _ (hvS _ hj)
    omega)
  have HNG := Lib.hid (show ¬ Dv g from fun hj => by
    rw [hDv] at hj
    rcases HAT.out with h | h
    · exact hdd _ h hj
    · have := hS _ (hvS _ hj)
      have := HA.out.size
      have h' : wA.heap.size ≤ g := h
      omega)
  have HS4 := Lib.hid (fun (X : World) (hk : KeepT Dv w2 X) => (show X.cell? ⟨rb, 22, none⟩ = some (.pointer (some ⟨dp, 0, none⟩)) ∧ X.cell? ⟨dp, 0, none⟩ = some dv ∧ X.cell? ⟨w.heap.size, 0, none⟩ = some (.int .i64 (p : Int)) ∧ X.cell? ⟨w.heap.size, 1, none⟩ = some (.int .i64 (dl : Int)) ∧ X.cell? ⟨w.heap.size, 2, none⟩ = some (.slice ai ins.length ci) from by
    have hx := (hk.block _ (lt_of_heap HX2.out) HNX.out).trans HX2.out
    have hv := (hk.block _ (lt_of_heap HV2.out) HNP.out).trans HV2.out
    refine ⟨(HR2.out.kept hk HNR.out).c22, by rw [Lib.cell_of_heap hv]; rfl, ?_, ?_, ?_⟩ <;> (rw [Lib.cell_of_heap hx]; rfl)))
  have HKG := Lib.hid (fun (X Y : World) (h : KeepT Dv w2 X) (hg : X.grownBy Y dv.ownBlock) => h.grown hg (fun k hk => .inl (by rw [hDv]; exact hk)))
  have HAL := Lib.hid (fun (X : World) (g : Nat) (h : KeepT Dv w2 X) (hat : dv.ownBlock = some g ∨ g = X.heap.size) => (show dv.ownBlock = some g ∨ w2.heap.size ≤ g from by
    rcases hat with h' | h'
    · exact .inl h'
    · right; rw [h']; exact h.size))
  have HK := Lib.hid (KeepT.refl Dv w2)
  refine wp_region_noPanic ?_
  refine wp_region_any (by kernel_rfl) ?_
  change wpAny _ _ _ _ _ _ _ w2.drew
  refine wpAny_parted_held 13 13 (Array.replicate 15 false) (fun w' => w'.cell? ⟨rb, 22, none⟩ = some (.pointer (some ⟨dp, 0, none⟩)) ∧ w'.cell? ⟨dp, 0, none⟩ = some dv ∧ w'.cell? ⟨w.heap.size, 0, none⟩ = some (.int .i64 (p : Int)) ∧ w'.cell? ⟨w.heap.size, 1, none⟩ = some (.int .i64 (dl : Int)) ∧ w'.cell? ⟨w.heap.size, 2, none⟩ = some (.slice ai ins.length ci)) (by kernel_rfl) (HS4.out _ HK.out.drew) (fun hHeld => ?_)
  simp only [List.take_succ_cons, List.take_zero, List.drop_succ_cons, List.drop_zero]
  refine wpAnyH_takeL (i := 0) (v := ?_) rfl (by kernel_rfl) (by kernel_rfl) (by kernel_rfl) (fun _ _ _ h => h) (Or.inl ⟨by rfl, ?_⟩) (by assumption) ?_
  rotate_left
  · intro w hSw
    (try dsimp only at hSw)
    go_simp
    (try with_reducible rfl)
  (try simp only [Act.put, List.setIfInBounds_toArray, List.set_cons_zero, List.set_cons_succ])
  refine wpAnyH_takeL (i := 1) (v := ?_) rfl (by kernel_rfl) (by kernel_rfl) (by kernel_rfl) (fun _ _ _ h => h) (Or.inl ⟨by rfl, ?_⟩) (by assumption) ?_
  rotate_left
  · intro w hSw
    (try dsimp only at hSw)
    go_simp
    (try with_reducible rfl)
  (try simp only [Act.put, List.setIfInBounds_toArray, List.set_cons_zero, List.set_cons_succ])
  refine wpAnyH_takeL (i := 2) (v := ?_) rfl (by kernel_rfl) (by kernel_rfl) (by kernel_rfl) (fun _ _ _ h => h) (Or.inl ⟨by rfl, ?_⟩) (by assumption) ?_
  rotate_left
  · intro w hSw
    (try dsimp only at hSw)
    go_simp
    (try with_reducible rfl)
  (try simp only [Act.put, List.setIfInBounds_toArray, List.set_cons_zero, List.set_cons_succ])
  refine wpAnyH_takeL (i := 3) (v := ?_) rfl (by kernel_rfl) (by kernel_rfl) (by kernel_rfl) (fun _ _ _ h => h) (Or.inl ⟨by rfl, ?_⟩) (by assumption) ?_
  rotate_left
  · intro w hSw
    (try dsimp only at hSw)
    go_simp
    (try with_reducible rfl)
  (try simp only [Act.put, List.setIfInBounds_toArray, List.set_cons_zero, List.set_cons_succ])
  refine wpAnyH_takeL (i := 4) (v := ?_) rfl (by kernel_rfl) (by kernel_rfl) (by kernel_rfl) (fun _ _ _ h => h) (Or.inl ⟨by rfl, ?_⟩) (by assumption) ?_
  rotate_left
  · intro w hSw
    (try dsimp only at hSw)
    go_simp
    (try with_reducible rfl)
  (try simp only [Act.put, List.setIfInBounds_toArray, List.set_cons_zero, List.set_cons_succ])
  refine wpAnyH_takeL (i := 5) (v := ?_) rfl (by kernel_rfl) (by kernel_rfl) (by kernel_rfl) (fun _ _ _ h => h) (Or.inl ⟨by rfl, ?_⟩) (by assumption) ?_
  rotate_left
  · intro w hSw
    (try dsimp only at hSw)
    go_simp
    (try with_reducible rfl)
  (try simp only [Act.put, List.setIfInBounds_toArray, List.set_cons_zero, List.set_cons_succ])
  refine wpAnyH_takeL (i := 6) (v := ?_) rfl (by kernel_rfl) (by kernel_rfl) (by kernel_rfl) (fun _ _ _ h => h) (Or.inl ⟨by rfl, ?_⟩) (by assumption) ?_
  rotate_left
  · intro w hSw
    (try dsimp only at hSw)
    go_simp
    (try with_reducible rfl)
  (try simp only [Act.put, List.setIfInBounds_toArray, List.set_cons_zero, List.set_cons_succ])
  refine wpAnyH_takeL (i := 7) (v := ?_) rfl (by kernel_rfl) (by kernel_rfl) (by kernel_rfl) (fun _ _ _ h => h) (Or.inl ⟨by rfl, ?_⟩) (by assumption) ?_
  rotate_left
  · intro w hSw
    (try dsimp only at hSw)
    go_simp
    (try with_reducible rfl)
  (try simp only [Act.put, List.setIfInBounds_toArray, List.set_cons_zero, List.set_cons_succ])
  refine wpAnyH_takeL (i := 8) (v := ?_) rfl (by kernel_rfl) (by kernel_rfl) (by kernel_rfl) (fun _ _ _ h => h) (Or.inl ⟨by rfl, ?_⟩) (by assumption) ?_
  rotate_left
  · intro w hSw
    (try dsimp only at hSw)
    go_simp
    (try with_reducible rfl)
  (try simp only [Act.put, List.setIfInBounds_toArray, List.set_cons_zero, List.set_cons_succ])
  refine wpAnyH_takeL (i := 9) (v := ?_) rfl (by kernel_rfl) (by kernel_rfl) (by kernel_rfl) (fun _ _ _ h => h) (Or.inl ⟨by rfl, ?_⟩) (by assumption) ?_
  rotate_left
  · intro w hSw
    (try dsimp only at hSw)
    go_simp
    (try with_reducible rfl)
  (try simp only [Act.put, List.setIfInBounds_toArray, List.set_cons_zero, List.set_cons_succ])
  refine wpAnyH_takeL (i := 10) (v := ?_) rfl (by kernel_rfl) (by kernel_rfl) (by kernel_rfl) (fun _ _ _ h => h) (Or.inl ⟨by rfl, ?_⟩) (by assumption) ?_
  rotate_left
  · intro w hSw
    (try dsimp only at hSw)
    go_simp
    (try with_reducible rfl)
  (try simp only [Act.put, List.setIfInBounds_toArray, List.set_cons_zero, List.set_cons_succ])
  refine wpAnyH_ready (rs := [11]) (by kernel_rfl) (by simp) ?_
  refine AllReadyH.consL rfl (fun K hK => ?_) ?_
  · go_simp
    refine hK.out _ _ ?_ (fun hHeld => ?_)
    · first | exact HS4.out _ HK.out | exact HS4.out _ HK.out.drew | exact HS4.out _ (HK.out.alloc _) | exact HS4.out _ (HK.out.drew.alloc _) | exact HS4.out _ (HK.out.alloc _).drew
    clear hK K
    (try simp only [List.setIfInBounds_toArray])
    refine wpAnyH_ready (rs := [12]) (by kernel_rfl) (by simp) ?_
    refine AllReadyH.consL rfl (fun K hK => ?_) ?_
    · refine step_append_done rfl (.tmp 32) (.tmp 34) rfl dv mv rfl (by first | exact HDV2.out.later (Below.refl w2.heap.size w2).drew | exact HDV2.out.later ((Below.refl w2.heap.size w2).drew.alloc (Nat.le_refl _) _) | exact HDV2.out.later ((Below.refl w2.heap.size w2).alloc (Nat.le_refl _) _).drew) _ rfl _ _ _ 158 (by first | exact heap_alloc_at _ _ | exact heap_alloc_drew _ _) rfl rfl rfl (by omega) ?_
      intro g2 cp2 w6 hd6 hg6 hat hlt
      have HD6 := Lib.hid hd6
      have HLT2 := Lib.hid hlt
      have HAT2 := Lib.hid (HAL.out _ g2 (by first | exact HK.out | exact HK.out.drew | exact HK.out.alloc _ | exact HK.out.drew.alloc _ | exact (HK.out.alloc _).drew) hat)
      have HK := Lib.hid (show KeepT Dv w2 w6 by first | exact HKG.out _ _ HK.out hg6 | exact HKG.out _ _ HK.out.drew hg6 | exact HKG.out _ _ (HK.out.alloc _) hg6 | exact HKG.out _ _ (HK.out.drew.alloc _) hg6 | exact HKG.out _ _ (HK.out.alloc _).drew hg6)
      clear hd6 hg6 hat hlt
      refine hK.out _ _ ?_ (fun hHeld => ?_)
      · first | exact HS4.out _ HK.out | exact HS4.out _ HK.out.drew | exact HS4.out _ (HK.out.alloc _) | exact HS4.out _ (HK.out.drew.alloc _) | exact HS4.out _ (HK.out.alloc _).drew
      clear hK K
      (try simp only [Act.put, List.setIfInBounds_toArray, List.set_cons_zero, List.set_cons_succ])
      refine wpAnyH_done (by kernel_rfl) ?_ _
      have HV6 := Lib.hid (show DidB w6 dp dv from (HK.out.block dp (lt_of_heap HV2.out) HNP.out).trans HV2.out)
      have ed : w6.cell? ⟨dp, 0, none⟩ = some dv := by rw [Lib.cell_of_heap HV6.out]; rfl
      have fd : w6.frozen? ⟨dp, 0, none⟩ = false := Lib.frozen_of_heap HV6.out 0
      change wpList _ _ _ _ _ _
      go_wp2_with fail
      refine NoPanic.normal ?_
      go_wp2_with fail
      go_returns
      have HNE := Lib.hid (show rb ≠ dp from fun h => by
        have h1 := HR2.out
        have h2 := HV2.out
        unfold RunB at h1
        unfold DidB at h2
        rw [h] at h1
        rw [h1] at h2
        simp only [Option.some.injEq, Obj.cells.injEq] at h2
        exact absurd h2.2.1 (by decide))
      have HNE2 := Lib.hid (show c ≠ dp from fun h => by
        have h1 := HC2.out
        have h2 := HV2.out
        unfold CoreB at h1
        unfold DidB at h2
        rw [h] at h1
        rw [h1] at h2
        simp only [Option.some.injEq, Obj.cells.injEq] at h2
        exact absurd h2.2.1 (by decide))
      have HKI := Lib.hid (show ∀ (X : World) (v : Value) (m g : Nat), DoneOf X v m → X.heap[dp]? = some (.cells #[dv] 32 (0, 0)) → v.ownBlock = some g → g ≠ dp from fun X v m g h1 h2 h3 h4 => by
        obtain ⟨cs, fr, h5⟩ := h1.kind h3
        rw [h4] at h5
        rw [h5] at h2
        simp only [Option.some.injEq, Obj.cells.injEq] at h2
        exact absurd h2.2.1 (by decide))
      have kF : KeepT (fun j => j = dp ∨ Dv j) w2 (w6.setCell ⟨dp, 0, none⟩ (.slice (some ⟨g2, 0, none⟩) (mv + 1) cp2)) := keepIn (.inl rfl) (HK.out.mono (fun j _ hj => .inr hj)) 0 _
      refine ⟨rfl, t', g, cp, g2, cp2, HR2.out.kept kF ?_, HC2.out.kept kF ?_, HD2.out.kept kF ?_, heap_set HV6.out _, HD6.out.kept (S := Only dp) (keepIn (eqIn dp) (KeepT.refl _ w6) 0 _) ?_, ?_, ?_, ?_, ?_, ?_, ?_, ?_⟩
      · rintro (h | h)
        · exact HNE.out h
        · exact HNR.out h
      · rintro (h | h)
        · exact HNE2.out h
        · exact HNC.out h
      · intro j hj hh
        have hjg : j = g := by simpa [Value.ownBlock] using hj.symm
        subst hjg
        rcases hh with hh | hh
        · exact HKI.out w2 _ _ _ HD2.out HV2.out rfl hh
        · exact HNG.out hh
      · intro j hj hh
        exact HKI.out w6 _ _ _ HD6.out HV6.out hj hh
      · refine (HT2.out.apart (S' := fun j => (S j ∨ j = g) ∨ j = g2) (fun j hj => ?_)).kept (kF.mono (fun j _ hj => ?_))
        · rcases hj with hj | rfl
          · exact .inl hj
          · rcases HAT2.out with h | h
            · exact .inl (.inl (hvS _ h))
            · exact .inr h
        · rcases hj with rfl | hj
          · exact .inl (.inl hSp)
          · rw [hDv] at hj; exact .inl (.inl (hvS _ hj))
      · exact HAT.out.imp_right (fun h => Nat.le_trans HA.out.size h)
      · exact HAT2.out.imp_right (fun h => Nat.le_trans (Nat.le_trans HA.out.size HK2.out.size) h)
      · intro h
        subst h
        rcases HAT2.out with h | h
        · exact HNG.out (by rw [hDv]; exact h)
        · have := HLT.out; omega
      · exact Nat.lt_of_lt_of_le HLT.out kF.size
      · simpa [World.setCell] using HLT2.out
      · have k1 : KeepT (Turn c dp dn dv) w w2 := (KeepT.of_below (S := Turn c dp dn dv) HA.out.drew).trans HK2.out (fun j _ hj => hj.imp_right (fun h => .inr (.inl h)))
        exact k1.trans kF (fun j _ hj => by
          rcases hj with rfl | hj
          · exact .inr (.inl rfl)
          · rw [hDv] at hj; exact .inr (.inr (.inr hj)))
    exact AllReadyH.nil
  exact AllReadyH.nil
end
end Go.Proofs.YtdljidgmdjndgaaGreatDoor
/- runs: lines laid behind one. -/
namespace Go.Proofs.YtdljidgmdjndgaaGreatDoor
open Go Go.Proofs Go.RowKit Go.Ink Go.Sort

section
variable {S : Nat → Prop} {w w' : World} {rb c t : Nat} {lv sv : Value} {d dp : Nat} {a b n : Int} {r : Nat} {dirty : Bool} {undo held : Option Addr} {was : Addr} {dn dv : Value} {ps : List (List Line)}
set_option maxRecDepth 100000 in
set_option maxHeartbeats 1000000 in
theorem runLay_ok {k p m mv : Nat} {ins : List Line} {ai : Option Addr} {ci : Nat} (hw : 6 ≤ w.heap.size) (h : RunB w rb c lv sv d a b n dp) (hc : CoreB w c t (k : Int) [] r dirty undo (some was) held dn) (ht : TabOf S w t ps) (hd : DoneOf w dn m) (hv : DidB w dp dv) (hdv : DoneOf w dv mv) (hi : SlOf IsStr w ai ci ins)
    (hS : ∀ j, S j → j < w.heap.size) (hSc : S c) (hSp : S dp) (hdS : ∀ g, dn.ownBlock = some g → S g) (hvS : ∀ g, dv.ownBlock = some g → S g) (hdd : ∀ g, dn.ownBlock = some g → dv.ownBlock ≠ some g) (hcr : c ≠ rb)
    (hps : ps.length ≤ 40000) (hk : k ≤ manyS ps) (hM : manyS ps ≤ 2000) (hm : m ≤ 1000) (hmv : mv ≤ 1000) (hE : tabErr (manyS ps) ⟨(p : Int), ((0 : Nat) : Int), ins⟩ = 0) (hpos : 0 < ins.length) :
    Calls Tryz.prog 114 #[.pointer (some ⟨rb, 0, none⟩), .int .i64 (p : Int), .slice ai ins.length ci] w fun e w' => e = .returned (.int .i64 0) ∧ ∃ t' g cp,
      RunB w' rb c lv sv d a b n dp ∧ CoreB w' c t' ((p + ins.length : Nat) : Int) [] r dirty undo (some was) held (.slice (some ⟨g, 0, none⟩) (m + 1) cp) ∧
      (∃ S' : Nat → Prop, S' c ∧ TabOf S' w' t' (tabSpl ps ⟨(p : Int), 0, ins⟩)) ∧ KeepT (Turn c dp dn dv) w w' := by
  obtain ⟨hpd, hN, hN2⟩ := tabSpl_many hE
  have hlen := tabSpl_len ps ⟨(p : Int), ((0 : Nat) : Int), ins⟩
  have HSP := Lib.hid (runSplice_ok (S := S) hw h hc ht hd hv hdv hi hS hSc hSp hdS hvS hdd hcr hps hk hM hm hmv hE)
  have hposi : (0 : Int) < (ins.length : Int) := by omega
  have hsum : IntKind.i64.wrap ((p : Int) + (ins.length : Int)) = ((p + ins.length : Nat) : Int) := by rw [IntWalk.i64_in _ (by omega)]; omega
  rw [show ((0 : Nat) : Int) = 0 from rfl] at HSP hlen hN
  clear h hc ht hd hv hdv hi
  go_enter Tryz.func114, Tryz.ntmps114
  go_wp2_with fail
  refine HSP.out.mono ?_
  rintro e w1 ⟨rfl, t', g, cp, g2, cp2, hR1, hC1, hD1, hV1, hDV1, hT1, _, _, _, _, _, hk1⟩
  have HR1 := Lib.hid hR1
  have HC1 := Lib.hid hC1
  have HT1 := Lib.hid hT1
  have HK1 := Lib.hid hk1
  have q0 := hR1.c0
  clear hR1 hC1 hD1 hV1 hDV1 hT1 hk1
  go_wp2_with fail
  refine (coreGo_of (S := fun j => (S j ∨ j = g) ∨ j = g2) (ps := tabSpl ps ⟨(p : Int), 0, ins⟩) (⟨HC1.out.c0, HC1.out.c1, HT1.out, by have := hlen; omega, by have := hN; omega⟩ : CoreOf _ w1 c t' _ _) HC1.out (p + ins.length) (by have := hN; omega)).mono ?_
  rintro e w2 ⟨rfl, rfl⟩
  go_wp2_with fail
  go_returns
  refine ⟨rfl, t', g, cp, HR1.out.kept (S := Only c) (keepIn (eqIn c) (KeepT.refl _ _) 1 _) (by unfold Only; omega), HC1.out.set1 _, ⟨_, .inl (.inl hSc), HT1.out.kept (keepIn (.inl (.inl hSc)) (KeepT.refl _ _) 1 _)⟩, ?_⟩
  exact HK1.out.trans (keepIn (eqIn c) (KeepT.refl _ _) 1 _) (fun j _ hj => .inl hj)
end
end Go.Proofs.YtdljidgmdjndgaaGreatDoor
