/- runs: a part of a change done, at a command that lays text. -/
import Derived.Test.YtdljidgmdjndgaaGreatDoorRa1
import Derived.StillTailTactics
namespace Go.Proofs.YtdljidgmdjndgaaGreatDoor
open Go Go.Proofs Go.RowKit Go.Ink Go.Sort

section
variable {S : Nat → Prop} {w w' : World} {rb c t : Nat} {lv sv tx : Value} {dp : Nat} {a b n : Int} {r : Nat} {dirty : Bool} {undo held : Option Addr} {was : Addr} {dn dv : Value} {ps : List (List Line)}
set_option maxRecDepth 100000 in
set_option maxHeartbeats 2000000 in
theorem runASplice_ok {k p dl m mv : Nat} {ins : List Line} {ai : Option Addr} {ci : Nat} (hw : 6 ≤ w.heap.size) (h : RunA w rb c lv sv tx a b n dp) (hc : CoreB w c t (k : Int) [] r dirty undo (some was) held dn) (ht : TabOf S w t ps) (hd : DoneOf w dn m) (hv : DidB w dp dv) (hdv : DoneOf w dv mv) (hi : SlOf IsStr w ai ci ins)
    (hS : ∀ j, S j → j < w.heap.size) (hSc : S c) (hSp : S dp) (hdS : ∀ g, dn.ownBlock = some g → S g) (hvS : ∀ g, dv.ownBlock = some g → S g) (hdd : ∀ g, dn.ownBlock = some g → dv.ownBlock ≠ some g) (hcr : c ≠ rb)
    (hps : ps.length ≤ 40000) (hk : k ≤ manyS ps) (hM : manyS ps ≤ 2000) (hm : m ≤ 1000) (hmv : mv ≤ 1000) (hE : tabErr (manyS ps) ⟨(p : Int), (dl : Int), ins⟩ = 0) :
    Calls Tryz.prog 154 #[.pointer (some ⟨rb, 0, none⟩), .int .i64 (p : Int), .int .i64 (dl : Int), .slice ai ins.length ci] w fun e w' => e = .returned (.int .i64 0) ∧ ∃ t' g cp g2 cp2,
      RunA w' rb c lv sv tx a b n dp ∧ CoreB w' c t' (curS k p dl ins.length (manyS (tabSpl ps ⟨p, dl, ins⟩)) : Int) [] r dirty undo (some was) held (.slice (some ⟨g, 0, none⟩) (m + 1) cp) ∧ DoneOf w' (.slice (some ⟨g, 0, none⟩) (m + 1) cp) (m + 1) ∧
      DidB w' dp (.slice (some ⟨g2, 0, none⟩) (mv + 1) cp2) ∧ DoneOf w' (.slice (some ⟨g2, 0, none⟩) (mv + 1) cp2) (mv + 1) ∧
      TabOf (fun j => (S j ∨ j = g) ∨ j = g2) w' t' (tabSpl ps ⟨p, dl, ins⟩) ∧ (dn.ownBlock = some g ∨ w.heap.size ≤ g) ∧ (dv.ownBlock = some g2 ∨ w.heap.size ≤ g2) ∧ g ≠ g2 ∧ g < w'.heap.size ∧ g2 < w'.heap.size ∧ KeepT (Turn c dp dn dv) w w' := by
  have HA := Lib.hid (below_alloc w (.cells #[.int .i64 (p : Int), .int .i64 (dl : Int), .slice ai ins.length ci] 158))
  have HBX := Lib.hid (heap_alloc_at w (.cells #[.int .i64 (p : Int), .int .i64 (dl : Int), .slice ai ins.length ci] 158))
  have HR := Lib.hid h
  have HC := Lib.hid hc
  have HD := Lib.hid hd
  have HV := Lib.hid hv
  have HDV := Lib.hid hdv
  have HSP := Lib.hid (fun (X : World) (hb : Below w.heap.size w X) => coreSplice_of (S := S) (w := X) (Nat.le_trans hw hb.size) (hc.later hb) (ht.later hb) (hd.later hb) (hi.later lasts_str hb) (fun j hj => Nat.lt_of_lt_of_le (hS j hj) hb.size) hSc hdS hps hk hM hm hE)
  clear h hc hd hv hdv hi
  go_enter Tryz.func154, Tryz.ntmps154
  go_wp2_with fail
  generalize hwA : w.alloc _ = wA
  rw [hwA] at HA HBX
  clear hwA
  have HRA := Lib.hid (HR.out.later HA.out)
  have e0 := HRA.out.c0
  have b0 := Lib.cell_of_heap HBX.out 0
  have b1 := Lib.cell_of_heap HBX.out 1
  have b2 := Lib.cell_of_heap HBX.out 2
  simp only [List.getElem?_toArray, List.getElem?_cons_succ, List.getElem?_cons_zero] at b0 b1 b2
  have HX := Lib.hid (Below.refl wA.heap.size wA)
  have hcw : c < w.heap.size := HC.out.lt
  have hdlt : ∀ g, dn.ownBlock = some g → g < w.heap.size := fun g hg => hS g (hdS g hg)
  have HRR := Lib.hid (show ∀ (X Y : World), KeepT (fun j => j = c ∨ dn.ownBlock = some j) X Y → Below wA.heap.size wA X → RunA Y rb c lv sv tx a b n dp from fun X Y hk hb => (HRA.out.later hb).kept hk (by
    rintro (h | h)
    · exact hcr h.symm
    · obtain ⟨cs, fr, hh⟩ := HD.out.kind h
      have := HR.out
      unfold RunA at this
      rw [hh] at this
      simp only [Option.some.injEq, Obj.cells.injEq] at this
      exact absurd this.2.1 (by decide)))
  have HRX := Lib.hid (show ∀ (X Y : World), KeepT (fun j => j = c ∨ dn.ownBlock = some j) X Y → Below wA.heap.size wA X → Y.heap[w.heap.size]? = some (.cells #[.int .i64 (p : Int), .int .i64 (dl : Int), .slice ai ins.length ci] 158 (0, 0)) from fun X Y hk hb =>
    (hk.block _ (lt_of_heap ((hb.block _ (lt_of_heap HBX.out)).trans HBX.out)) (by
      rintro (h | h)
      · omega
      · have := hdlt _ h; omega)).trans ((hb.block _ (lt_of_heap HBX.out)).trans HBX.out))
  go_region_held3 (fun w' => w'.cell? ⟨rb, 0, none⟩ = some (.pointer (some ⟨c, 0, none⟩)) ∧ w'.cell? ⟨w.heap.size, 0, none⟩ = some (.int .i64 (p : Int)) ∧ w'.cell? ⟨w.heap.size, 1, none⟩ = some (.int .i64 (dl : Int)) ∧ w'.cell? ⟨w.heap.size, 2, none⟩ = some (.slice ai ins.length ci))
    (first | exact ⟨e0, b0, b1, b2⟩ | exact ⟨q0, q1, q2, q3⟩ | go_keep)
    (first
      | ((with_reducible refine (HSP.out _ (HA.out.drew)).mono ?_); rintro e w2 ⟨rfl, t', g, cp, hC2, hD2, hT2, hat, hlt, hk2⟩
         have HC2 := Lib.hid hC2
         have HD2 := Lib.hid hD2
         have HT2 := Lib.hid hT2
         have HAT := Lib.hid hat
         have HLT := Lib.hid hlt
         have HK2 := Lib.hid hk2
         have HR2 := Lib.hid (HRR.out _ _ hk2 HX.out.drew)
         have HX2 := Lib.hid (HRX.out _ _ hk2 HX.out.drew)
         have q0 := HR2.out.c0
         have q1 : w2.cell? ⟨w.heap.size, 0, none⟩ = some (.int .i64 (p : Int)) := by rw [Lib.cell_of_heap HX2.out]; rfl
         have q2 : w2.cell? ⟨w.heap.size, 1, none⟩ = some (.int .i64 (dl : Int)) := by rw [Lib.cell_of_heap HX2.out]; rfl
         have q3 : w2.cell? ⟨w.heap.size, 2, none⟩ = some (.slice ai ins.length ci) := by rw [Lib.cell_of_heap HX2.out]; rfl
         clear hC2 hD2 hT2 hat hlt hk2)
      | (fail "no arm"))
  clear e0 b0 b1 b2 q0 q1 q2 q3
  go_wp2_with fail
  have HV2 := Lib.hid (show DidB w2 dp dv from (HK2.out.block dp (lt_of_heap ((HA.out.drew.block _ (lt_of_heap HV.out)).trans HV.out)) (by
    have hvv := HV.out
    unfold DidB at hvv
    rintro (h | h)
    · have := HC.out
      unfold CoreB at this
      rw [h] at hvv
      rw [hvv] at this
      simp only [Option.some.injEq, Obj.cells.injEq] at this
      exact absurd this.2.1 (by decide)
    · obtain ⟨cs, fr, hh⟩ := HD.out.kind h
      rw [hh] at hvv
      simp only [Option.some.injEq, Obj.cells.injEq] at hvv
      exact absurd hvv.2.1 (by decide))).trans ((HA.out.drew.block _ (lt_of_heap HV.out)).trans HV.out))
  have HDV2 := Lib.hid ((HDV.out.later HA.out.drew).kept HK2.out (fun g' hg' hh => by
    rcases hh with hh | hh
    · obtain ⟨cs, fr, h1⟩ := HDV.out.kind hg'
      have := HC.out
      unfold CoreB at this
      rw [hh] at h1
      rw [h1] at this
      simp only [Option.some.injEq, Obj.cells.injEq] at this
      exact absurd this.2.1 (by decide)
    · exact hdd g' hh hg'))
  obtain ⟨Dv, hDv⟩ : ∃ Dv : Nat → Prop, Dv = fun j => dv.ownBlock = some j := ⟨_, rfl⟩
  have HKD := Lib.hid (show ∀ j, Dv j → ∃ cs fr, w2.heap[j]? = some (.cells cs 158 fr) from fun j hj => HDV2.out.kind (by rw [hDv] at hj; exact hj))
  have HNP := Lib.hid (show ¬ Dv dp from fun hj => by
    obtain ⟨cs, fr, h1⟩ := HKD.out _ hj
    have := HV2.out
    unfold DidB at this
    rw [h1] at this
    simp only [Option.some.injEq, Obj.cells.injEq] at this
    exact absurd this.2.1 (by decide))
  have HNR := Lib.hid (show ¬ Dv rb from fun hj => by
    obtain ⟨cs, fr, h1⟩ := HKD.out _ hj
    have := HR2.out
    unfold RunA at this
    rw [h1] at this
    simp only [Option.some.injEq, Obj.cells.injEq] at this
    exact absurd this.2.1 (by decide))
  have HNC := Lib.hid (show ¬ Dv c from fun hj => by
    obtain ⟨cs, fr, h1⟩ := HKD.out _ hj
    have := HC2.out
    unfold CoreB at this
    rw [h1] at this
    simp only [Option.some.injEq, Obj.cells.injEq] at this
    exact absurd this.2.1 (by decide))
  have HNX := Lib.hid (show ¬ Dv w.heap.size from fun hj => by
    rw [hDv] at hj
    have := hS _ (hvS _ hj)
    omega)
  have HNG := Lib.hid (show ¬ Dv g from fun hj => by
    rw [hDv] at hj
    rcases HAT.out with h | h
    · exact hdd _ h hj
    · have := hS _ (hvS _ hj)
      have := HA.out.size
      have h' : wA.heap.size ≤ g := h
      omega)
  have HS4 := Lib.hid (fun (X : World) (hk : KeepT Dv w2 X) => (show X.cell? ⟨rb, 22, none⟩ = some (.pointer (some ⟨dp, 0, none⟩)) ∧ X.cell? ⟨dp, 0, none⟩ = some dv ∧ X.cell? ⟨w.heap.size, 0, none⟩ = some (.int .i64 (p : Int)) ∧ X.cell? ⟨w.heap.size, 1, none⟩ = some (.int .i64 (dl : Int)) ∧ X.cell? ⟨w.heap.size, 2, none⟩ = some (.slice ai ins.length ci) from by
    have hx := (hk.block _ (lt_of_heap HX2.out) HNX.out).trans HX2.out
    have hv := (hk.block _ (lt_of_heap HV2.out) HNP.out).trans HV2.out
    refine ⟨(HR2.out.kept hk HNR.out).c22, by rw [Lib.cell_of_heap hv]; rfl, ?_, ?_, ?_⟩ <;> (rw [Lib.cell_of_heap hx]; rfl)))
  have HKG := Lib.hid (fun (X Y : World) (h : KeepT Dv w2 X) (hg : X.grownBy Y dv.ownBlock) => h.grown hg (fun k hk => .inl (by rw [hDv]; exact hk)))
  have HAL := Lib.hid (fun (X : World) (g : Nat) (h : KeepT Dv w2 X) (hat : dv.ownBlock = some g ∨ g = X.heap.size) => (show dv.ownBlock = some g ∨ w2.heap.size ≤ g from by
    rcases hat with h' | h'
    · exact .inl h'
    · right; rw [h']; exact h.size))
  have HK := Lib.hid (KeepT.refl Dv w2)
  refine wp_region_noPanic ?_
  refine wp_region_any (by kernel_rfl) ?_
  change wpAny _ _ _ _ _ _ _ w2.drew
  refine wpAny_parted_held 13 13 (Array.replicate 15 false) (fun w' => w'.cell? ⟨rb, 22, none⟩ = some (.pointer (some ⟨dp, 0, none⟩)) ∧ w'.cell? ⟨dp, 0, none⟩ = some dv ∧ w'.cell? ⟨w.heap.size, 0, none⟩ = some (.int .i64 (p : Int)) ∧ w'.cell? ⟨w.heap.size, 1, none⟩ = some (.int .i64 (dl : Int)) ∧ w'.cell? ⟨w.heap.size, 2, none⟩ = some (.slice ai ins.length ci)) (by kernel_rfl) (HS4.out _ HK.out.drew) (fun hHeld => ?_)
  simp only [List.take_succ_cons, List.take_zero, List.drop_succ_cons, List.drop_zero]
  refine wpAnyH_takeL (i := 0) (v := ?_) rfl (by kernel_rfl) (by kernel_rfl) (by kernel_rfl) (fun _ _ _ h => h) (Or.inl ⟨by rfl, ?_⟩) (by assumption) ?_
  rotate_left
  · intro w hSw
    (try dsimp only at hSw)
    go_simp
    (try with_reducible rfl)
  (try simp only [Act.put, List.setIfInBounds_toArray, List.set_cons_zero, List.set_cons_succ])
  refine wpAnyH_takeL (i := 1) (v := ?_) rfl (by kernel_rfl) (by kernel_rfl) (by kernel_rfl) (fun _ _ _ h => h) (Or.inl ⟨by rfl, ?_⟩) (by assumption) ?_
  rotate_left
  · intro w hSw
    (try dsimp only at hSw)
    go_simp
    (try with_reducible rfl)
  (try simp only [Act.put, List.setIfInBounds_toArray, List.set_cons_zero, List.set_cons_succ])
  refine wpAnyH_takeL (i := 2) (v := ?_) rfl (by kernel_rfl) (by kernel_rfl) (by kernel_rfl) (fun _ _ _ h => h) (Or.inl ⟨by rfl, ?_⟩) (by assumption) ?_
  rotate_left
  · intro w hSw
    (try dsimp only at hSw)
    go_simp
    (try with_reducible rfl)
  (try simp only [Act.put, List.setIfInBounds_toArray, List.set_cons_zero, List.set_cons_succ])
  refine wpAnyH_takeL (i := 3) (v := ?_) rfl (by kernel_rfl) (by kernel_rfl) (by kernel_rfl) (fun _ _ _ h => h) (Or.inl ⟨by rfl, ?_⟩) (by assumption) ?_
  rotate_left
  · intro w hSw
    (try dsimp only at hSw)
    go_simp
    (try with_reducible rfl)
  (try simp only [Act.put, List.setIfInBounds_toArray, List.set_cons_zero, List.set_cons_succ])
  refine wpAnyH_takeL (i := 4) (v := ?_) rfl (by kernel_rfl) (by kernel_rfl) (by kernel_rfl) (fun _ _ _ h => h) (Or.inl ⟨by rfl, ?_⟩) (by assumption) ?_
  rotate_left
  · intro w hSw
    (try dsimp only at hSw)
    go_simp
    (try with_reducible rfl)
  (try simp only [Act.put, List.setIfInBounds_toArray, List.set_cons_zero, List.set_cons_succ])
  refine wpAnyH_takeL (i := 5) (v := ?_) rfl (by kernel_rfl) (by kernel_rfl) (by kernel_rfl) (fun _ _ _ h => h) (Or.inl ⟨by rfl, ?_⟩) (by assumption) ?_
  rotate_left
  · intro w hSw
    (try dsimp only at hSw)
    go_simp
    (try with_reducible rfl)
  (try simp only [Act.put, List.setIfInBounds_toArray, List.set_cons_zero, List.set_cons_succ])
  refine wpAnyH_takeL (i := 6) (v := ?_) rfl (by kernel_rfl) (by kernel_rfl) (by kernel_rfl) (fun _ _ _ h => h) (Or.inl ⟨by rfl, ?_⟩) (by assumption) ?_
  rotate_left
  · intro w hSw
    (try dsimp only at hSw)
    go_simp
    (try with_reducible rfl)
  (try simp only [Act.put, List.setIfInBounds_toArray, List.set_cons_zero, List.set_cons_succ])
  refine wpAnyH_takeL (i := 7) (v := ?_) rfl (by kernel_rfl) (by kernel_rfl) (by kernel_rfl) (fun _ _ _ h => h) (Or.inl ⟨by rfl, ?_⟩) (by assumption) ?_
  rotate_left
  · intro w hSw
    (try dsimp only at hSw)
    go_simp
    (try with_reducible rfl)
  (try simp only [Act.put, List.setIfInBounds_toArray, List.set_cons_zero, List.set_cons_succ])
  refine wpAnyH_takeL (i := 8) (v := ?_) rfl (by kernel_rfl) (by kernel_rfl) (by kernel_rfl) (fun _ _ _ h => h) (Or.inl ⟨by rfl, ?_⟩) (by assumption) ?_
  rotate_left
  · intro w hSw
    (try dsimp only at hSw)
    go_simp
    (try with_reducible rfl)
  (try simp only [Act.put, List.setIfInBounds_toArray, List.set_cons_zero, List.set_cons_succ])
  refine wpAnyH_takeL (i := 9) (v := ?_) rfl (by kernel_rfl) (by kernel_rfl) (by kernel_rfl) (fun _ _ _ h => h) (Or.inl ⟨by rfl, ?_⟩) (by assumption) ?_
  rotate_left
  · intro w hSw
    (try dsimp only at hSw)
    go_simp
    (try with_reducible rfl)
  (try simp only [Act.put, List.setIfInBounds_toArray, List.set_cons_zero, List.set_cons_succ])
  refine wpAnyH_takeL (i := 10) (v := ?_) rfl (by kernel_rfl) (by kernel_rfl) (by kernel_rfl) (fun _ _ _ h => h) (Or.inl ⟨by rfl, ?_⟩) (by assumption) ?_
  rotate_left
  · intro w hSw
    (try dsimp only at hSw)
    go_simp
    (try with_reducible rfl)
  (try simp only [Act.put, List.setIfInBounds_toArray, List.set_cons_zero, List.set_cons_succ])
  refine wpAnyH_ready (rs := [11]) (by kernel_rfl) (by simp) ?_
  refine AllReadyH.consL rfl (fun K hK => ?_) ?_
  · go_simp
    refine hK.out _ _ ?_ (fun hHeld => ?_)
    · first | exact HS4.out _ HK.out | exact HS4.out _ HK.out.drew | exact HS4.out _ (HK.out.alloc _) | exact HS4.out _ (HK.out.drew.alloc _) | exact HS4.out _ (HK.out.alloc _).drew
    clear hK K
    (try simp only [List.setIfInBounds_toArray])
    refine wpAnyH_ready (rs := [12]) (by kernel_rfl) (by simp) ?_
    refine AllReadyH.consL rfl (fun K hK => ?_) ?_
    · refine step_append_done rfl (.tmp 32) (.tmp 34) rfl dv mv rfl (by first | exact HDV2.out.later (Below.refl w2.heap.size w2).drew | exact HDV2.out.later ((Below.refl w2.heap.size w2).drew.alloc (Nat.le_refl _) _) | exact HDV2.out.later ((Below.refl w2.heap.size w2).alloc (Nat.le_refl _) _).drew) _ rfl _ _ _ 158 (by first | exact heap_alloc_at _ _ | exact heap_alloc_drew _ _) rfl rfl rfl (by omega) ?_
      intro g2 cp2 w6 hd6 hg6 hat hlt
      have HD6 := Lib.hid hd6
      have HLT2 := Lib.hid hlt
      have HAT2 := Lib.hid (HAL.out _ g2 (by first | exact HK.out | exact HK.out.drew | exact HK.out.alloc _ | exact HK.out.drew.alloc _ | exact (HK.out.alloc _).drew) hat)
      have HK := Lib.hid (show KeepT Dv w2 w6 by first | exact HKG.out _ _ HK.out hg6 | exact HKG.out _ _ HK.out.drew hg6 | exact HKG.out _ _ (HK.out.alloc _) hg6 | exact HKG.out _ _ (HK.out.drew.alloc _) hg6 | exact HKG.out _ _ (HK.out.alloc _).drew hg6)
      clear hd6 hg6 hat hlt
      refine hK.out _ _ ?_ (fun hHeld => ?_)
      · first | exact HS4.out _ HK.out | exact HS4.out _ HK.out.drew | exact HS4.out _ (HK.out.alloc _) | exact HS4.out _ (HK.out.drew.alloc _) | exact HS4.out _ (HK.out.alloc _).drew
      clear hK K
      (try simp only [Act.put, List.setIfInBounds_toArray, List.set_cons_zero, List.set_cons_succ])
      refine wpAnyH_done (by kernel_rfl) ?_ _
      have HV6 := Lib.hid (show DidB w6 dp dv from (HK.out.block dp (lt_of_heap HV2.out) HNP.out).trans HV2.out)
      have ed : w6.cell? ⟨dp, 0, none⟩ = some dv := by rw [Lib.cell_of_heap HV6.out]; rfl
      have fd : w6.frozen? ⟨dp, 0, none⟩ = false := Lib.frozen_of_heap HV6.out 0
      change wpList _ _ _ _ _ _
      go_wp2_with fail
      refine NoPanic.normal ?_
      go_wp2_with fail
      go_returns
      have HNE := Lib.hid (show rb ≠ dp from fun h => by
        have h1 := HR2.out
        have h2 := HV2.out
        unfold RunA at h1
        unfold DidB at h2
        rw [h] at h1
        rw [h1] at h2
        simp only [Option.some.injEq, Obj.cells.injEq] at h2
        exact absurd h2.2.1 (by decide))
      have HNE2 := Lib.hid (show c ≠ dp from fun h => by
        have h1 := HC2.out
        have h2 := HV2.out
        unfold CoreB at h1
        unfold DidB at h2
        rw [h] at h1
        rw [h1] at h2
        simp only [Option.some.injEq, Obj.cells.injEq] at h2
        exact absurd h2.2.1 (by decide))
      have HKI := Lib.hid (show ∀ (X : World) (v : Value) (m g : Nat), DoneOf X v m → X.heap[dp]? = some (.cells #[dv] 32 (0, 0)) → v.ownBlock = some g → g ≠ dp from fun X v m g h1 h2 h3 h4 => by
        obtain ⟨cs, fr, h5⟩ := h1.kind h3
        rw [h4] at h5
        rw [h5] at h2
        simp only [Option.some.injEq, Obj.cells.injEq] at h2
        exact absurd h2.2.1 (by decide))
      have kF : KeepT (fun j => j = dp ∨ Dv j) w2 (w6.setCell ⟨dp, 0, none⟩ (.slice (some ⟨g2, 0, none⟩) (mv + 1) cp2)) := keepIn (.inl rfl) (HK.out.mono (fun j _ hj => .inr hj)) 0 _
      refine ⟨rfl, t', g, cp, g2, cp2, HR2.out.kept kF ?_, HC2.out.kept kF ?_, HD2.out.kept kF ?_, heap_set HV6.out _, HD6.out.kept (S := Only dp) (keepIn (eqIn dp) (KeepT.refl _ w6) 0 _) ?_, ?_, ?_, ?_, ?_, ?_, ?_, ?_⟩
      · rintro (h | h)
        · exact HNE.out h
        · exact HNR.out h
      · rintro (h | h)
        · exact HNE2.out h
        · exact HNC.out h
      · intro j hj hh
        have hjg : j = g := by simpa [Value.ownBlock] using hj.symm
        subst hjg
        rcases hh with hh | hh
        · exact HKI.out w2 _ _ _ HD2.out HV2.out rfl hh
        · exact HNG.out hh
      · intro j hj hh
        exact HKI.out w6 _ _ _ HD6.out HV6.out hj hh
      · refine (HT2.out.apart (S' := fun j => (S j ∨ j = g) ∨ j = g2) (fun j hj => ?_)).kept (kF.mono (fun j _ hj => ?_))
        · rcases hj with hj | rfl
          · exact .inl hj
          · rcases HAT2.out with h | h
            · exact .inl (.inl (hvS _ h))
            · exact .inr h
        · rcases hj with rfl | hj
          · exact .inl (.inl hSp)
          · rw [hDv] at hj; exact .inl (.inl (hvS _ hj))
      · exact HAT.out.imp_right (fun h => Nat.le_trans HA.out.size h)
      · exact HAT2.out.imp_right (fun h => Nat.le_trans (Nat.le_trans HA.out.size HK2.out.size) h)
      · intro h
        subst h
        rcases HAT2.out with h | h
        · exact HNG.out (by rw [hDv]; exact h)
        · have := HLT.out; omega
      · exact Nat.lt_of_lt_of_le HLT.out kF.size
      · simpa [World.setCell] using HLT2.out
      · have k1 : KeepT (Turn c dp dn dv) w w2 := (KeepT.of_below (S := Turn c dp dn dv) HA.out.drew).trans HK2.out (fun j _ hj => hj.imp_right (fun h => .inr (.inl h)))
        exact k1.trans kF (fun j _ hj => by
          rcases hj with rfl | hj
          · exact .inr (.inl rfl)
          · rw [hDv] at hj; exact .inr (.inr (.inr hj)))
    exact AllReadyH.nil
  exact AllReadyH.nil
end
end Go.Proofs.YtdljidgmdjndgaaGreatDoor
/- runs: lines laid behind one. -/
namespace Go.Proofs.YtdljidgmdjndgaaGreatDoor
open Go Go.Proofs Go.RowKit Go.Ink Go.Sort

section
variable {S : Nat → Prop} {w w' : World} {rb c t : Nat} {lv sv tx : Value} {dp : Nat} {a b n : Int} {r : Nat} {dirty : Bool} {undo held : Option Addr} {was : Addr} {dn dv : Value} {ps : List (List Line)}
set_option maxRecDepth 100000 in
set_option maxHeartbeats 1000000 in
theorem runALay_ok {k p m mv : Nat} {ins : List Line} {ai : Option Addr} {ci : Nat} (hw : 6 ≤ w.heap.size) (h : RunA w rb c lv sv tx a b n dp) (hc : CoreB w c t (k : Int) [] r dirty undo (some was) held dn) (ht : TabOf S w t ps) (hd : DoneOf w dn m) (hv : DidB w dp dv) (hdv : DoneOf w dv mv) (hi : SlOf IsStr w ai ci ins)
    (hS : ∀ j, S j → j < w.heap.size) (hSc : S c) (hSp : S dp) (hdS : ∀ g, dn.ownBlock = some g → S g) (hvS : ∀ g, dv.ownBlock = some g → S g) (hdd : ∀ g, dn.ownBlock = some g → dv.ownBlock ≠ some g) (hcr : c ≠ rb)
    (hps : ps.length ≤ 40000) (hk : k ≤ manyS ps) (hM : manyS ps ≤ 2000) (hm : m ≤ 1000) (hmv : mv ≤ 1000) (hE : tabErr (manyS ps) ⟨(p : Int), ((0 : Nat) : Int), ins⟩ = 0) (hpos : 0 < ins.length) :
    Calls Tryz.prog 114 #[.pointer (some ⟨rb, 0, none⟩), .int .i64 (p : Int), .slice ai ins.length ci] w fun e w' => e = .returned (.int .i64 0) ∧ ∃ t' g cp,
      RunA w' rb c lv sv tx a b n dp ∧ CoreB w' c t' ((p + ins.length : Nat) : Int) [] r dirty undo (some was) held (.slice (some ⟨g, 0, none⟩) (m + 1) cp) ∧
      (∃ S' : Nat → Prop, S' c ∧ TabOf S' w' t' (tabSpl ps ⟨(p : Int), 0, ins⟩)) ∧ KeepT (Turn c dp dn dv) w w' := by
  obtain ⟨hpd, hN, hN2⟩ := tabSpl_many hE
  have hlen := tabSpl_len ps ⟨(p : Int), ((0 : Nat) : Int), ins⟩
  have HSP := Lib.hid (runASplice_ok (S := S) hw h hc ht hd hv hdv hi hS hSc hSp hdS hvS hdd hcr hps hk hM hm hmv hE)
  have hposi : (0 : Int) < (ins.length : Int) := by omega
  have hsum : IntKind.i64.wrap ((p : Int) + (ins.length : Int)) = ((p + ins.length : Nat) : Int) := by rw [IntWalk.i64_in _ (by omega)]; omega
  rw [show ((0 : Nat) : Int) = 0 from rfl] at HSP hlen hN
  clear h hc ht hd hv hdv hi
  go_enter Tryz.func114, Tryz.ntmps114
  go_wp2_with fail
  refine HSP.out.mono ?_
  rintro e w1 ⟨rfl, t', g, cp, g2, cp2, hR1, hC1, hD1, hV1, hDV1, hT1, _, _, _, _, _, hk1⟩
  have HR1 := Lib.hid hR1
  have HC1 := Lib.hid hC1
  have HT1 := Lib.hid hT1
  have HK1 := Lib.hid hk1
  have q0 := hR1.c0
  clear hR1 hC1 hD1 hV1 hDV1 hT1 hk1
  go_wp2_with fail
  refine (coreGo_of (S := fun j => (S j ∨ j = g) ∨ j = g2) (ps := tabSpl ps ⟨(p : Int), 0, ins⟩) (⟨HC1.out.c0, HC1.out.c1, HT1.out, by have := hlen; omega, by have := hN; omega⟩ : CoreOf _ w1 c t' _ _) HC1.out (p + ins.length) (by have := hN; omega)).mono ?_
  rintro e w2 ⟨rfl, rfl⟩
  go_wp2_with fail
  go_returns
  refine ⟨rfl, t', g, cp, HR1.out.kept (S := Only c) (keepIn (eqIn c) (KeepT.refl _ _) 1 _) (by unfold Only; omega), HC1.out.set1 _, ⟨_, .inl (.inl hSc), HT1.out.kept (keepIn (.inl (.inl hSc)) (KeepT.refl _ _) 1 _)⟩, ?_⟩
  exact HK1.out.trans (keepIn (eqIn c) (KeepT.refl _ _) 1 _) (fun j _ hj => .inl hj)
set_option maxRecDepth 100000 in
theorem runALay_nil {k p cap : Nat} (h : RunA w rb c lv sv tx a b n dp) (hc : CoreB w c t (k : Int) [] r dirty undo (some was) held dn) (ht : TabOf S w t ps) (hps : ps.length ≤ 40000) (hM : manyS ps ≤ 2000) (hp : p ≤ manyS ps) (ai : Option Addr) (hcr : c ≠ rb) :
    Calls Tryz.prog 114 #[.pointer (some ⟨rb, 0, none⟩), .int .i64 (p : Int), .slice ai 0 cap] w fun e w' => e = .returned (.int .i64 0) ∧ RunA w' rb c lv sv tx a b n dp ∧ CoreB w' c t (p : Int) [] r dirty undo (some was) held dn ∧ KeepT (Only c) w w' := by
  have HR := Lib.hid h
  have HC := Lib.hid hc
  have HT := Lib.hid ht
  have q0 := h.c0
  have hsum : IntKind.i64.wrap ((p : Int) + 0) = (p : Int) := by rw [IntWalk.i64_in _ (by omega)]; omega
  clear h hc ht
  go_enter Tryz.func114, Tryz.ntmps114
  go_wp2_with fail
  refine (coreGo_of (S := S) (ps := ps) (⟨HC.out.c0, HC.out.c1, HT.out, by omega, by omega⟩ : CoreOf _ w c t _ _) HC.out p hp).mono ?_
  rintro e w2 ⟨rfl, rfl⟩
  go_wp2_with fail
  go_returns
  exact ⟨rfl, HR.out.kept (S := Only c) (keepIn (eqIn c) (KeepT.refl _ _) 1 _) (by unfold Only; omega), HC.out.set1 _, keepIn (eqIn c) (KeepT.refl _ _) 1 _⟩
end
end Go.Proofs.YtdljidgmdjndgaaGreatDoor
/- runs: a command that lays text, done. -/
namespace Go.Proofs.YtdljidgmdjndgaaGreatDoor
open Go Go.Proofs Go.RowKit Go.Ink Go.Sort

/-- The buffer, the command's block and what was done are turned. -/
def Three (c rb dp x : Nat) : Prop := x = c ∨ x = rb ∨ x = dp
/-- A change that is being made: its lines, the current one. -/
def MidA (w w' : World) (dp0 rb c r : Nat) (dirty : Bool) (undo held : Option Addr) (was : Addr) (F : List Line) (cur : Nat) : Prop :=
  ∃ t' a n cp, (∃ lv sv tx i j m dp, RunA w' rb c lv sv tx i j m dp) ∧ CoreB w' c t' (cur : Int) [] r dirty undo (some was) held (.slice a n cp) ∧ (∃ (S' : Nat → Prop) (ps' : List (List Line)), S' c ∧ TabOf S' w' t' ps' ∧ ps'.flatten = F ∧ ps'.length ≤ 100000) ∧ KeepT (Three c rb dp0) w w'
/-- Lines laid behind one. -/
def layS (l m : List Line) (k : Nat) : List Line := l.take k ++ m ++ l.drop k
theorem layS_nil (l : List Line) (k : Nat) : layS l [] k = l := by unfold layS; simp
theorem lay_done {l m : List Line} {k : Nat} (hm : checkL m = 0) (h1 : k ≤ l.length) (h2 : l.length + m.length ≤ 2000) : doneS l ⟨(k : Int), 0, m⟩ = (layS l m k, 0) := by
  rw [doneS_of (by unfold checkS; rw [if_neg (by simp only; omega)]; exact hm) (by simp only [Int.toNat_natCast, Int.toNat_zero]; omega) (by simp only [Int.toNat_zero]; omega)]
  simp only [Int.toNat_natCast, Int.toNat_zero, Nat.add_zero]
  rfl
section
variable {S : Nat → Prop} {w w' : World} {rb c t : Nat} {lv sv tx : Value} {dp : Nat} {r : Nat} {dirty : Bool} {undo held : Option Addr} {was : Addr} {ps : List (List Line)}
theorem runALay_all {i k : Nat} {text : List Line} {ai : Option Addr} {ci : Nat} (hw : 6 ≤ w.heap.size) (h : RunA w rb c lv sv tx (i : Int) (i : Int) 1 dp) (hc : CoreB w c t (k : Int) [] r dirty undo (some was) held (.slice none 0 0)) (ht : TabOf S w t ps) (hv : DidB w dp (.slice none 0 0)) (hi : SlOf IsStr w ai ci text)
    (hS : ∀ x, S x → x < w.heap.size) (hSc : S c) (hSp : S dp) (hcr : c ≠ rb) (hps : ps.length ≤ 1000) (hk : k ≤ manyS ps) (hM : manyS ps + text.length ≤ 2000) (hck : checkL text = 0)
    (h3 : i ≤ manyS ps) :
    Calls Tryz.prog 114 #[.pointer (some ⟨rb, 0, none⟩), .int .i64 (i : Int), .slice ai text.length ci] w fun e w' => e = .returned (.int .i64 0) ∧ MidA w w' dp rb c r dirty undo held was (layS ps.flatten text i) (i + text.length) := by
  have hmf := manyS_flat ps
  by_cases h0 : text = []
  · subst h0
    rw [layS_nil]
    refine (runALay_nil h hc ht (by omega) (by omega) h3 ai hcr).mono ?_
    rintro e w1 ⟨rfl, hR, hC, hk⟩
    exact ⟨rfl, t, none, 0, 0, ⟨_, _, _, _, _, _, _, hR⟩, hC, ⟨S, ps, hSc, ht.kept (hk.mono (fun x _ hx => by unfold Only at hx; subst hx; exact hSc)), rfl, by omega⟩, hk.mono (fun x _ hx => .inl hx)⟩
  · have hpos : 0 < text.length := by
      cases text with
      | nil => exact absurd rfl h0
      | cons _ _ => simp
    have hd := lay_done (l := ps.flatten) (k := i) hck (by omega) (by omega)
    have hd2 : (doneS ps.flatten ⟨(i : Int), 0, text⟩).2 = 0 := by rw [hd]
    have hfl := tabSpl_flat hd2
    rw [hd] at hfl
    have hE : tabErr (manyS ps) ⟨(i : Int), ((0 : Nat) : Int), text⟩ = 0 := by rw [hmf]; exact (tabErr_iff ps.flatten ⟨(i : Int), 0, text⟩).2 hd2
    have hlen := tabSpl_len ps ⟨(i : Int), 0, text⟩
    refine (runALay_ok (m := 0) (mv := 0) hw h hc ht (DoneOf.nil _) hv (DoneOf.nil _) hi hS hSc hSp (fun g hg => by cases hg) (fun g hg => by cases hg) (fun g hg => by cases hg) hcr (by omega) hk (by omega) (by omega) (by omega) hE hpos).mono ?_
    rintro e w1 ⟨rfl, t', g, cp, hR, hC, ⟨S', hS', hT⟩, hk1⟩
    refine ⟨rfl, t', _, _, _, ⟨_, _, _, _, _, _, _, hR⟩, hC, ⟨S', _, hS', hT, hfl, by omega⟩, hk1.mono (fun x _ hx => ?_)⟩
    rcases turn_nil hx with h | h
    · exact .inl h
    · exact .inr (.inr h)
set_option maxRecDepth 100000 in
theorem runAct_a {i : Int} {R : World → Prop} (h : RunA w rb c lv sv tx i i 1 dp) (hm : ∀ X : World, Below w.heap.size w X → Calls Tryz.prog 114 #[.pointer (some ⟨rb, 0, none⟩), .int .i64 i, tx] X fun e w' => e = .returned (.int .i64 0) ∧ R w') :
    Calls Tryz.prog 78 #[.pointer (some ⟨rb, 0, none⟩)] w fun e w' => e = .returned (.int .i64 0) ∧ R w' := by
  have HM := Lib.hid (fun X hX => hm X hX)
  have e3 := h.c3
  have e16 := h.c16
  have e18 := h.c18
  have HX := Lib.hid (Below.refl w.heap.size w)
  clear hm h
  go_enter Tryz.func78, Tryz.ntmps78
  go_wp2_with fail
  go_still_tail 9, (by kernel_rfl)
  go_wp2_with fail
  refine (HM.out _ HX.out.drew).mono ?_
  rintro e w1 ⟨rfl, hx⟩
  have HR := Lib.hid hx
  clear hx
  go_wp2_with fail
  go_returns
  exact ⟨rfl, HR.out⟩
set_option maxRecDepth 100000 in
theorem runADoes_ok {dp0 cur : Nat} {L : List Line} {F : World → Prop} (hf : Calls Tryz.prog 77 #[.pointer (some ⟨rb, 0, none⟩)] w fun e w' => e = .returned (.int .i64 0) ∧ F w') (hF : ∀ w1, F w1 → KeepT (Three c rb dp0) w w1)
    (hLn : L.length ≤ 1000000) (ha : ∀ w1, F w1 → Calls Tryz.prog 78 #[.pointer (some ⟨rb, 0, none⟩)] w1 fun e w' => e = .returned (.int .i64 0) ∧ MidA w1 w' dp0 rb c r dirty undo held was L cur) :
    Calls Tryz.prog 54 #[.pointer (some ⟨rb, 0, none⟩)] w fun e w' => e = .returned (.int .i64 0) ∧ MidA w w' dp0 rb c r dirty undo held was L cur := by
  have HF := Lib.hid hf
  have HA := Lib.hid ha
  have HFB := Lib.hid hF
  clear hf ha hF
  go_enter Tryz.func54, Tryz.ntmps54
  go_wp2_with fail
  refine HF.out.mono ?_
  rintro e w1 ⟨rfl, h1⟩
  have H1 := Lib.hid h1
  clear h1
  go_wp2_with fail
  refine (HA.out w1 H1.out).mono ?_
  rintro e w2 ⟨rfl, t', a, n, cp, ⟨lv, sv, tx, i, j, m, dp, hR⟩, hC, ⟨S', ps', hs, hT, hfl, hln⟩, hb⟩
  have HM := Lib.hid (show MidA w w2 dp0 rb c r dirty undo held was L cur from ⟨t', a, n, cp, ⟨lv, sv, tx, i, j, m, dp, hR⟩, hC, ⟨S', ps', hs, hT, hfl, hln⟩, (HFB.out w1 H1.out).trans hb (fun _ _ h => h)⟩)
  have HC := Lib.hid (⟨hC.c0, hC.c1, hT, hln, by rw [manyS_flat, hfl]; exact hLn⟩ : CoreOf S' w2 c t' (cur : Int) ps')
  have q0 := hR.c0
  have q15 := hR.c15
  clear hR hC hT hfl hln hb hs
  go_wp2_with fail
  refine (coreCur_of HC.out).mono ?_
  rintro e w3 ⟨rfl, rfl⟩
  go_wp2_with fail
  go_returns
  exact ⟨rfl, HM.out⟩
end
end Go.Proofs.YtdljidgmdjndgaaGreatDoor
/- runs.Run at a command that lays text behind a line. -/
namespace Go.Proofs.YtdljidgmdjndgaaGreatDoor
open Go Go.Proofs Go.Ev Go.RowKit Go.Ink Go.Sort

theorem NumRowQ.kept {S : Nat → Prop} {w w' : World} {b q : Nat} {ns : List Nat} (h : NumRowQ w b q ns) (hk : KeepT S w w') (hn : ¬ S b) : NumRowQ w' b q ns := fun k i hi => by
  obtain ⟨h0, h1, h2, h3⟩ := h k i hi
  exact ⟨(hk.cell (p := ⟨b, q + k * 4, none⟩) (lt_of_cell h0) hn).trans h0, (hk.cell (p := ⟨b, q + k * 4 + 1, none⟩) (lt_of_cell h1) hn).trans h1, (hk.cell (p := ⟨b, q + k * 4 + 2, none⟩) (lt_of_cell h2) hn).trans h2, (hk.cell (p := ⟨b, q + k * 4 + 3, none⟩) (lt_of_cell h3) hn).trans h3⟩
/-- A command 'a', as a value. -/
def cmdLA (lv sv : Value) : List Value := [lv, sv, .int .u8 97, .int .i64 0, .int .i64 0, .string ⟨#[]⟩, .int .i64 0, .int .u8 0, .string ⟨#[]⟩, .string ⟨#[]⟩, .bool false, .int .i64 0, .string ⟨#[]⟩, .string ⟨#[]⟩, .int .u8 0]
set_option maxRecDepth 100000 in
theorem mineA_run : isTrue (runTop Tryz.prog hooks23 [] 3000 60 51 [.agg [.opq 0, .opq 1, .int .u8 97, .int .i64 0, .int .i64 0, .str 0 0, .int .i64 0, .int .u8 0, .str 0 0, .str 0 0, .bool false, .int .i64 0, .str 0 0, .str 0 0, .int .u8 0]] (h0 6)) = true := by decide +kernel
theorem mine_a {w : World} (hw : 6 ≤ w.heap.size) (la : Option Addr) (n cap : Nat) (sa : Option Addr) (m scap : Nat) :
    Calls Tryz.prog 51 #[.agg (cmdLA (.slice la n cap) (.slice sa m scap)).toArray] w fun e w' => e = .returned (.bool true) ∧ Below w.heap.size w w' := by
  refine true_args no_count mixed hooks23_ok (by intro p hp; cases hp) mineA_run (vars_ro _) (ξ := mnX (.slice la n cap) (.slice sa m scap) (.int .i64 0)) (vars_rep hw) (vars_glob (by kernel_rfl)) (DenL.one ?_)
  unfold cmdLA
  simp only [Den]
  refine ⟨_, rfl, ?_⟩
  have hs : Den (mnX (.slice la n cap) (.slice sa m scap) (.int .i64 0)) (vars 6) (.str 0 0) (.string ⟨#[]⟩) := by
    simp only [Den]
    exact ⟨by decide, rfl⟩
  have ho : ∀ (G : Gh) (i : Nat) (x : Value), x = mnX (.slice la n cap) (.slice sa m scap) (.int .i64 0) i → (∀ cs, x ≠ .agg cs) → Den (mnX (.slice la n cap) (.slice sa m scap) (.int .i64 0)) G (.opq i) x := fun G i x h1 h2 => by
    simp only [Den]
    exact ⟨h1, h2⟩
  exact DenL.cons (ho _ 0 _ rfl (by simp)) (DenL.cons (ho _ 1 _ rfl (by simp)) (DenL.cons (by simp [Den]) (DenL.cons (by simp [Den]) (DenL.cons (by simp [Den]) (DenL.cons hs (DenL.cons (by simp [Den]) (DenL.cons (by simp [Den]) (DenL.cons hs (DenL.cons hs (DenL.cons (by simp [Den]) (DenL.cons (by simp [Den]) (DenL.cons hs (DenL.cons hs (DenL.one (by simp [Den])))))))))))))))
theorem build_runA (c lb lq lc2 p : Nat) (sa ta : Option Addr) (m sc tn tc : Nat) (X : World) : (Instr.build 111 #[(0, .pointer (some ⟨c, 0, none⟩)), (1, .agg (cmdLA (.slice (some ⟨lb, lq, none⟩) 1 lc2) (.slice sa m sc)).toArray), (2, .slice ta tn tc), (7, .pointer (some ⟨p, 0, none⟩))]).run Tryz.prog X = .ok (.agg (runCellsA c (.slice (some ⟨lb, lq, none⟩) 1 lc2) (.slice sa m sc) (.slice ta tn tc) 0 0 0 p)) X := by
  kernel_rfl
theorem runCellsA_one (c p : Nat) {lb lq lc2 tn tc : Nat} {ta : Option Addr} {sv : Value} (h : sv.oneCell' = true) : (runCellsA c (.slice (some ⟨lb, lq, none⟩) 1 lc2) sv (.slice ta tn tc) 0 0 0 p).all (·.oneCell') = true := by
  unfold runCellsA
  rw [List.all_toArray]
  simp only [List.all_cons, List.all_nil, h]
  rfl
section
variable {S : Nat → Prop} {w w' : World} {rb c t : Nat} {sv : Value} {dp lb lq lc2 : Nat} {r : Nat} {dirty : Bool} {undo held : Option Addr} {was : Addr} {ps : List (List Line)}
theorem doesA_ok {i k : Nat} {text : List Line} {ai : Option Addr} {ci : Nat} (hw : 6 ≤ w.heap.size) (h : RunA w rb c (.slice (some ⟨lb, lq, none⟩) 1 lc2) sv (.slice ai text.length ci) 0 0 0 dp) (hc : CoreB w c t (k : Int) [] r dirty undo (some was) held (.slice none 0 0)) (ht : TabOf S w t ps) (hv : DidB w dp (.slice none 0 0)) (hi : SlOf IsStr w ai ci text) (hia : ∀ b off, ai = some ⟨b, off, none⟩ → ¬ Two2 c rb b) (hr : NumRowQ w lb lq [i]) (hsv : NoSemi w sv) (hlc : 1 ≤ lc2)
    (hS : ∀ x, S x → x < w.heap.size) (hSc : S c) (hSr : S rb) (hSp : S dp) (hps : ps.length ≤ 1000) (hk : k ≤ manyS ps) (hM : manyS ps + text.length ≤ 2000) (hck : checkL text = 0)
    (h3 : i ≤ manyS ps) :
    Calls Tryz.prog 54 #[.pointer (some ⟨rb, 0, none⟩)] w fun e w' => e = .returned (.int .i64 0) ∧ MidA w w' dp rb c r dirty undo held was (layS ps.flatten text i) (i + text.length) := by
  have hcr : c ≠ rb := block_ne hc h (by decide)
  have hpc : dp ≠ c := block_ne hv hc (by decide)
  have hpr : dp ≠ rb := block_ne hv h (by decide)
  have hWl : (layS ps.flatten text i).length ≤ 1000000 := by
    have hl := manyS_flat ps
    unfold layS
    simp only [List.length_append, List.length_take, List.length_drop]
    omega
  refine runADoes_ok (F := fun w1 => RunA w1 rb c (.slice (some ⟨lb, lq, none⟩) 1 lc2) sv (.slice ai text.length ci) (i : Int) (i : Int) 1 dp ∧ CoreB w1 c t (k : Int) [] r dirty undo (some was) held (.slice none 0 0) ∧ KeepT (Two2 c rb) w w1) ((runAFind_ok h hc ht hr hsv hlc hSc hSr hcr (by omega) (by omega) h3).mono ?_) ?_ hWl ?_
  · rintro e w1 ⟨rfl, a1, a2, a3⟩
    exact ⟨rfl, a1, a2, a3⟩
  · rintro w1 ⟨_, _, a3⟩
    exact a3.mono (fun x _ hx => by
      rcases hx with h | h
      · exact .inl h
      · exact .inr (.inl h))
  · rintro w1 ⟨a1, a2, a3⟩
    have hT1 := ht.kept (a3.mono (fun x _ hx => by rcases hx with rfl | rfl <;> assumption))
    have hV1 : DidB w1 dp (.slice none 0 0) := (a3.block dp (lt_of_heap hv) (by rintro (h | h); exact hpc h; exact hpr h)).trans hv
    refine runAct_a a1 (fun X hX => (runALay_all (w := X) (Nat.le_trans hw (Nat.le_trans a3.size hX.size)) (a1.later hX) (a2.later hX) (hT1.later hX) ((hX.block dp (lt_of_heap hV1)).trans hV1) ((SlOf.kept a3 hi hia (fun _ _ h => h)).later lasts_str hX) (fun x hx => Nat.lt_of_lt_of_le (hS x hx) (Nat.le_trans a3.size hX.size)) hSc hSp hcr hps hk hM hck h3).mono ?_)
    rintro e w' ⟨rfl, t', a', n', cp', h1, h2, h4, hb⟩
    exact ⟨rfl, t', a', n', cp', h1, h2, h4, (KeepT.of_below (S := Three c rb dp) hX).trans hb (fun _ _ h => h)⟩
/-- A buffer behind a change: its lines, the current one. -/
def EndA (w w' : World) (c : Nat) (F : List Line) (cur : Nat) : Prop :=
  ∃ t' r' dirty' undo', CoreB w' c t' (cur : Int) [] r' dirty' undo' none none (.slice none 0 0) ∧ (∃ (S' : Nat → Prop) (ps' : List (List Line)), S' c ∧ TabOf S' w' t' ps' ∧ ps'.flatten = F ∧ ps'.length ≤ 100000) ∧ KeepT (Only c) w w'
variable {undo : Option Addr} {dn : Value}
set_option maxRecDepth 100000 in
set_option maxHeartbeats 2000000 in
theorem runsRunA_ok {i k : Nat} {text : List Line} {ai : Option Addr} {ci : Nat} (hw : 6 ≤ w.heap.size) (hc : CoreB w c t (k : Int) [] r dirty undo none none dn) (hreg : NewRegs w r) (ht : TabOf S w t ps) (hr : NumRowQ w lb lq [i]) (hsv : NoSemi w sv) (hlb : lb ≠ c) (hsb : ∀ b, sv = .slice (some ⟨b, 0, none⟩) 1 1 → b ≠ c) (hlc : 1 ≤ lc2)
    (hS : ∀ x, S x → x < w.heap.size) (hSc : S c) (hps : ps.length ≤ 1000) (hk : k ≤ manyS ps) (hM : manyS ps + text.length ≤ 2000) (hck : checkL text = 0) (hi : SlOf IsStr w ai ci text) (hia : ∀ b off, ai = some ⟨b, off, none⟩ → b ≠ c ∧ b < w.heap.size)
    (h3 : i ≤ manyS ps) :
    Calls Tryz.prog 38 #[.pointer (some ⟨c, 0, none⟩), .agg (cmdLA (.slice (some ⟨lb, lq, none⟩) 1 lc2) sv).toArray, .slice ai text.length ci] w fun e w' => ∃ v, e = .returned (.tuple #[.string ⟨#[]⟩, v, .int .i64 0]) ∧ EndA w w' c (layS ps.flatten text i) (i + text.length) := by
  have hcw : c < w.heap.size := hc.lt
  have hMI : ∀ X : World, 6 ≤ X.heap.size → Calls Tryz.prog 51 #[.agg (cmdLA (.slice (some ⟨lb, lq, none⟩) 1 lc2) sv).toArray] X fun e w' => e = .returned (.bool true) ∧ Below X.heap.size X w' := fun X hX => by
    rcases hsv with rfl | ⟨_, rfl, _⟩
    · exact mine_a hX _ _ _ _ _ _
    · exact mine_a hX _ _ _ _ _ _
  have hsv1 : sv.oneCell' = true := by rcases hsv with rfl | ⟨_, rfl, _⟩ <;> rfl
  obtain ⟨CM, hCM⟩ : ∃ CM : List Value, CM = cmdLA (.slice (some ⟨lb, lq, none⟩) 1 lc2) sv := ⟨_, rfl⟩
  have hCI : (Tryz.prog.info? 64).map (·.size) = some CM.length := by rw [hCM]; kernel_rfl
  have hC2 : CM.toArray[2]? = some (.int .u8 97) := by rw [hCM]; rfl
  have hBL : ∀ (p : Nat) (X : World), (Instr.build 111 #[(0, .pointer (some ⟨c, 0, none⟩)), (1, .agg CM.toArray), (2, .slice ai text.length ci), (7, .pointer (some ⟨p, 0, none⟩))]).run Tryz.prog X = .ok (.agg (runCellsA c (.slice (some ⟨lb, lq, none⟩) 1 lc2) sv (.slice ai text.length ci) 0 0 0 p)) X := fun p X => by
    rw [hCM]
    rcases hsv with rfl | ⟨_, rfl, _⟩
    · exact build_runA _ _ _ _ _ _ _ _ _ _ _ _
    · exact build_runA _ _ _ _ _ _ _ _ _ _ _ _
  rw [← hCM] at hMI ⊢
  obtain ⟨RC, hRC⟩ : ∃ RC : Nat → Array Value, RC = fun p => runCellsA c (.slice (some ⟨lb, lq, none⟩) 1 lc2) sv (.slice ai text.length ci) 0 0 0 p := ⟨_, rfl⟩
  have hRI : ∀ p, (Tryz.prog.info? 111).map (·.size) = some (RC p).size := fun p => by rw [hRC]; kernel_rfl
  have hRS : ∀ p, (RC p).size = 23 := fun p => by rw [hRC]; rfl
  have hRO : ∀ p, (RC p).all (·.oneCell') = true := fun p => by
    rw [hRC]
    exact runCellsA_one _ _ hsv1
  have HBL := Lib.hid (show ∀ (p : Nat) (X : World), (Instr.build 111 #[(0, .pointer (some ⟨c, 0, none⟩)), (1, .agg CM.toArray), (2, .slice ai text.length ci), (7, .pointer (some ⟨p, 0, none⟩))]).run Tryz.prog X = .ok (.agg (RC p)) X from fun p X => by rw [hRC]; exact hBL p X)
  have HA := Lib.hid (below_alloc w (.cells CM.toArray 64))
  have HX := Lib.hid (heap_alloc_at w (.cells CM.toArray 64))
  have HC := Lib.hid hc
  have HT := Lib.hid ht
  have HN := Lib.hid hr
  have HV := Lib.hid hsv
  have HG := Lib.hid hreg
  have HI := Lib.hid hi
  have HIB := Lib.hid hia
  have HMI := Lib.hid hMI
  have HCI := Lib.hid hCI
  have HC2' := Lib.hid hC2
  have HRI := Lib.hid hRI
  have HRS := Lib.hid hRS
  have HRO := Lib.hid hRO
  have HRC := Lib.hid hRC
  clear hc ht hr hsv hreg hi hia hMI hBL hCI hC2 hRI hRS hRO hRC hCM
  go_enter Tryz.func38, Tryz.ntmps38
  go_wp2_with fail
  generalize hwA : w.alloc _ = wA
  rw [hwA] at HA HX
  clear hwA
  have HCA := Lib.hid (HC.out.later HA.out)
  refine (coreRegs_of HCA.out).mono ?_
  rintro e w1 ⟨rfl, rfl⟩
  have HG1 := Lib.hid (show w1.rangeAt w.heap.size 0 CM from fun j v hj => by rw [Nat.zero_add, Lib.cell_of_heap HX.out]; simpa using hj)
  go_wp2_with (refine wpList_load_mid rfl 64 _ rfl w.heap.size 0 rfl CM _ HG1.out Tryz.underlying64 rfl HCI.out ?_)
  refine (HMI.out w1 (Nat.le_trans hw HA.out.size)).mono ?_
  rintro e w2 ⟨rfl, hb2⟩
  have HB2 := Lib.hid (HA.out.trans (hb2.mono HA.out.size))
  have HX2 := Lib.hid ((hb2.block _ (lt_of_heap HX.out)).trans HX.out)
  clear hb2
  have c2 : w2.cell? ⟨w.heap.size, 2, none⟩ = some (.int .u8 97) := by rw [Lib.cell_of_heap HX2.out]; exact HC2'.out
  have HC2 := Lib.hid (HC.out.later HB2.out)
  go_wp2_with fail
  refine (coreBegin_of HC2.out (HG.out.later HB2.out)).mono ?_
  rintro e wC ⟨rfl, s, hh, hC3, hs3, hg3, hsge, hhge, hk3⟩
  have hNC : ¬ Only c w.heap.size := by unfold Only; omega
  have hxC : wC.heap[w.heap.size]? = some (.cells CM.toArray 64 (0, 0)) := (hk3.block _ (lt_of_heap HX2.out) hNC).trans HX2.out
  have HGC := Lib.hid (show ∀ o : Obj, (wC.alloc o).rangeAt w.heap.size 0 CM from fun o j v hj => by rw [Nat.zero_add, Lib.cell_of_heap ((Below.heap_alloc wC o _ (lt_of_heap hxC)).trans hxC)]; simpa using hj)
  have HC3 := Lib.hid hC3
  have HS3 := Lib.hid hs3
  have HK3 := Lib.hid hk3
  have HT3 := Lib.hid ((HT.out.later HB2.out).kept (hk3.mono (fun x _ hx => by unfold Only at hx; subst hx; exact hSc)))
  have HN3 := Lib.hid ((HN.out.later HB2.out).kept hk3 (by unfold Only; exact hlb))
  have HV3 := Lib.hid ((HV.out.later HB2.out).kept hk3 (fun b hb => by unfold Only; exact hsb b hb))
  have HZ3 := Lib.hid (Nat.le_trans HB2.out.size hk3.size)
  have HI3 := Lib.hid (SlOf.kept hk3 (HI.out.later lasts_str HB2.out) (fun b off hb => by unfold Only; exact (HIB.out b off hb).1) (fun _ _ h => h))
  have hslt : s < wC.heap.size := lt_of_heap hs3
  have hsc : s ≠ c := by have := HB2.out.size; omega
  clear hC3 hs3 hg3 hk3 hxC c2
  go_wp2_with (first
    | refine wpList_load_mid rfl 64 _ rfl w.heap.size 0 rfl CM _ (HGC.out _) Tryz.underlying64 rfl HCI.out ?_
    | refine wpList_build_at rfl 111 0 1 2 7 _ _ _ _ rfl (.pointer (some ⟨c, 0, none⟩)) (.agg CM.toArray) (.slice ai text.length ci) (.pointer (some ⟨wC.heap.size, 0, none⟩)) rfl rfl rfl rfl (.agg (RC wC.heap.size)) (HBL.out _ _) ?_
    | (refine wpList_store_mid rfl 111 _ _ rfl (wC.heap.size + 1) 0 (RC wC.heap.size) rfl rfl (there_new1 wC _ _ _ _ (by rw [HRS.out]; rfl)) (HRI.out _) (HRO.out _) ?_
       rw [setCells_new1 wC _ _ (RC wC.heap.size) 111 (HRI.out _) (by rw [HRS.out]; rfl) (HRO.out _)]))
  generalize hwE : (wC.alloc _).alloc _ = wE
  have HE := Lib.hid (show Below wC.heap.size wC wE from hwE ▸ ((below_alloc wC _).alloc (by simp) _))
  have HD := Lib.hid (show DidB wE wC.heap.size (.slice none 0 0) from hwE ▸ ((Below.heap_alloc _ _ _ (by simp)).trans (heap_alloc_at wC _)))
  have HR := Lib.hid (show RunA wE (wC.heap.size + 1) c (.slice (some ⟨lb, lq, none⟩) 1 lc2) sv (.slice ai text.length ci) 0 0 0 wC.heap.size from hwE ▸ (by
    have h := heap_alloc_at (wC.alloc (.cells #[.slice none 0 0] 32)) (.cells (RC wC.heap.size) 111)
    rw [show (wC.alloc (.cells #[.slice none 0 0] 32)).heap.size = wC.heap.size + 1 by simp] at h
    unfold RunA
    rw [h, HRC.out]))
  clear hwE
  have HCE := Lib.hid (HC3.out.later HE.out)
  have HTE := Lib.hid ((HT3.out.apart (S' := fun x => (S x ∨ x = wC.heap.size) ∨ x = wC.heap.size + 1) (fun x hx => by
    rcases hx with (hx | rfl) | rfl
    · exact .inl hx
    · exact .inr (Nat.le_refl _)
    · exact .inr (Nat.le_succ _))).later HE.out)
  have hltE : wC.heap.size + 1 < wE.heap.size := HR.out.lt
  have HIE := Lib.hid (HI3.out.later lasts_str HE.out)
  have HIA := Lib.hid (show ∀ b off, ai = some ⟨b, off, none⟩ → ¬ Two2 c (wC.heap.size + 1) b from fun b off hb hh => by
    have h := HIB.out b off hb
    have := HZ3.out
    rcases hh with hh | hh
    · exact h.1 hh
    · omega)
  have HDO := Lib.hid (doesA_ok (S := fun x => (S x ∨ x = wC.heap.size) ∨ x = wC.heap.size + 1) (Nat.le_trans hw (Nat.le_trans HZ3.out HE.out.size)) HR.out HCE.out HTE.out HD.out HIE.out HIA.out (HN3.out.later HE.out) (HV3.out.later HE.out) hlc
    (fun x hx => by
      rcases hx with (hx | rfl) | rfl
      · exact Nat.lt_of_lt_of_le (hS x hx) (Nat.le_trans HZ3.out HE.out.size)
      · omega
      · exact hltE) (.inl (.inl hSc)) (.inr rfl) (.inl (.inr rfl)) hps hk hM hck h3)
  refine HDO.out.mono ?_
  rintro e w5 ⟨rfl, t', a, n, cp, ⟨lv', sv', tx', i', j', m', dp', hR5⟩, hC5, ⟨S', ps', hs', hT5, hfl, hln⟩, hb5⟩
  have HC5 := Lib.hid hC5
  have HT5 := Lib.hid hT5
  have HB5 := Lib.hid hb5
  have HFL := Lib.hid hfl
  have c21 : w5.cell? ⟨wC.heap.size + 1, 21, none⟩ = some (.slice none 0 0) := by rw [Lib.cell_of_heap hR5]; rfl
  clear hC5 hT5 hb5 hR5 hfl HDO
  go_wp2_with fail
  refine (bdrString_nil c21).mono ?_
  rintro e w6 ⟨rfl, hb6⟩
  have HB6 := Lib.hid hb6
  have HC6 := Lib.hid (HC5.out.later hb6)
  have HT6 := Lib.hid (HT5.out.later hb6)
  clear hb6
  go_wp2_with fail
  refine (coreEnd_of HC6.out).mono ?_
  rintro e w7 ⟨rfl, ⟨dirty', undo', hC7⟩, hk7⟩
  have HC7 := Lib.hid hC7
  have HK7 := Lib.hid hk7
  clear hC7 hk7
  go_wp2_with fail
  go_returns
  refine ⟨_, rfl, t', r, dirty', undo', HC7.out, ⟨S', ps', hs', HT6.out.kept (HK7.out.mono (fun x _ hx => by unfold Only at hx; subst hx; exact hs')), HFL.out, hln⟩, ?_⟩
  have z2 := HB2.out.size
  have z3 := HZ3.out
  have zE := HE.out.size
  have z5 := HB5.out.size
  have k3 : KeepT (Only c) w wC := (KeepT.of_below (S := Only c) HB2.out).trans HK3.out (fun _ _ h => h)
  have kE := k3.then_below HE.out
  have k5 := kE.trans HB5.out (fun x hx h => by
    rcases h with h | h | h
    · exact h
    · omega
    · omega)
  exact (k5.then_below HB6.out).trans HK7.out (fun _ _ h => h)
end
end Go.Proofs.YtdljidgmdjndgaaGreatDoor
