/- core.View: what addresses are asked of. -/
import Derived.Test.YtlcjjcmfpmflcaaGreatDoorCo5
import Derived.Test.YtlcjjcmfpmflcaaGreatDoorRgS
set_option linter.unusedVariables false
set_option linter.unusedSimpArgs false
namespace Go.Proofs.YtlcjjcmfpmflcaaGreatDoor
open Go Go.Proofs Go.RowKit Go.Ink Go.Sort

/-- A view's cells: no marks are set. -/
def viewCells (v : Value) (cur : Int) (last : List UInt8) : List Value := [v, .int .i64 cur] ++ noMarks.map (fun m => (Value.int .i64 m)) ++ [.string ⟨last.toArray⟩]
theorem run_build_view (la : Option Addr) (n lc : Nat) (cur : Int) (last : List UInt8) (w : World) :
    (Instr.build 184 #[(0, .slice la n lc), (1, .int .i64 cur), (2, .agg (noMarks.map fun m => (Value.int .i64 m)).toArray), (3, .string ⟨last.toArray⟩)]).run Tryz.prog w = .ok (.agg (viewCells (.slice la n lc) cur last).toArray) w := by
  kernel_rfl
theorem _root_.Go.World.there.later {w w' : World} {b o n : Nat} (h : w.there b o n) (hb : Below w.heap.size w w') : w'.there b o n := fun j hj => by
  obtain ⟨h1, h2⟩ := h j hj
  obtain ⟨u, hu⟩ := Option.isSome_iff_exists.1 h1
  have hlt := lt_of_cell hu
  exact ⟨by rw [hb.cell (p := ⟨b, o + j, none⟩) hlt]; exact h1, by rw [World.frozen?_of_block (w := w) (hb.block b hlt)]; exact h2⟩
theorem below_setCellsX {B : Nat} {a : World} (b : Nat) (hb : B ≤ b) : ∀ (vs : List Value) (o : Nat) {w : World}, Below B a w → Below B a (w.setCells b o vs)
  | [], _, _, h => h
  | v :: r, o, _, h => below_setCellsX b hb r (o + 1) (h.setCell (p := ⟨b, o, none⟩) hb v)
theorem keep_setCellsX {S : Nat → Prop} {a : World} (b : Nat) (hb : S b) : ∀ (vs : List Value) (o : Nat) {w : World}, KeepT S a w → KeepT S a (w.setCells b o vs)
  | [], _, _, h => h
  | v :: r, o, _, h => keep_setCellsX b hb r (o + 1) (keepIn hb h o v)
theorem wpList_build_run {P : Program} {ops : Array Oper} {rest : List Oper} {o : Oper} {a : Act} {w : World} {Q : Exit → Act → World → Prop} (hgd : o.guard = none) (t : TypeId) (x0 x1 x2 x3 : Operand)
    (ho : o.op = .build t #[(0, x0), (1, x1), (2, x2), (3, x3)]) (v0 v1 v2 v3 : Value) (h0 : a.eval x0 = v0) (h1 : a.eval x1 = v1) (h2 : a.eval x2 = v2) (h3 : a.eval x3 = v3) (v : Value)
    (hr : (Instr.build t #[(0, v0), (1, v1), (2, v2), (3, v3)]).run P w = .ok v w) (h : wpList P ops Q rest (a.put o.dst v) w) : wpList P ops Q (o :: rest) a w :=
  wpList_plain hgd fun _ hK => by
    unfold Oper.wp
    simp [execOp, ho, h0, h1, h2, h3, hr, Result.andThen]
    exact hK _ _ h
section
variable {S : Nat → Prop} {w w' : World} {c t : Nat} {cur : Int} {last : List UInt8} {r : Nat} {dirty : Bool} {undo was held : Option Addr} {dn : Value}
set_option maxRecDepth 100000 in
set_option maxHeartbeats 1000000 in
theorem coreView_any {ps : List (List Line)} (h : CoreB w c t cur last r dirty undo was held dn) (ht : TabOf S w t ps) (hl : ps.length ≤ 100000) (hm : manyS ps ≤ 1000000) :
    Calls Tryz.prog 128 #[.pointer (some ⟨c, 0, none⟩)] w fun e w' => ∃ la lc, e = .returned (.agg (viewCells (.slice la (manyS ps) lc) cur last).toArray) ∧ SlOf IsStr w' la lc ps.flatten ∧ Below w.heap.size w w' := by
  have HB := Lib.hid h
  have HT := Lib.hid ht
  clear h ht
  have hv1 : ∀ (la : Option Addr) (lc : Nat) (X : World), _ := fun la lc X => run_build_view la (manyS ps) lc cur last X
  have hv2 : ∀ (la : Option Addr) (lc : Nat), (viewCells (.slice la (manyS ps) lc) cur last).length = 29 := fun _ _ => rfl
  have hv3 : ∀ (la : Option Addr) (lc : Nat), (Tryz.prog.info? 184).map (·.size) = some (viewCells (.slice la (manyS ps) lc) cur last).length := fun _ _ => by kernel_rfl
  have hv4 : ∀ (la : Option Addr) (lc : Nat), ∀ u ∈ viewCells (.slice la (manyS ps) lc) cur last, u.oneCell' = true := by
    intro la lc u hu
    unfold viewCells at hu
    rw [noMarks_map] at hu
    simp only [List.mem_append, List.mem_cons, List.not_mem_nil, or_false, List.mem_replicate] at hu
    rcases hu with (((rfl | rfl) | ⟨_, rfl⟩) | rfl) <;> rfl
  obtain ⟨VC, hVC⟩ : ∃ VC : Option Addr → Nat → List Value, ∀ la lc, viewCells (.slice la (manyS ps) lc) cur last = VC la lc := ⟨fun la lc => viewCells (.slice la (manyS ps) lc) cur last, fun _ _ => rfl⟩
  simp only [hVC] at hv1 hv2 hv3 hv4 ⊢
  have HV := Lib.hid hv1
  have HVL := Lib.hid hv2
  have HVI := Lib.hid hv3
  have HVO := Lib.hid hv4
  clear hv1 hv2 hv3 hv4 hVC
  have hlm : (noMarks.map fun m => (Value.int .i64 m)).length = 26 := rfl
  have him : (Tryz.prog.info? 86).map (·.size) = some (noMarks.map fun m => (Value.int .i64 m)).length := by kernel_rfl
  have hum := Tryz.underlying86
  have HRNG := Lib.hid (fun (X : World) (h : CoreB X c t cur last r dirty undo was held dn) => (show X.rangeAt c 2 (noMarks.map fun m => (Value.int .i64 m)) from fun j v hj => by
    rw [Lib.cell_of_heap h]
    exact coreCells_state _ _ _ _ _ _ _ _ _ _ _ (by unfold stateCells; rw [List.getElem?_append_right (by simp)]; simpa using hj)))
  generalize (noMarks.map fun m => (Value.int .i64 m)) = ZL at *
  go_enter Tryz.func128, Tryz.ntmps128
  go_wp2_with fail
  generalize hwA : w.alloc _ = wA
  have HA := Lib.hid (show Below w.heap.size w wA from hwA ▸ below_alloc w _)
  have htA : wA.there w.heap.size 0 29 := hwA ▸ there_new w _ _ 29 rfl
  clear hwA
  have HBA := Lib.hid (HB.out.later HA.out)
  have HTA := Lib.hid (HT.out.later HA.out)
  have HCO := Lib.hid (fun (X : World) (h : Below wA.heap.size wA X) => (⟨(HBA.out.later h).c0, (HBA.out.later h).c1, HTA.out.later h, hl, hm⟩ : CoreOf S X c t cur ps))
  refine (coreNone_b HBA.out.c0).mono ?_
  rintro e w1 ⟨rfl, rfl⟩
  have HSV := Lib.hid (fun (X : World) (h : Below w1.heap.size w1 X) => (show X.cell? ⟨c, 1, none⟩ = some (.int .i64 cur) ∧ X.rangeAt c 2 ZL ∧ X.cell? ⟨c, 28, none⟩ = some (.string ⟨last.toArray⟩) from ⟨(HBA.out.later h).c1, HRNG.out X (HBA.out.later h), (HBA.out.later h).c28⟩))
  have HLI := Lib.hid (fun (X : World) (h : Below w1.heap.size w1 X) => coreLinesAll_of (HCO.out X h))
  have HNN := Lib.hid (fun (X : World) (h : Below w1.heap.size w1 X) => coreN_of (HCO.out X h))
  have HFL := Lib.hid (show (ps.flatten.drop (1 - 1)).take (manyS ps - (1 - 1)) = ps.flatten by rw [manyS_flat, Nat.sub_self, Nat.sub_zero, List.drop_zero, List.take_length])
  rw [HFL.out] at HLI
  have HLF := Lib.hid (manyS_flat ps)
  obtain ⟨F, hF⟩ : ∃ F, F = ps.flatten := ⟨_, rfl⟩
  rw [← hF] at HLI HLF
  have HF := Lib.hid hF
  clear hF HFL
  have HZA := Lib.hid (show w.heap.size < w1.drew.heap.size by
    have h := (htA 0 (by omega)).1
    obtain ⟨u, hu⟩ := Option.isSome_iff_exists.1 h
    exact lt_of_cell hu)
  generalize manyS ps = M at *
  rw [show ((1 : Nat) : Int) = 1 from rfl] at HLI
  have HLX := Lib.hid (Below.refl w1.heap.size w1)
  go_wp2_with fail
  refine wp_region_noPanic ?_
  refine wp_region_any (by kernel_rfl) ?_
  change wpAny _ _ _ _ _ _ _ w1.drew
  refine wpAny_parted_held 18 18 (Array.replicate 20 false) (fun w' => w'.cell? ⟨c, 1, none⟩ = some (.int .i64 cur) ∧ w'.rangeAt c 2 ZL ∧ w'.cell? ⟨c, 28, none⟩ = some (.string ⟨last.toArray⟩)) (by kernel_rfl) (HSV.out _ HLX.out.drew) (fun hHeld => ?_)
  simp only [List.take_succ_cons, List.take_zero, List.drop_succ_cons, List.drop_zero]
  refine wpAnyH_takeL (i := 0) (v := ?_) rfl (by kernel_rfl) (by kernel_rfl) (by kernel_rfl) (fun _ _ _ h => h) (Or.inl ⟨by rfl, ?_⟩) (by assumption) ?_
  rotate_left
  · intro w hSw
    (try dsimp only at hSw)
    go_simp
    (try with_reducible rfl)
  (try simp only [Act.put, List.setIfInBounds_toArray, List.set_cons_zero, List.set_cons_succ])
  refine wpAnyH_takeL (i := 1) (v := ?_) rfl (by kernel_rfl) (by kernel_rfl) (by kernel_rfl) (fun _ _ _ h => h) (Or.inl ⟨by rfl, ?_⟩) (by assumption) ?_
  rotate_left
  · intro w hSw
    (try dsimp only at hSw)
    go_simp
    (try with_reducible rfl)
  (try simp only [Act.put, List.setIfInBounds_toArray, List.set_cons_zero, List.set_cons_succ])
  refine wpAnyH_takeL (i := 4) (v := ?_) rfl (by kernel_rfl) (by kernel_rfl) (by kernel_rfl) (fun _ _ _ h => h) (Or.inl ⟨by rfl, ?_⟩) (by assumption) ?_
  rotate_left
  · intro w hSw
    (try dsimp only at hSw)
    go_simp
    (try with_reducible rfl)
  (try simp only [Act.put, List.setIfInBounds_toArray, List.set_cons_zero, List.set_cons_succ])
  refine wpAnyH_takeL (i := 5) (v := ?_) rfl (by kernel_rfl) (by kernel_rfl) (by kernel_rfl) (fun _ _ _ h => h) (Or.inl ⟨by rfl, ?_⟩) (by assumption) ?_
  rotate_left
  · intro w hSw
    (try dsimp only at hSw)
    go_simp
    (try with_reducible rfl)
  (try simp only [Act.put, List.setIfInBounds_toArray, List.set_cons_zero, List.set_cons_succ])
  refine wpAnyH_takeL (i := 6) (v := ?_) rfl (by kernel_rfl) (by kernel_rfl) (by kernel_rfl) (fun _ _ _ h => h) (Or.inl ⟨by rfl, ?_⟩) (by assumption) ?_
  rotate_left
  · intro w hSw
    (try dsimp only at hSw)
    go_simp
    (try with_reducible rfl)
  (try simp only [Act.put, List.setIfInBounds_toArray, List.set_cons_zero, List.set_cons_succ])
  refine wpAnyH_takeL (i := 7) (v := ?_) rfl (by kernel_rfl) (by kernel_rfl) (by kernel_rfl) (fun _ _ _ h => h) (Or.inl ⟨by rfl, ?_⟩) (by assumption) ?_
  rotate_left
  · intro w hSw
    (try dsimp only at hSw)
    go_simp
    (try with_reducible rfl)
  (try simp only [Act.put, List.setIfInBounds_toArray, List.set_cons_zero, List.set_cons_succ])
  refine wpAnyH_takeL (i := 8) (v := ?_) rfl (by kernel_rfl) (by kernel_rfl) (by kernel_rfl) (fun _ _ _ h => h) (Or.inl ⟨by rfl, ?_⟩) (by assumption) ?_
  rotate_left
  · intro w hSw
    (try dsimp only at hSw)
    go_simp
    (try with_reducible rfl)
  (try simp only [Act.put, List.setIfInBounds_toArray, List.set_cons_zero, List.set_cons_succ])
  refine wpAnyH_takeL (i := 9) (v := ?_) rfl (by kernel_rfl) (by kernel_rfl) (by kernel_rfl) (fun _ _ _ h => h) (Or.inl ⟨by rfl, ?_⟩) (by assumption) ?_
  rotate_left
  · intro w hSw
    (try dsimp only at hSw)
    go_simp
    (try with_reducible rfl)
  (try simp only [Act.put, List.setIfInBounds_toArray, List.set_cons_zero, List.set_cons_succ])
  refine wpAnyH_takeL (i := 10) (v := ?_) rfl (by kernel_rfl) (by kernel_rfl) (by kernel_rfl) (fun _ _ _ h => h) (Or.inl ⟨by rfl, ?_⟩) (by assumption) ?_
  rotate_left
  · intro w hSw
    (try dsimp only at hSw)
    go_simp
    (try with_reducible rfl)
  (try simp only [Act.put, List.setIfInBounds_toArray, List.set_cons_zero, List.set_cons_succ])
  refine wpAnyH_takeL (i := 11) (v := ?_) rfl (by kernel_rfl) (by kernel_rfl) (by kernel_rfl) (fun _ _ _ h => h) (Or.inl ⟨by rfl, ?_⟩) (by assumption) ?_
  rotate_left
  · intro w hSw
    (try dsimp only at hSw)
    go_simp
    (try with_reducible rfl)
  (try simp only [Act.put, List.setIfInBounds_toArray, List.set_cons_zero, List.set_cons_succ])
  refine wpAnyH_takeL (i := 12) (v := ?_) rfl (by kernel_rfl) (by kernel_rfl) (by kernel_rfl) (fun _ _ _ h => h) (Or.inl ⟨by rfl, ?_⟩) (by assumption) ?_
  rotate_left
  · intro w hSw
    (try dsimp only at hSw)
    go_simp
    (try with_reducible rfl)
  (try simp only [Act.put, List.setIfInBounds_toArray, List.set_cons_zero, List.set_cons_succ])
  refine wpAnyH_takeL (i := 13) (v := _) rfl (by kernel_rfl) (by kernel_rfl) (by kernel_rfl) (fun _ _ _ h => h) (yieldsIf_load_mid (by rfl) 86 _ rfl c 2 rfl ZL _ (fun w hSw => hSw.2.1) hum rfl him) (by assumption) ?_
  (try simp only [Act.put, List.setIfInBounds_toArray, List.set_cons_zero, List.set_cons_succ])
  refine wpAnyH_takeL (i := 14) (v := ?_) rfl (by kernel_rfl) (by kernel_rfl) (by kernel_rfl) (fun _ _ _ h => h) (Or.inl ⟨by rfl, ?_⟩) (by assumption) ?_
  rotate_left
  · intro w hSw
    (try dsimp only at hSw)
    go_simp
    (try with_reducible rfl)
  (try simp only [Act.put, List.setIfInBounds_toArray, List.set_cons_zero, List.set_cons_succ])
  refine wpAnyH_takeL (i := 15) (v := ?_) rfl (by kernel_rfl) (by kernel_rfl) (by kernel_rfl) (fun _ _ _ h => h) (Or.inl ⟨by rfl, ?_⟩) (by assumption) ?_
  rotate_left
  · intro w hSw
    (try dsimp only at hSw)
    go_simp
    (try with_reducible rfl)
  (try simp only [Act.put, List.setIfInBounds_toArray, List.set_cons_zero, List.set_cons_succ])
  refine wpAnyH_takeL (i := 16) (v := ?_) rfl (by kernel_rfl) (by kernel_rfl) (by kernel_rfl) (fun _ _ _ h => h) (Or.inl ⟨by rfl, ?_⟩) (by assumption) ?_
  rotate_left
  · intro w hSw
    (try dsimp only at hSw)
    go_simp
    (try with_reducible rfl)
  (try simp only [Act.put, List.setIfInBounds_toArray, List.set_cons_zero, List.set_cons_succ])
  refine wpAnyH_takeL (i := 17) (v := ?_) rfl (by kernel_rfl) (by kernel_rfl) (by kernel_rfl) (fun _ _ _ h => h) (Or.inl ⟨by rfl, ?_⟩) (by assumption) ?_
  rotate_left
  · intro w hSw
    (try dsimp only at hSw)
    go_simp
    (try with_reducible rfl)
  (try simp only [Act.put, List.setIfInBounds_toArray, List.set_cons_zero, List.set_cons_succ])
  refine wpAnyH_ready (rs := [2]) (by kernel_rfl) (by simp) ?_
  refine AllReadyH.consL rfl (fun K hK => ?_) ?_
  · go_simp
    (with_reducible refine (HNN.out _ HLX.out.drew).mono ?_)
    rintro e wM ⟨rfl, rfl⟩
    refine hK.out _ _ ?_ (fun hHeld => ?_)
    · first | exact HSV.out _ HLX.out.drew | exact HSV.out _ HB2.out
    clear hK K
    (try simp only [List.setIfInBounds_toArray])
    refine wpAnyH_ready (rs := [3]) (by kernel_rfl) (by simp) ?_
    refine AllReadyH.consL rfl (fun K hK => ?_) ?_
    · go_simp
      (with_reducible refine (HLI.out _ HLX.out.drew).mono ?_)
      rintro e w2 ⟨v, rfl, ho, hb2⟩
      obtain ⟨la, lc, rfl, hs2⟩ := ho.slOf
      rw [← HLF.out]
      have HS2 := Lib.hid (own_slA (S := Only w.heap.size) rfl ho (fun k hk => by unfold Only at hk; subst hk; exact HZA.out))
      have HB2 := Lib.hid ((HLX.out.drew).trans hb2)
      clear ho hb2 hs2
      refine hK.out _ _ ?_ (fun hHeld => ?_)
      · first | exact HSV.out _ HLX.out.drew | exact HSV.out _ HB2.out
      clear hK K
      (try simp only [List.setIfInBounds_toArray])
      refine wpAnyH_done (by kernel_rfl) ?_ _
      have HQ := Lib.hid (htA.later HB2.out)
      change wpList _ _ _ _ _ _
      go_wp2_with (first | refine wpList_build_run rfl 184 _ _ _ _ rfl (.slice la M lc) (.int .i64 cur) (.agg ZL.toArray) (.string ⟨last.toArray⟩) rfl rfl rfl rfl (.agg (VC la lc).toArray) (HV.out la lc _) ?_ | refine wpList_store_mid rfl 184 _ _ rfl w.heap.size 0 (VC la lc).toArray rfl rfl (by simpa only [List.size_toArray, HVL.out] using HQ.out) (by simpa only [List.size_toArray] using HVI.out la lc) (all_oneCell_toArray (HVO.out la lc)) ?_)
      refine NoPanic.normal ?_
      have hRG := World.rangeAt_setCells_same w2 w.heap.size 0 (VC la lc) (by rw [HVL.out]; exact HQ.out)
      have HLD := Lib.hid (run_loadVar_mid (P := Tryz.prog) _ w.heap.size 0 184 (VC la lc) _ hRG Tryz.underlying184 rfl (HVI.out la lc))
      have HBZ := Lib.hid (below_setCellsX w.heap.size (Nat.le_refl _) (VC la lc) 0 (HA.out.trans (HB2.out.mono HA.out.size)))
      have HSZ := Lib.hid (HS2.out.kept (keep_setCellsX w.heap.size (eqIn _) (VC la lc) 0 (KeepT.refl _ w2)))
      clear hRG
      generalize w2.setCells w.heap.size 0 (VC la lc) = wZ at *
      go_wp2_with fail
      have hld := HLD.out
      refine ⟨rfl, .agg (VC la lc).toArray, ?_, la, lc, rfl, by rw [← HF.out]; exact HSZ.out.1, HBZ.out⟩
      simp [results, hld, asAddr]
    exact AllReadyH.nil
  exact AllReadyH.nil
theorem coreView_of {ps : List (List Line)} (h : CoreB w c t cur last r dirty undo was held dn) (ht : TabOf S w t ps) (hl : ps.length ≤ 100000) (hm : manyS ps ≤ 1000000) (_h1 : 1 ≤ manyS ps) :
    Calls Tryz.prog 128 #[.pointer (some ⟨c, 0, none⟩)] w fun e w' => ∃ la lc, e = .returned (.agg (viewCells (.slice la (manyS ps) lc) cur last).toArray) ∧ SlOf IsStr w' la lc ps.flatten ∧ Below w.heap.size w w' :=
  coreView_any h ht hl hm
end
end Go.Proofs.YtlcjjcmfpmflcaaGreatDoor
