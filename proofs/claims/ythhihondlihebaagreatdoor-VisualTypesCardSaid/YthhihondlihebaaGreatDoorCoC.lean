/- core: a change left undone. -/
import Derived.Test.YthhihondlihebaaGreatDoorCo5
import Derived.Test.YthhihondlihebaaGreatDoorRgS
namespace Go.Proofs.YthhihondlihebaaGreatDoor
open Go Go.Proofs Go.RowKit Go.Ink Go.Sort

section
variable {w w' : World} {c t : Nat} {cur : Int} {last : List UInt8} {r : Nat} {dirty : Bool} {undo was held : Option Addr} {dn : Value}
theorem CoreB.set29 (h : CoreB w c t cur last r dirty undo was held dn) (r' : Nat) : CoreB (w.setCell ⟨c, 29, none⟩ (.pointer (some ⟨r', 0, none⟩))) c t cur last r' dirty undo was held dn := (heap_set h _).trans rfl
set_option maxRecDepth 100000 in
set_option maxHeartbeats 1000000 in
/-- Nothing was done of the change. -/
theorem coreAbort_same {s hh : Nat} (h : CoreB w c t cur last r dirty undo (some ⟨s, 0, none⟩) (some ⟨hh, 0, none⟩) dn) (hs : w.heap[s]? = some (.cells (stateCells t cur).toArray 63 (0, 0))) :
    Calls Tryz.prog 99 #[.pointer (some ⟨c, 0, none⟩)] w fun e w' => e = .returned (.tuple #[]) ∧ CoreB w' c t cur last hh dirty undo none none (.slice none 0 0) ∧ KeepT (Only c) w w' := by
  have HB := Lib.hid h
  have HN := Lib.hid (coreNone_b h.c0)
  have e32 := h.c32
  have e33 := h.c33
  have e29 := h.c29
  have f29 := h.fz 29
  have HRS := Lib.hid (show w.rangeAt s 0 (stateCells t cur) from fun j v hj => by rw [Nat.zero_add, Lib.cell_of_heap hs]; simpa using hj)
  have HSI := Lib.hid (show (Tryz.prog.info? 63).map (·.size) = some (stateCells t cur).length by kernel_rfl)
  have HSA := Lib.hid (show (Tryz.prog.info? 63).map (·.size) = some (stateCells t cur).toArray.size by kernel_rfl)
  have HSO := Lib.hid (show (stateCells t cur).toArray.all (·.oneCell') = true by rw [List.all_toArray]; rfl)
  have HTH := Lib.hid (show w.drew.there c 0 (stateCells t cur).toArray.size from fun j hj => by
    have hr := h.state j
    rw [List.getElem?_eq_getElem (by simpa using hj)] at hr
    exact ⟨by rw [show w.drew.cell? ⟨c, 0 + j, none⟩ = w.cell? ⟨c, 0 + j, none⟩ from rfl, hr _ rfl]; rfl, h.fz _⟩)
  have HSM := Lib.hid (setCells_same (w := w.drew) (show w.drew.heap[c]? = _ from h) (stateCells t cur) 0 (fun j v hj => by rw [Nat.zero_add]; exact coreCells_state _ _ _ _ _ _ _ _ _ _ _ hj))
  rw [show (stateCells t cur) = (stateCells t cur).toArray.toList from rfl] at HSM
  generalize stateCells t cur = SC at *
  clear h hs
  go_enter Tryz.func99, Tryz.ntmps99
  go_wp2_with fail
  refine HN.out.mono ?_
  rintro e w1 ⟨rfl, rfl⟩
  go_wp2_with fail
  refine wp_region_noPanic ?_
  refine wp_region_any (by kernel_rfl) ?_
  change wpAny _ _ _ _ _ _ _ w1.drew
  refine wpAny_takeL (i := 1) (v := ?_) rfl (by kernel_rfl) (by kernel_rfl) (by kernel_rfl) (fun _ _ _ h => h) (Or.inl ⟨by rfl, ?_⟩) ?_
  rotate_left
  · intro w
    go_simp
    (try with_reducible rfl)
  (try simp only [Act.put, List.setIfInBounds_toArray, List.set_cons_zero, List.set_cons_succ])
  refine wpAny_parted_held 12 11 ((Array.replicate 18 false).setIfInBounds 1 true) (fun w' => w'.cell? ⟨c, 32, none⟩ = some (.pointer (some ⟨s, 0, none⟩)) ∧ w'.rangeAt s 0 SC ∧ w'.cell? ⟨c, 33, none⟩ = some (.pointer (some ⟨hh, 0, none⟩))) (by kernel_rfl) ⟨e32, HRS.out, e33⟩ (fun hHeld => ?_)
  simp only [List.take_succ_cons, List.take_zero, List.drop_succ_cons, List.drop_zero]
  refine wpAnyH_takeL (i := 0) (v := ?_) rfl (by kernel_rfl) (by kernel_rfl) (by kernel_rfl) (fun _ _ _ h => h) (Or.inl ⟨by rfl, ?_⟩) (by assumption) ?_
  rotate_left
  · intro w hSw
    (try dsimp only at hSw)
    go_simp
    (try with_reducible rfl)
  (try simp only [Act.put, List.setIfInBounds_toArray, List.set_cons_zero, List.set_cons_succ])
  refine wpAnyH_takeL (i := 2) (v := ?_) rfl (by kernel_rfl) (by kernel_rfl) (by kernel_rfl) (fun _ _ _ h => h) (Or.inl ⟨by rfl, ?_⟩) (by assumption) ?_
  rotate_left
  · intro w hSw
    (try dsimp only at hSw)
    go_simp
    (try with_reducible rfl)
  (try simp only [Act.put, List.setIfInBounds_toArray, List.set_cons_zero, List.set_cons_succ])
  refine wpAnyH_takeL (i := 3) (v := ?_) rfl (by kernel_rfl) (by kernel_rfl) (by kernel_rfl) (fun _ _ _ h => h) (Or.inl ⟨by rfl, ?_⟩) (by assumption) ?_
  rotate_left
  · intro w hSw
    (try dsimp only at hSw)
    go_simp
    (try with_reducible rfl)
  (try simp only [Act.put, List.setIfInBounds_toArray, List.set_cons_zero, List.set_cons_succ])
  refine wpAnyH_takeL (i := 4) (v := ?_) rfl (by kernel_rfl) (by kernel_rfl) (by kernel_rfl) (fun _ _ _ h => h) (Or.inl ⟨by rfl, ?_⟩) (by assumption) ?_
  rotate_left
  · intro w hSw
    (try dsimp only at hSw)
    go_simp
    (try with_reducible rfl)
  (try simp only [Act.put, List.setIfInBounds_toArray, List.set_cons_zero, List.set_cons_succ])
  refine wpAnyH_takeL (i := 5) (v := ?_) rfl (by kernel_rfl) (by kernel_rfl) (by kernel_rfl) (fun _ _ _ h => h) (Or.inl ⟨by rfl, ?_⟩) (by assumption) ?_
  rotate_left
  · intro w hSw
    (try dsimp only at hSw)
    go_simp
    (try with_reducible rfl)
  (try simp only [Act.put, List.setIfInBounds_toArray, List.set_cons_zero, List.set_cons_succ])
  refine wpAnyH_takeL (i := 6) (v := ?_) rfl (by kernel_rfl) (by kernel_rfl) (by kernel_rfl) (fun _ _ _ h => h) (Or.inl ⟨by rfl, ?_⟩) (by assumption) ?_
  rotate_left
  · intro w hSw
    (try dsimp only at hSw)
    go_simp
    (try with_reducible rfl)
  (try simp only [Act.put, List.setIfInBounds_toArray, List.set_cons_zero, List.set_cons_succ])
  refine wpAnyH_takeL (i := 7) (v := _) rfl (by kernel_rfl) (by kernel_rfl) (by kernel_rfl) (fun _ _ _ h => h) (yieldsIf_load_mid (by rfl) 63 _ rfl s 0 rfl SC _ (fun w hSw => hSw.2.1) Tryz.underlying63 rfl HSI.out) (by assumption) ?_
  (try simp only [Act.put, List.setIfInBounds_toArray, List.set_cons_zero, List.set_cons_succ])
  refine wpAnyH_takeL (i := 8) (v := ?_) rfl (by kernel_rfl) (by kernel_rfl) (by kernel_rfl) (fun _ _ _ h => h) (Or.inl ⟨by rfl, ?_⟩) (by assumption) ?_
  rotate_left
  · intro w hSw
    (try dsimp only at hSw)
    go_simp
    (try with_reducible rfl)
  (try simp only [Act.put, List.setIfInBounds_toArray, List.set_cons_zero, List.set_cons_succ])
  refine wpAnyH_takeL (i := 9) (v := ?_) rfl (by kernel_rfl) (by kernel_rfl) (by kernel_rfl) (fun _ _ _ h => h) (Or.inl ⟨by rfl, ?_⟩) (by assumption) ?_
  rotate_left
  · intro w hSw
    (try dsimp only at hSw)
    go_simp
    (try with_reducible rfl)
  (try simp only [Act.put, List.setIfInBounds_toArray, List.set_cons_zero, List.set_cons_succ])
  refine wpAnyH_takeL (i := 10) (v := ?_) rfl (by kernel_rfl) (by kernel_rfl) (by kernel_rfl) (fun _ _ _ h => h) (Or.inl ⟨by rfl, ?_⟩) (by assumption) ?_
  rotate_left
  · intro w hSw
    (try dsimp only at hSw)
    go_simp
    (try with_reducible rfl)
  (try simp only [Act.put, List.setIfInBounds_toArray, List.set_cons_zero, List.set_cons_succ])
  refine wpAnyH_takeL (i := 11) (v := ?_) rfl (by kernel_rfl) (by kernel_rfl) (by kernel_rfl) (fun _ _ _ h => h) (Or.inl ⟨by rfl, ?_⟩) (by assumption) ?_
  rotate_left
  · intro w hSw
    (try dsimp only at hSw)
    go_simp
    (try with_reducible rfl)
  (try simp only [Act.put, List.setIfInBounds_toArray, List.set_cons_zero, List.set_cons_succ])
  refine wpAnyH_done (by kernel_rfl) ?_ _
  change wpList _ _ _ _ _ _
  go_wp2_with (refine wpList_store_mid rfl 63 _ _ rfl c 0 SC.toArray rfl rfl HTH.out HSA.out HSO.out ?_; rw [HSM.out])
  refine NoPanic.normal ?_
  have s29 : CoreB (w1.setCell ⟨c, 29, none⟩ (.pointer (some ⟨hh, 0, none⟩))).drew c t cur last hh dirty undo (some ⟨s, 0, none⟩) (some ⟨hh, 0, none⟩) dn := HB.out.set29 hh
  have HK0 := Lib.hid (keepIn (eqIn c) (KeepT.refl (Only c) w1) 29 (.pointer (some ⟨hh, 0, none⟩))).drew
  generalize (w1.setCell ⟨c, 29, none⟩ (.pointer (some ⟨hh, 0, none⟩))).drew = wX at *
  have e32' := s29.c32
  have f32 := s29.fz 32
  have s32 := s29.set32 none
  have e33' := s32.c33
  have f33 := s32.fz 33
  have s33 := s32.set33 none
  have e34 := s33.c34
  have f34 := s33.fz 34
  have HF := Lib.hid (s33.set34 (.slice none 0 0))
  clear s29 s32 s33
  go_wp2_with fail
  go_returns
  exact ⟨rfl, HF.out, keepIn (eqIn c) (keepIn (eqIn c) (keepIn (eqIn c) HK0.out 32 _) 33 _) 34 _⟩
end
end Go.Proofs.YthhihondlihebaaGreatDoor
