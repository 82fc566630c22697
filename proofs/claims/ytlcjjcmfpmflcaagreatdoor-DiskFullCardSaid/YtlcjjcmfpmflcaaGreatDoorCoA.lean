/- core.Splice, the walk. -/
import Derived.Test.YtlcjjcmfpmflcaaGreatDoorCo5
import Derived.Test.YtlcjjcmfpmflcaaGreatDoorRgS
import Derived.Deep.Cut
set_option linter.unusedVariables false
set_option linter.unusedSimpArgs false
namespace Go.Proofs.YtlcjjcmfpmflcaaGreatDoor
open Go Go.Proofs Go.RowKit Go.Ink Go.Sort

theorem tabSpl_many {ps : List (List Line)} {p d : Nat} {ins : List Line} (h : tabErr (manyS ps) ⟨(p : Int), (d : Int), ins⟩ = 0) : p + d ≤ manyS ps ∧ manyS (tabSpl ps ⟨(p : Int), (d : Int), ins⟩) = manyS ps - d + ins.length ∧ manyS ps - d + ins.length ≤ 2000 := by
  rw [manyS_flat] at h
  have h0 := (tabErr_iff ps.flatten ⟨(p : Int), (d : Int), ins⟩).1 h
  obtain ⟨h1, h2, h3, h4, h5, h6⟩ := doneS_ok h0
  simp only [Int.toNat_natCast] at h4 h5 h6
  rw [manyS_flat (tabSpl _ _), tabSpl_flat h0, h6, manyS_flat]
  refine ⟨h4, ?_, h5⟩
  simp only [List.length_append, List.length_take, List.length_drop]
  omega
theorem below_alloc_drew (w : World) : Below w.heap.size w w.drew := (Below.refl _ _).drew
theorem heap_alloc_drew (w : World) (o : Obj) : (w.alloc o).drew.heap[w.heap.size]? = some o := heap_alloc_at w o
theorem blk_later {w w' : World} {o : Obj} (h : Below (w.alloc o).heap.size (w.alloc o).drew w') : w'.heap[w.heap.size]? = some o := (h.block _ (lt_of_heap (heap_alloc_at w o))).trans (heap_alloc_at w o)
theorem tabSpl_len (ps : List (List Line)) (s : Spl) : (tabSpl ps s).length ≤ 2 * ps.length + 1 := by
  unfold tabSpl
  refine Nat.le_trans (ofS_len _) ?_
  have h1 := partsS_len ps 0 s.pos 0
  have h2 := partsS_len ps (s.pos + s.del) (manyS ps) 0
  simp only [List.length_append, List.length_cons, List.length_nil]
  omega
/-- The current line behind a splice. -/
def curS (k p d L N : Nat) : Nat := if k < 1 then min (p + 1) N else if k ≤ p then k else if k - p ≤ d then min (p + 1) N else k - d + L
theorem curS_le {k p d L N M : Nat} (hk : k ≤ M) (hp : p + d ≤ M) (hN : N = M - d + L) : curS k p d L N ≤ N := by
  unfold curS
  split
  · omega
  · split
    · omega
    · split <;> omega
theorem curS_line {k p d L N : Nat} (h : (lineM k p d L).2 = true) (_hd : d ≤ k ∨ k ≤ p) : (lineM k p d L).1 = (curS k p d L N : Int) := by
  unfold lineM curS at *
  split
  · rename_i h1; rw [if_pos h1] at h; cases h
  · rename_i h1
    rw [if_neg h1] at h
    split
    · rfl
    · rename_i h2
      rw [if_neg h2] at h
      split
      · rename_i h3; rw [if_pos h3] at h; cases h
      · simp only; omega
theorem curS_gone {k p d L N : Nat} (h : (lineM k p d L).2 = false) : curS k p d L N = min (p + 1) N := by
  unfold lineM curS at *
  split
  · rfl
  · rename_i h1
    rw [if_neg h1] at h
    split
    · rename_i h2; rw [if_pos h2] at h; cases h
    · rename_i h2
      rw [if_neg h2] at h
      split
      · rfl
      · rename_i h3; rw [if_neg h3] at h; cases h

section
variable {S : Nat → Prop} {w w' : World} {c t : Nat} {last : List UInt8} {r : Nat} {dirty : Bool} {undo held : Option Addr} {was : Addr} {dn : Value}
set_option maxRecDepth 100000 in
set_option maxHeartbeats 4000000 in
theorem coreSplice_of {ps : List (List Line)} {k p d n : Nat} {ins : List Line} {ai : Option Addr} {ci : Nat} (hw : 6 ≤ w.heap.size) (hb : CoreB w c t (k : Int) last r dirty undo (some was) held dn) (ht : TabOf S w t ps) (hd : DoneOf w dn n) (hi : SlOf IsStr w ai ci ins)
    (hS : ∀ j, S j → j < w.heap.size) (hc : S c) (hdS : ∀ g, dn.ownBlock = some g → S g) (hps : ps.length ≤ 40000) (hk : k ≤ manyS ps) (hM : manyS ps ≤ 2000) (hn : n ≤ 1000) (hE : tabErr (manyS ps) ⟨(p : Int), (d : Int), ins⟩ = 0) :
    Calls Tryz.prog 12 #[.pointer (some ⟨c, 0, none⟩), .agg #[.int .i64 (p : Int), .int .i64 (d : Int), .slice ai ins.length ci]] w fun e w' => e = .returned (.int .i64 0) ∧ ∃ t' g cp,
      CoreB w' c t' (curS k p d ins.length (manyS (tabSpl ps ⟨p, d, ins⟩)) : Int) last r dirty undo (some was) held (.slice (some ⟨g, 0, none⟩) (n + 1) cp) ∧ DoneOf w' (.slice (some ⟨g, 0, none⟩) (n + 1) cp) (n + 1) ∧
      TabOf (fun j => S j ∨ j = g) w' t' (tabSpl ps ⟨p, d, ins⟩) ∧ (dn.ownBlock = some g ∨ w.heap.size ≤ g) ∧ g < w'.heap.size ∧ KeepT (fun j => j = c ∨ dn.ownBlock = some j) w w' := by
  obtain ⟨hpd, hN, hN2⟩ := tabSpl_many hE
  obtain ⟨s, hs⟩ : ∃ s : Spl, s = ⟨(p : Int), (d : Int), ins⟩ := ⟨_, rfl⟩
  have HT := Lib.hid (fun w' (h : Below w.heap.size w w') (hz : w.heap.size < w'.heap.size) => (tabSplice_any (S := fun j => S j ∨ j = w.heap.size) t ps ⟨(p : Int), (d : Int), ins⟩ ai ci w' ((ht.apart (S' := fun j => S j ∨ j = w.heap.size) (fun j hj => hj.imp_right (fun e => Nat.le_of_eq e.symm))).later h) (hi.later lasts_str h) hps (by omega) (fun j hj => by rcases hj with hj | hj; exact Nat.lt_of_lt_of_le (hS j hj) h.size; omega)).mono (R' := fun e w'' => ∃ b, e = .returned (.tuple #[.pointer (some ⟨b, 0, none⟩), .int .i64 0]) ∧ TabOf (fun j => S j ∨ j = w.heap.size) w'' b (tabSpl ps ⟨p, d, ins⟩) ∧ Below w'.heap.size w' w'') fun e w'' h => by
    unfold SpliceTab at h
    rw [if_pos hE] at h
    exact h)
  have HCL := Lib.hid (fun w' (h : Below w.heap.size w w') => clone_any ins ai ci w' (hi.later lasts_str h) (by omega))
  have HA := Lib.hid (below_alloc w (.cells #[.int .i64 (p : Int), .int .i64 (d : Int), .slice ai ins.length ci] 37))
  have HBX := Lib.hid (heap_alloc_at w (.cells #[.int .i64 (p : Int), .int .i64 (d : Int), .slice ai ins.length ci] 37))
  have HB := Lib.hid hb
  have HD := Lib.hid hd
  clear hb hd ht hi
  go_enter Tryz.func12, Tryz.ntmps12
  go_wp2_with fail
  obtain ⟨wA, hwA⟩ : ∃ wA, wA = w.alloc (.cells #[.int .i64 (p : Int), .int .i64 (d : Int), .slice ai ins.length ci] 37) := ⟨_, rfl⟩
  rw [← hwA] at HA HBX ⊢
  clear hwA
  have HBA := Lib.hid (HB.out.later HA.out)
  refine (coreNone_b HBA.out.c0).mono ?_
  rintro e w1 ⟨rfl, rfl⟩
  have e32 := HBA.out.c32
  have e0 := HBA.out.c0
  have b0 := Lib.cell_of_heap HBX.out 0
  have b1 := Lib.cell_of_heap HBX.out 1
  have b2 := Lib.cell_of_heap HBX.out 2
  simp only [List.getElem?_toArray, List.getElem?_cons_succ, List.getElem?_cons_zero] at b0 b1 b2
  go_wp2_with fail
  have HX := Lib.hid (HA.out.drew)
  have HZA := Lib.hid (show w.heap.size < w1.drew.heap.size from lt_of_heap HBX.out)
  go_region_held3 (fun w' => w'.cell? ⟨c, 0, none⟩ = some (.pointer (some ⟨t, 0, none⟩)) ∧ w'.cell? ⟨w.heap.size, 0, none⟩ = some (.int .i64 (p : Int)) ∧ w'.cell? ⟨w.heap.size, 1, none⟩ = some (.int .i64 (d : Int)) ∧ w'.cell? ⟨w.heap.size, 2, none⟩ = some (.slice ai ins.length ci))
    (first | exact ⟨e0, b0, b1, b2⟩ | exact ⟨q0, q1, q2, q3⟩ | go_keep)
    (first
      | ((with_reducible refine (HT.out _ HX.out HZA.out).mono ?_); rintro e w2 ⟨t', rfl, ht', hb2⟩; have HT2 := Lib.hid ht'; have HB12 := Lib.hid ((below_alloc_drew w1).trans hb2); have q0 := (hb2.cell (p := ⟨c, 0, none⟩) (lt_of_cell e0)).trans e0; have q1 := (hb2.cell (p := ⟨w.heap.size, 0, none⟩) (lt_of_cell b0)).trans b0; have q2 := (hb2.cell (p := ⟨w.heap.size, 1, none⟩) (lt_of_cell b1)).trans b1; have q3 := (hb2.cell (p := ⟨w.heap.size, 2, none⟩) (lt_of_cell b2)).trans b2; clear ht' hb2)
      | (fail "no arm"))
  have HB2 := Lib.hid (HBA.out.later HB12.out)
  have HX2 := Lib.hid ((HB12.out.block _ (lt_of_heap HBX.out)).trans HBX.out)
  have HW2 := Lib.hid (HA.out.trans (HB12.out.mono HA.out.size))
  have fz2 := Lib.frozen_of_heap HX2.out 2
  go_wp2_with fail
  refine (HCL.out _ HW2.out).mono ?_
  rintro e w3 ⟨v3, rfl, ho3, hb3⟩
  obtain ⟨a3, c3, hv3⟩ := ownsRow_shape ho3
  subst hv3
  have HB3 := Lib.hid (HB2.out.later hb3)
  have HT3 := Lib.hid (HT2.out.later hb3)
  have HX3 := Lib.hid ((hb3.block _ (lt_of_heap HX2.out)).trans HX2.out)
  have HW3 := Lib.hid (HW2.out.trans (hb3.mono HW2.out.size))
  have m2 := Lib.cell_of_heap HX3.out 2
  have n2 := Lib.frozen_of_heap HX3.out 2
  simp only [List.getElem?_toArray, List.getElem?_cons_succ, List.getElem?_cons_zero] at m2
  clear ho3 hb3 q0 q1 q2 q3 fz2
  go_wp2_with fail
  obtain ⟨w4, hw4⟩ : ∃ w4, w4 = w3.setCell ⟨w.heap.size, 2, none⟩ (.slice a3 ins.length c3) := ⟨_, rfl⟩
  have hk4 : KeepT (Only w.heap.size) w3 w4 := hw4 ▸ keepIn (eqIn _) (KeepT.refl _ _) 2 _
  have HX4 := Lib.hid (show w4.heap[w.heap.size]? = some (.cells #[.int .i64 (p : Int), .int .i64 (d : Int), .slice a3 ins.length c3] 37 (0, 0)) from hw4 ▸ heap_set HX3.out _)
  have hcw : c < w.heap.size := HB.out.lt
  have HB4 := Lib.hid (HB3.out.kept hk4 (by unfold Only; omega))
  have HW4 := Lib.hid (show Below w.heap.size w w4 from hw4 ▸ HW3.out.setCell (Nat.le_refl _) _)
  have HT4 := Lib.hid ((HT3.out.kept (hk4.mono (fun j _ hj => .inr hj))))
  have HD4 := Lib.hid (HD.out.later HW4.out)
  rw [← hw4]
  clear hk4 hw4 m2 n2 HT3 HX3 HB3 HW3 HB2 HX2 HW2 HT2 HBA HBX HX HZA HB12 e32 e0 b0 b1 b2 HCL HT
  have HSH := Lib.hid (fun (w' : World) (h : 6 ≤ w'.heap.size) => marksShift_none h (p : Int) (d : Int) a3 ins.length c3)
  have hlm : (noMarks.map fun m => (Value.int .i64 m)).length = 26 := rfl
  have him : (Tryz.prog.info? 86).map (·.size) = some (noMarks.map fun m => (Value.int .i64 m)).length := by kernel_rfl
  have hum := Tryz.underlying86
  have hom : ∀ v ∈ (noMarks.map fun m => (Value.int .i64 m)), v.oneCell' = true := by
    intro v hv
    rw [noMarks_map] at hv
    rw [List.eq_of_mem_replicate hv]
    rfl
  have HSAME := Lib.hid (fun (X : World) (t' : Nat) (dv : Value) (h : CoreB X c t' (k : Int) last r dirty undo (some was) held dv) => setCells_same h (noMarks.map fun m => (Value.int .i64 m)) 2 (fun j v hj => coreCells_state _ _ _ _ _ _ _ _ _ _ _ (by unfold stateCells; rw [List.getElem?_append_right (by simp)]; simpa [Nat.add_comm] using hj)))
  have HRNG := Lib.hid (fun (X : World) (t' : Nat) (dv : Value) (h : CoreB X c t' (k : Int) last r dirty undo (some was) held dv) => (show X.rangeAt c 2 (noMarks.map fun m => (Value.int .i64 m)) from fun j v hj => by
    rw [Lib.cell_of_heap h]
    exact coreCells_state _ _ _ _ _ _ _ _ _ _ _ (by unfold stateCells; rw [List.getElem?_append_right (by simp)]; simpa using hj)))
  generalize (noMarks.map fun m => (Value.int .i64 m)) = ZL at *
  have hq1 : ∀ (X : World) (j : Nat), (X.setCells c 2 ZL).frozen? ⟨c, j, none⟩ = X.frozen? ⟨c, j, none⟩ := fun X j => World.frozen?_setCells c ZL 2 X _
  have hq2 : ∀ (X : World), (X.setCells c 2 ZL).cell? ⟨c, 34, none⟩ = X.cell? ⟨c, 34, none⟩ := fun X => World.cell?_setCells_out c ZL 2 X _ (fun _ _ => .inr (by show 2 + _ ≤ 34; omega))
  have HQ3 := Lib.hid (fun (X : World) (j : Nat) (hj : j < 3) => (World.cell?_setCells_out c ZL 2 X ⟨w.heap.size, j, none⟩ (fun h _ => absurd h (by show w.heap.size ≠ c; omega))))
  obtain ⟨Dn, hDn⟩ : ∃ Dn : Nat → Prop, Dn = fun j => dn.ownBlock = some j := ⟨_, rfl⟩
  have HDC := Lib.hid (show ¬ Dn c by
    intro h
    rw [hDn] at h
    obtain ⟨cs, fr, hh⟩ := HD.out.kind h
    have hcc := HB.out
    unfold CoreB at hcc
    rw [hh] at hcc
    simp only [Option.some.injEq, Obj.cells.injEq] at hcc
    exact absurd hcc.2.1 (by decide))
  have HDX := Lib.hid (show ¬ Dn w.heap.size by
    intro h
    rw [hDn] at h
    obtain ⟨cs, fr, hh⟩ := HD.out.kind h
    have := lt_of_heap hh
    omega)
  have HBK := Lib.hid (fun (X : World) (h : KeepT Dn w4 X) => HB4.out.kept h HDC.out)
  have HXK := Lib.hid (fun (X : World) (h : KeepT Dn w4 X) => (h.block _ (lt_of_heap HX4.out) HDX.out).trans HX4.out)
  have HS9 := Lib.hid (fun (X : World) (t' : Nat) (dv : Value) (h : CoreB X c t' (k : Int) last r dirty undo (some was) held dv) (hx : X.heap[w.heap.size]? = some (.cells #[.int .i64 (p : Int), .int .i64 (d : Int), .slice a3 ins.length c3] 37 (0, 0))) => (show X.rangeAt c 2 ZL ∧ X.there c 2 26 ∧ X.cell? ⟨w.heap.size, 0, none⟩ = some (.int .i64 (p : Int)) ∧ X.cell? ⟨w.heap.size, 1, none⟩ = some (.int .i64 (d : Int)) ∧ X.cell? ⟨w.heap.size, 2, none⟩ = some (.slice a3 ins.length c3) from by
    refine ⟨HRNG.out X t' dv h, fun j hj => ⟨?_, h.fz _⟩, ?_, ?_, ?_⟩
    · have hr := HRNG.out X t' dv h j
      rw [List.getElem?_eq_getElem (by omega)] at hr
      rw [hr _ rfl]; rfl
    all_goals (rw [Lib.cell_of_heap hx]; rfl)))
  have HSX := Lib.hid (fun (X : World) (h : KeepT Dn w4 X) => (show X.rangeAt c 2 ZL ∧ X.cell? ⟨c, 34, none⟩ = some dn ∧ X.cell? ⟨w.heap.size, 0, none⟩ = some (.int .i64 (p : Int)) ∧ X.cell? ⟨w.heap.size, 1, none⟩ = some (.int .i64 (d : Int)) ∧ X.cell? ⟨w.heap.size, 2, none⟩ = some (.slice a3 ins.length c3) from
    have q := HS9.out X t dn (HBK.out X h) (HXK.out X h)
    ⟨q.1, (HBK.out X h).c34, q.2.2⟩))
  have HSY := Lib.hid (fun (X : World) (h : KeepT Dn w4 X) => HS9.out (X.setCell ⟨c, 0, none⟩ (.pointer (some ⟨t', 0, none⟩))) t' dn ((HBK.out X h).set0 t') ((Below.heap_setCell X ⟨c, 0, none⟩ _ _ (by show w.heap.size ≠ c; omega)).trans (HXK.out X h)))
  have HEQ := Lib.hid (fun (X : World) (h : KeepT Dn w4 X) => HSAME.out (X.setCell ⟨c, 0, none⟩ (.pointer (some ⟨t', 0, none⟩))) t' dn ((HBK.out X h).set0 t'))
  have HKG := Lib.hid (fun (X Y : World) (h : KeepT Dn w4 X) (hg : X.grownBy Y dn.ownBlock) => h.grown hg (fun k hk => .inl (by rw [hDn]; exact hk)))
  have HSK := Lib.hid (fun (X : World) (h : KeepT Dn w4 X) => HSH.out X (Nat.le_trans hw (Nat.le_trans HW4.out.size h.size)))
  have HAL := Lib.hid (fun (X : World) (g : Nat) (h : KeepT Dn w4 X) (hat : dn.ownBlock = some g ∨ g = X.heap.size) => (show dn.ownBlock = some g ∨ w4.heap.size ≤ g from by
    rcases hat with h' | h'
    · exact .inl h'
    · right; rw [h']; exact h.size))
  have HD0 := Lib.hid (fun (X : World) (v : Value) (g cp : Nat) (h : KeepT Dn w4 X) (hd : DoneOf X (.slice (some ⟨g, 0, none⟩) (n + 1) cp) (n + 1)) => (show DoneOf ((X.setCell ⟨c, 0, none⟩ (.pointer (some ⟨t', 0, none⟩))).setCell ⟨c, 34, none⟩ v) (.slice (some ⟨g, 0, none⟩) (n + 1) cp) (n + 1) from
    hd.kept (S := Only c) (keepIn (eqIn c) (keepIn (eqIn c) (KeepT.refl _ _) 0 _) 34 _) (fun j hj hcj => by
      unfold Only at hcj
      subst hcj
      obtain ⟨cs, fr, hh⟩ := hd.kind hj
      have hcc := HBK.out X h
      unfold CoreB at hcc
      rw [hh] at hcc
      simp only [Option.some.injEq, Obj.cells.injEq] at hcc
      exact absurd hcc.2.1 (by decide))))
  have HX0 := Lib.hid (fun (X : World) (v : Value) (h : KeepT Dn w4 X) => (Below.heap_setCell _ ⟨c, 34, none⟩ v _ (by show w.heap.size ≠ c; omega)).trans ((Below.heap_setCell X ⟨c, 0, none⟩ (.pointer (some ⟨t', 0, none⟩)) _ (by show w.heap.size ≠ c; omega)).trans (HXK.out X h)))
  have HK0 := Lib.hid (fun (X : World) (v : Value) (h : KeepT Dn w4 X) => (show KeepT (fun j => j = c ∨ Dn j) w4 ((X.setCell ⟨c, 0, none⟩ (.pointer (some ⟨t', 0, none⟩))).setCell ⟨c, 34, none⟩ v) from keepIn (.inl rfl) (keepIn (.inl rfl) (h.mono (fun j _ hj => .inr hj)) 0 _) 34 _))
  have HK := Lib.hid (KeepT.refl Dn w4)
  have HBW := Lib.hid (Below.refl w4.heap.size w4)
  go_cut [5] from 40 (fun tv wx => tv = .pointer (some ⟨t', 0, none⟩) ∧ Hid (∃ g cp, CoreB wx c t' (k : Int) last r dirty undo (some was) held (.slice (some ⟨g, 0, none⟩) (n + 1) cp) ∧ DoneOf wx (.slice (some ⟨g, 0, none⟩) (n + 1) cp) (n + 1) ∧ (dn.ownBlock = some g ∨ w4.heap.size ≤ g) ∧ g < wx.heap.size ∧
    wx.heap[w.heap.size]? = some (.cells #[.int .i64 (p : Int), .int .i64 (d : Int), .slice a3 ins.length c3] 37 (0, 0)) ∧ KeepT (fun j => j = c ∨ Dn j) w4 wx))
  case first =>
    refine wp_region_noPanic ?_
    refine wp_region_any (by kernel_rfl) ?_
    change wpAny _ _ _ _ _ _ _ w4.drew
    refine wpAny_takeL (i := 1) (v := ?_) rfl (by kernel_rfl) (by kernel_rfl) (by kernel_rfl) (fun _ _ _ h => h) (Or.inl ⟨by rfl, ?_⟩) ?_
    rotate_left
    · intro w
      go_simp
      (try with_reducible rfl)
    (try simp only [Act.put, List.setIfInBounds_toArray, List.set_cons_zero, List.set_cons_succ])
    refine wpAny_takeL (i := 2) (v := ?_) rfl (by kernel_rfl) (by kernel_rfl) (by kernel_rfl) (fun _ _ _ h => h) (Or.inl ⟨by rfl, ?_⟩) ?_
    rotate_left
    · intro w
      go_simp
      (try with_reducible rfl)
    (try simp only [Act.put, List.setIfInBounds_toArray, List.set_cons_zero, List.set_cons_succ])
    refine wpAny_parted_held 18 16 (((Array.replicate 29 false).setIfInBounds 1 true).setIfInBounds 2 true) (fun w' => w'.rangeAt c 2 ZL ∧ w'.cell? ⟨c, 34, none⟩ = some dn ∧ w'.cell? ⟨w.heap.size, 0, none⟩ = some (.int .i64 (p : Int)) ∧ w'.cell? ⟨w.heap.size, 1, none⟩ = some (.int .i64 (d : Int)) ∧ w'.cell? ⟨w.heap.size, 2, none⟩ = some (.slice a3 ins.length c3)) (by kernel_rfl) (HSX.out _ HK.out.drew) (fun hHeld => ?_)
    simp only [List.take_succ_cons, List.take_zero, List.drop_succ_cons, List.drop_zero]
    refine wpAnyH_takeL (i := 0) (v := ?_) rfl (by kernel_rfl) (by kernel_rfl) (by kernel_rfl) (fun _ _ _ h => h) (Or.inl ⟨by rfl, ?_⟩) (by assumption) ?_
    rotate_left
    · intro w hSw
      (try dsimp only at hSw)
      go_simp
      (try with_reducible rfl)
    (try simp only [Act.put, List.setIfInBounds_toArray, List.set_cons_zero, List.set_cons_succ])
    refine wpAnyH_takeL (i := 3) (v := ?_) rfl (by kernel_rfl) (by kernel_rfl) (by kernel_rfl) (fun _ _ _ h => h) (Or.inl ⟨by rfl, ?_⟩) (by assumption) ?_
    rotate_left
    · intro w hSw
      (try dsimp only at hSw)
      go_simp
      (try with_reducible rfl)
    (try simp only [Act.put, List.setIfInBounds_toArray, List.set_cons_zero, List.set_cons_succ])
    refine wpAnyH_takeL (i := 4) (v := ?_) rfl (by kernel_rfl) (by kernel_rfl) (by kernel_rfl) (fun _ _ _ h => h) (Or.inl ⟨by rfl, ?_⟩) (by assumption) ?_
    rotate_left
    · intro w hSw
      (try dsimp only at hSw)
      go_simp
      (try with_reducible rfl)
    (try simp only [Act.put, List.setIfInBounds_toArray, List.set_cons_zero, List.set_cons_succ])
    refine wpAnyH_takeL (i := 5) (v := ?_) rfl (by kernel_rfl) (by kernel_rfl) (by kernel_rfl) (fun _ _ _ h => h) (Or.inl ⟨by rfl, ?_⟩) (by assumption) ?_
    rotate_left
    · intro w hSw
      (try dsimp only at hSw)
      go_simp
      (try with_reducible rfl)
    (try simp only [Act.put, List.setIfInBounds_toArray, List.set_cons_zero, List.set_cons_succ])
    refine wpAnyH_takeL (i := 6) (v := ?_) rfl (by kernel_rfl) (by kernel_rfl) (by kernel_rfl) (fun _ _ _ h => h) (Or.inl ⟨by rfl, ?_⟩) (by assumption) ?_
    rotate_left
    · intro w hSw
      (try dsimp only at hSw)
      go_simp
      (try with_reducible rfl)
    (try simp only [Act.put, List.setIfInBounds_toArray, List.set_cons_zero, List.set_cons_succ])
    refine wpAnyH_takeL (i := 7) (v := ?_) rfl (by kernel_rfl) (by kernel_rfl) (by kernel_rfl) (fun _ _ _ h => h) (Or.inl ⟨by rfl, ?_⟩) (by assumption) ?_
    rotate_left
    · intro w hSw
      (try dsimp only at hSw)
      go_simp
      (try with_reducible rfl)
    (try simp only [Act.put, List.setIfInBounds_toArray, List.set_cons_zero, List.set_cons_succ])
    refine wpAnyH_takeL (i := 8) (v := _) rfl (by kernel_rfl) (by kernel_rfl) (by kernel_rfl) (fun _ _ _ h => h) (yieldsIf_load_mid (by rfl) 86 _ rfl c 2 rfl ZL _ (fun w hSw => hSw.1) hum rfl him) (by assumption) ?_
    (try simp only [Act.put, List.setIfInBounds_toArray, List.set_cons_zero, List.set_cons_succ])
    refine wpAnyH_takeL (i := 9) (v := ?_) rfl (by kernel_rfl) (by kernel_rfl) (by kernel_rfl) (fun _ _ _ h => h) (Or.inl ⟨by rfl, ?_⟩) (by assumption) ?_
    rotate_left
    · intro w hSw
      (try dsimp only at hSw)
      go_simp
      (try with_reducible rfl)
    (try simp only [Act.put, List.setIfInBounds_toArray, List.set_cons_zero, List.set_cons_succ])
    refine wpAnyH_takeL (i := 11) (v := ?_) rfl (by kernel_rfl) (by kernel_rfl) (by kernel_rfl) (fun _ _ _ h => h) (Or.inl ⟨by rfl, ?_⟩) (by assumption) ?_
    rotate_left
    · intro w hSw
      (try dsimp only at hSw)
      go_simp
      (try with_reducible rfl)
    (try simp only [Act.put, List.setIfInBounds_toArray, List.set_cons_zero, List.set_cons_succ])
    refine wpAnyH_takeL (i := 12) (v := ?_) rfl (by kernel_rfl) (by kernel_rfl) (by kernel_rfl) (fun _ _ _ h => h) (Or.inl ⟨by rfl, ?_⟩) (by assumption) ?_
    rotate_left
    · intro w hSw
      (try dsimp only at hSw)
      go_simp
      (try with_reducible rfl)
    (try simp only [Act.put, List.setIfInBounds_toArray, List.set_cons_zero, List.set_cons_succ])
    refine wpAnyH_takeL (i := 13) (v := ?_) rfl (by kernel_rfl) (by kernel_rfl) (by kernel_rfl) (fun _ _ _ h => h) (Or.inl ⟨by rfl, ?_⟩) (by assumption) ?_
    rotate_left
    · intro w hSw
      (try dsimp only at hSw)
      go_simp
      (try with_reducible rfl)
    (try simp only [Act.put, List.setIfInBounds_toArray, List.set_cons_zero, List.set_cons_succ])
    refine wpAnyH_takeL (i := 14) (v := ?_) rfl (by kernel_rfl) (by kernel_rfl) (by kernel_rfl) (fun _ _ _ h => h) (Or.inl ⟨by rfl, ?_⟩) (by assumption) ?_
    rotate_left
    · intro w hSw
      (try dsimp only at hSw)
      go_simp
      (try with_reducible rfl)
    (try simp only [Act.put, List.setIfInBounds_toArray, List.set_cons_zero, List.set_cons_succ])
    refine wpAnyH_takeL (i := 15) (v := ?_) rfl (by kernel_rfl) (by kernel_rfl) (by kernel_rfl) (fun _ _ _ h => h) (Or.inl ⟨by rfl, ?_⟩) (by assumption) ?_
    rotate_left
    · intro w hSw
      (try dsimp only at hSw)
      go_simp
      (try with_reducible rfl)
    (try simp only [Act.put, List.setIfInBounds_toArray, List.set_cons_zero, List.set_cons_succ])
    refine wpAnyH_ready (rs := [10, 16]) (by kernel_rfl) (by simp) ?_
    refine AllReadyH.consL rfl (fun K hK => ?_) ?_
    · go_simp
      (with_reducible refine (HSK.out _ (by first | exact HK.out | exact HK.out.drew | exact HK.out.alloc _ | exact HK.out.drew.alloc _ | exact (HK.out.alloc _).drew)).mono ?_)
      rintro e w5 ⟨rfl, hb5⟩
      (try have HD6 := Lib.hid (HD6.out.later hb5))
      (try have HLT := Lib.hid (Nat.lt_of_lt_of_le HLT.out hb5.size))
      (try first | have HBB := Lib.hid (blk_later hb5) | have HBB := Lib.hid ((hb5.block _ (lt_of_heap (heap_alloc_at _ _))).trans (heap_alloc_at _ _)))
      (try have HBW := Lib.hid (show Below w4.heap.size w4 w5 by first | exact HBW.out.trans (hb5.mono HBW.out.size) | exact HBW.out.drew.trans (hb5.mono HBW.out.drew.size) | exact (HBW.out.alloc HBW.out.size _).trans (hb5.mono (HBW.out.alloc HBW.out.size _).size) | exact (HBW.out.drew.alloc HBW.out.drew.size _).trans (hb5.mono (HBW.out.drew.alloc HBW.out.drew.size _).size) | exact (HBW.out.alloc HBW.out.size _).drew.trans (hb5.mono (HBW.out.alloc HBW.out.size _).drew.size)))
      have HK := Lib.hid (show KeepT Dn w4 w5 by first | exact HK.out.then_below hb5 | exact HK.out.drew.then_below hb5 | exact (HK.out.alloc _).then_below hb5 | exact (HK.out.drew.alloc _).then_below hb5 | exact (HK.out.alloc _).drew.then_below hb5)
      clear hb5
      refine hK.out _ _ ?_ (fun hHeld => ?_)
      · first | exact HSX.out _ HK.out | exact HSX.out _ HK.out.drew | exact HSX.out _ (HK.out.alloc _) | exact HSX.out _ (HK.out.drew.alloc _) | exact HSX.out _ (HK.out.alloc _).drew
      clear hK K
      (try simp only [List.setIfInBounds_toArray])
      refine wpAnyH_ready (rs := [16]) (by kernel_rfl) (by simp) ?_
      refine AllReadyH.consL rfl (fun K hK => ?_) ?_
      · go_simp
        refine hK.out _ _ ?_ (fun hHeld => ?_)
        · first | exact HSX.out _ HK.out | exact HSX.out _ HK.out.drew | exact HSX.out _ (HK.out.alloc _) | exact HSX.out _ (HK.out.drew.alloc _) | exact HSX.out _ (HK.out.alloc _).drew
        clear hK K
        (try simp only [List.setIfInBounds_toArray])
        refine wpAnyH_ready (rs := [17]) (by kernel_rfl) (by simp) ?_
        refine AllReadyH.consL rfl (fun K hK => ?_) ?_
        · refine step_append_done rfl (.tmp 54) (.tmp 56) rfl dn n rfl (by first | exact HD4.out.later HBW.out | exact HD4.out.later HBW.out.drew | exact HD4.out.later (HBW.out.alloc HBW.out.size _) | exact HD4.out.later (HBW.out.drew.alloc HBW.out.drew.size _) | exact HD4.out.later (HBW.out.alloc HBW.out.size _).drew) _ rfl _ _ _ 37 (by first | exact HBB.out | exact heap_alloc_at _ _ | exact heap_alloc_drew _ _) rfl rfl rfl (by omega) ?_
          intro g cp w6 hd6 hg6 hat hlt
          have HD6 := Lib.hid hd6
          have HLT := Lib.hid hlt
          have HAT := Lib.hid (HAL.out _ g (by first | exact HK.out | exact HK.out.drew | exact HK.out.alloc _ | exact HK.out.drew.alloc _ | exact (HK.out.alloc _).drew) hat)
          have HK := Lib.hid (show KeepT Dn w4 w6 by first | exact HKG.out _ _ HK.out hg6 | exact HKG.out _ _ HK.out.drew hg6 | exact HKG.out _ _ (HK.out.alloc _) hg6 | exact HKG.out _ _ (HK.out.drew.alloc _) hg6 | exact HKG.out _ _ (HK.out.alloc _).drew hg6)
          clear hd6 hg6 hat hlt HBW
          refine hK.out _ _ ?_ (fun hHeld => ?_)
          · first | exact HSX.out _ HK.out | exact HSX.out _ HK.out.drew | exact HSX.out _ (HK.out.alloc _) | exact HSX.out _ (HK.out.drew.alloc _) | exact HSX.out _ (HK.out.alloc _).drew
          clear hK K
          (try simp only [Act.put, List.setIfInBounds_toArray, List.set_cons_zero, List.set_cons_succ])
          refine wpAnyH_done (by kernel_rfl) ?_ _
          have e34 := (HBK.out _ HK.out).c34
          have f34 := (HBK.out _ HK.out).fz 34
          have e0 := (HBK.out _ HK.out).c0
          have f0 := (HBK.out _ HK.out).fz 0
          have HTH := Lib.hid (HSY.out _ HK.out).2.1
          change wpList _ _ _ _ _ _
          go_wp2_with (refine wpList_store_mid rfl 86 _ _ rfl c 2 ZL.toArray rfl rfl (by simpa only [List.size_toArray, hlm] using HTH.out) him (all_oneCell_toArray hom) ?_)
          refine NoPanic.normal ?_
          go_wp2_with fail
          go_meet
          case rel =>
            exact ⟨rfl, Lib.hid ⟨g, cp, by rw [HEQ.out _ HK.out]; exact ((HBK.out _ HK.out).set0 t').set34 _, by rw [HEQ.out _ HK.out]; exact HD0.out _ _ g cp HK.out HD6.out, HAT.out, by rw [HEQ.out _ HK.out]; simpa [World.setCell] using HLT.out, by rw [HEQ.out _ HK.out]; exact HX0.out _ _ HK.out, by rw [HEQ.out _ HK.out]; exact HK0.out _ _ HK.out⟩⟩
        exact AllReadyH.nil
      exact AllReadyH.nil
    refine AllReadyH.consL rfl (fun K hK => ?_) ?_
    · go_simp
      refine hK.out _ _ ?_ (fun hHeld => ?_)
      · first | exact HSX.out _ HK.out | exact HSX.out _ HK.out.drew | exact HSX.out _ (HK.out.alloc _) | exact HSX.out _ (HK.out.drew.alloc _) | exact HSX.out _ (HK.out.alloc _).drew
      clear hK K
      (try simp only [List.setIfInBounds_toArray])
      refine wpAnyH_ready (rs := [10]) (by kernel_rfl) (by simp) ?_
      refine AllReadyH.consL rfl (fun K hK => ?_) ?_
      · go_simp
        (with_reducible refine (HSK.out _ (by first | exact HK.out | exact HK.out.drew | exact HK.out.alloc _ | exact HK.out.drew.alloc _ | exact (HK.out.alloc _).drew)).mono ?_)
        rintro e w5 ⟨rfl, hb5⟩
        (try have HD6 := Lib.hid (HD6.out.later hb5))
        (try have HLT := Lib.hid (Nat.lt_of_lt_of_le HLT.out hb5.size))
        (try first | have HBB := Lib.hid (blk_later hb5) | have HBB := Lib.hid ((hb5.block _ (lt_of_heap (heap_alloc_at _ _))).trans (heap_alloc_at _ _)))
        (try have HBW := Lib.hid (show Below w4.heap.size w4 w5 by first | exact HBW.out.trans (hb5.mono HBW.out.size) | exact HBW.out.drew.trans (hb5.mono HBW.out.drew.size) | exact (HBW.out.alloc HBW.out.size _).trans (hb5.mono (HBW.out.alloc HBW.out.size _).size) | exact (HBW.out.drew.alloc HBW.out.drew.size _).trans (hb5.mono (HBW.out.drew.alloc HBW.out.drew.size _).size) | exact (HBW.out.alloc HBW.out.size _).drew.trans (hb5.mono (HBW.out.alloc HBW.out.size _).drew.size)))
        have HK := Lib.hid (show KeepT Dn w4 w5 by first | exact HK.out.then_below hb5 | exact HK.out.drew.then_below hb5 | exact (HK.out.alloc _).then_below hb5 | exact (HK.out.drew.alloc _).then_below hb5 | exact (HK.out.alloc _).drew.then_below hb5)
        clear hb5
        refine hK.out _ _ ?_ (fun hHeld => ?_)
        · first | exact HSX.out _ HK.out | exact HSX.out _ HK.out.drew | exact HSX.out _ (HK.out.alloc _) | exact HSX.out _ (HK.out.drew.alloc _) | exact HSX.out _ (HK.out.alloc _).drew
        clear hK K
        (try simp only [List.setIfInBounds_toArray])
        refine wpAnyH_ready (rs := [17]) (by kernel_rfl) (by simp) ?_
        refine AllReadyH.consL rfl (fun K hK => ?_) ?_
        · refine step_append_done rfl (.tmp 54) (.tmp 56) rfl dn n rfl (by first | exact HD4.out.later HBW.out | exact HD4.out.later HBW.out.drew | exact HD4.out.later (HBW.out.alloc HBW.out.size _) | exact HD4.out.later (HBW.out.drew.alloc HBW.out.drew.size _) | exact HD4.out.later (HBW.out.alloc HBW.out.size _).drew) _ rfl _ _ _ 37 (by first | exact HBB.out | exact heap_alloc_at _ _ | exact heap_alloc_drew _ _) rfl rfl rfl (by omega) ?_
          intro g cp w6 hd6 hg6 hat hlt
          have HD6 := Lib.hid hd6
          have HLT := Lib.hid hlt
          have HAT := Lib.hid (HAL.out _ g (by first | exact HK.out | exact HK.out.drew | exact HK.out.alloc _ | exact HK.out.drew.alloc _ | exact (HK.out.alloc _).drew) hat)
          have HK := Lib.hid (show KeepT Dn w4 w6 by first | exact HKG.out _ _ HK.out hg6 | exact HKG.out _ _ HK.out.drew hg6 | exact HKG.out _ _ (HK.out.alloc _) hg6 | exact HKG.out _ _ (HK.out.drew.alloc _) hg6 | exact HKG.out _ _ (HK.out.alloc _).drew hg6)
          clear hd6 hg6 hat hlt HBW
          refine hK.out _ _ ?_ (fun hHeld => ?_)
          · first | exact HSX.out _ HK.out | exact HSX.out _ HK.out.drew | exact HSX.out _ (HK.out.alloc _) | exact HSX.out _ (HK.out.drew.alloc _) | exact HSX.out _ (HK.out.alloc _).drew
          clear hK K
          (try simp only [Act.put, List.setIfInBounds_toArray, List.set_cons_zero, List.set_cons_succ])
          refine wpAnyH_done (by kernel_rfl) ?_ _
          have e34 := (HBK.out _ HK.out).c34
          have f34 := (HBK.out _ HK.out).fz 34
          have e0 := (HBK.out _ HK.out).c0
          have f0 := (HBK.out _ HK.out).fz 0
          have HTH := Lib.hid (HSY.out _ HK.out).2.1
          change wpList _ _ _ _ _ _
          go_wp2_with (refine wpList_store_mid rfl 86 _ _ rfl c 2 ZL.toArray rfl rfl (by simpa only [List.size_toArray, hlm] using HTH.out) him (all_oneCell_toArray hom) ?_)
          refine NoPanic.normal ?_
          go_wp2_with fail
          go_meet
          case rel =>
            exact ⟨rfl, Lib.hid ⟨g, cp, by rw [HEQ.out _ HK.out]; exact ((HBK.out _ HK.out).set0 t').set34 _, by rw [HEQ.out _ HK.out]; exact HD0.out _ _ g cp HK.out HD6.out, HAT.out, by rw [HEQ.out _ HK.out]; simpa [World.setCell] using HLT.out, by rw [HEQ.out _ HK.out]; exact HX0.out _ _ HK.out, by rw [HEQ.out _ HK.out]; exact HK0.out _ _ HK.out⟩⟩
        exact AllReadyH.nil
      exact AllReadyH.nil
    exact AllReadyH.nil
  case rest =>
    obtain ⟨rfl, hR⟩ := hcut
    obtain ⟨g, cp, hbC, hdC, hat, hlt, hxC, hkC⟩ := hR
    have HBC := Lib.hid hbC
    have HDN := Lib.hid hdC
    have HXC := Lib.hid hxC
    have HTC := Lib.hid (show TabOf (fun j => (S j ∨ j = w.heap.size) ∨ j = g) wc t' (tabSpl ps ⟨p, d, ins⟩) from (HT4.out.apart (S' := fun j => (S j ∨ j = w.heap.size) ∨ j = g) (fun j hj => by
      rcases hj with hj | rfl
      · exact .inl hj
      · rcases hat with hat | hat
        · exact .inl (.inl (hdS _ hat))
        · exact .inr hat)).kept (hkC.mono (fun j _ hj => by
      rcases hj with rfl | hj
      · exact .inl (.inl hc)
      · rw [hDn] at hj; exact .inl (.inl (hdS _ hj)))))
    have HKC := Lib.hid hkC
    have HAT := Lib.hid (show dn.ownBlock = some g ∨ w.heap.size ≤ g from hat.imp_right (fun h => Nat.le_trans HW4.out.size h))
    have HLT := Lib.hid hlt
    clear hbC hdC hat hlt hxC hkC HD0 HX0 HK0 HS9 HSX HSY HEQ HKG HSK HAL HK HBW HSH HSAME HRNG hq1 hq2 HQ3 HBK HXK hlm him hum hom HT4 HD4 HB4
    have e1 := HBC.out.c1
    have e0 := HBC.out.c0
    have f1 := HBC.out.fz 1
    have b0 := Lib.cell_of_heap HXC.out 0
    have b1 := Lib.cell_of_heap HXC.out 1
    have b2 := Lib.cell_of_heap HXC.out 2
    simp only [List.getElem?_toArray, List.getElem?_cons_succ, List.getElem?_cons_zero] at b0 b1 b2
    obtain ⟨N, hN'⟩ : ∃ N, N = manyS (tabSpl ps ⟨(p : Int), (d : Int), ins⟩) := ⟨_, rfl⟩
    rw [← hN'] at hN
    have HML := Lib.hid (fun (X : World) => marksLine_any k p d ins.length a3 c3 X (by omega) (by omega) (by omega) (by omega))
    have HGO := Lib.hid (fun (X : World) (hb : Below wc.heap.size wc X) => (coreN_of (S := fun j => (S j ∨ j = w.heap.size) ∨ j = g) (ps := tabSpl ps ⟨(p : Int), (d : Int), ins⟩) (⟨(HBC.out.later hb).c0, (HBC.out.later hb).c1, HTC.out.later hb, by have := tabSpl_len ps ⟨(p : Int), (d : Int), ins⟩; omega, by omega⟩ : CoreOf _ X c t' (k : Int) _)))
    rw [← hN'] at HGO
    have HGC := Lib.hid (show ∀ j, (Value.slice (some ⟨g, 0, none⟩) (n + 1) cp).ownBlock = some j → ¬ Only c j by
      intro j hj hcj
      unfold Only at hcj
      subst hcj
      obtain ⟨cs, fr, hh⟩ := HDN.out.kind hj
      have hcc := HBC.out
      unfold CoreB at hcc
      rw [hh] at hcc
      simp only [Option.some.injEq, Obj.cells.injEq] at hcc
      exact absurd hcc.2.1 (by decide))
    have HFT := Lib.hid (fun (X : World) (h : TabOf (fun j => (S j ∨ j = w.heap.size) ∨ j = g) X t' (tabSpl ps ⟨p, d, ins⟩)) => h.apart (S' := fun j => S j ∨ j = g) (fun j hj => .inl (hj.imp_left .inl)))
    have HFK := Lib.hid (fun (X : World) (h : KeepT (fun j => j = c ∨ Dn j) w4 X) => ((KeepT.of_below HW4.out).trans (S := fun j => j = c ∨ dn.ownBlock = some j) h (fun j _ hj => by rw [hDn] at hj; exact hj)))
    have HN := Lib.hid hN
    by_cases hg : (lineM k p d ins.length).2 = true
    · have hcs := Lib.hid (curS_line (N := N) hg (by unfold lineM at hg; split at hg; cases hg; split at hg; exact .inr (by assumption); split at hg; cases hg; omega))
      clear hN
      rw [hg] at HML
      rw [hcs.out] at HML
      clear hg
      go_wp2_with fail
      go_region_held3 (fun w' => w'.cell? ⟨c, 1, none⟩ = some (.int .i64 (k : Int)) ∧ w'.cell? ⟨w.heap.size, 0, none⟩ = some (.int .i64 (p : Int)) ∧ w'.cell? ⟨w.heap.size, 1, none⟩ = some (.int .i64 (d : Int)) ∧ w'.cell? ⟨w.heap.size, 2, none⟩ = some (.slice a3 ins.length c3))
        (first | exact ⟨e1, b0, b1, b2⟩ | exact ⟨q0, q1, q2, q3⟩ | go_keep)
        (first
          | ((with_reducible refine (HML.out _).mono ?_); rintro e wL ⟨rfl, hbL⟩; have HBL := Lib.hid ((below_alloc_drew wc).trans hbL); have q0 := (hbL.cell (p := ⟨c, 1, none⟩) (lt_of_cell e1)).trans e1; have q1 := (hbL.cell (p := ⟨w.heap.size, 0, none⟩) (lt_of_cell b0)).trans b0; have q2 := (hbL.cell (p := ⟨w.heap.size, 1, none⟩) (lt_of_cell b1)).trans b1; have q3 := (hbL.cell (p := ⟨w.heap.size, 2, none⟩) (lt_of_cell b2)).trans b2; clear hbL)
          | (fail "no arm"))
      have HBX := Lib.hid (HBC.out.later HBL.out)
      have f1' := HBX.out.fz 1
      go_wp2_with fail
      go_returns
      have hmin : N = manyS (tabSpl ps ⟨(p : Int), (d : Int), ins⟩) := hN'
      refine ⟨rfl, t', g, cp, ?_, ?_, ?_, HAT.out, ?_, ?_⟩
      · rw [← hmin]; exact HBX.out.set1 _
      · exact (HDN.out.later HBL.out).kept (S := Only c) (keepIn (eqIn c) (KeepT.refl _ _) 1 _) (HGC.out)
      · exact HFT.out _ ((HTC.out.later HBL.out).kept (keepIn (.inl (.inl hc)) (KeepT.refl _ _) 1 _))
      · simpa [World.setCell] using Nat.lt_of_lt_of_le HLT.out HBL.out.size
      · exact HFK.out _ (keepIn (.inl rfl) (HKC.out.then_below HBL.out) 1 _)
    · have hg' : (lineM k p d ins.length).2 = false := by simpa using hg
      have hcs := Lib.hid (curS_gone (N := N) hg')
      obtain ⟨gl, hgl⟩ : ∃ gl, gl = (lineM k p d ins.length).1 := ⟨_, rfl⟩
      rw [hg', ← hgl] at HML
      clear hg hg' hgl hN
      have hsum : IntKind.i64.wrap ((p : Int) + 1) = (p : Int) + 1 := IntWalk.i64_in _ (by omega)
      have hmn : min ((p : Int) + 1) (N : Int) = ((min (p + 1) N : Nat) : Int) := by omega
      go_wp2_with fail
      go_region_held3 (fun w' => w'.cell? ⟨c, 1, none⟩ = some (.int .i64 (k : Int)) ∧ w'.cell? ⟨w.heap.size, 0, none⟩ = some (.int .i64 (p : Int)) ∧ w'.cell? ⟨w.heap.size, 1, none⟩ = some (.int .i64 (d : Int)) ∧ w'.cell? ⟨w.heap.size, 2, none⟩ = some (.slice a3 ins.length c3))
        (first | exact ⟨e1, b0, b1, b2⟩ | exact ⟨q0, q1, q2, q3⟩ | go_keep)
        (first
          | ((with_reducible refine (HML.out _).mono ?_); rintro e wL ⟨rfl, hbL⟩; have HBL := Lib.hid ((below_alloc_drew wc).trans hbL); have q0 := (hbL.cell (p := ⟨c, 1, none⟩) (lt_of_cell e1)).trans e1; have q1 := (hbL.cell (p := ⟨w.heap.size, 0, none⟩) (lt_of_cell b0)).trans b0; have q2 := (hbL.cell (p := ⟨w.heap.size, 1, none⟩) (lt_of_cell b1)).trans b1; have q3 := (hbL.cell (p := ⟨w.heap.size, 2, none⟩) (lt_of_cell b2)).trans b2; clear hbL)
          | (fail "no arm"))
      have HBX := Lib.hid (HBC.out.later HBL.out)
      have f1' := HBX.out.fz 1
      have hq5 : ∀ v, (wL.setCell ⟨c, 1, none⟩ v).drew.cell? ⟨w.heap.size, 0, none⟩ = some (.int .i64 (p : Int)) := fun v => by
        rw [← q1]
        exact World.cell?_of_block (w := wL) (Below.heap_setCell wL ⟨c, 1, none⟩ v _ (by show w.heap.size ≠ c; omega))
      go_wp2_with fail
      go_region_held3 (fun w' => w'.cell? ⟨w.heap.size, 0, none⟩ = some (.int .i64 (p : Int)))
        (first | exact q1 | exact hq5 _ | go_keep)
        (first
          | ((with_reducible refine (HGO.out _ HBL.out.drew).mono ?_); rintro e wM ⟨rfl, rfl⟩)
          | (fail "no arm"))
      go_wp2_with fail
      go_returns
      have hmin : N = manyS (tabSpl ps ⟨(p : Int), (d : Int), ins⟩) := hN'
      refine ⟨rfl, t', g, cp, ?_, ?_, ?_, HAT.out, ?_, ?_⟩
      · rw [← hmin, hcs.out, show (((min (p + 1) N : Nat) : Int)) = min ((p : Int) + 1) (N : Int) by omega]; exact HBX.out.set1 _
      · exact ((HDN.out.later HBL.out).kept (S := Only c) (keepIn (eqIn c) (KeepT.refl _ _) 1 _).drew (HGC.out))
      · exact HFT.out _ ((HTC.out.later HBL.out).kept (keepIn (.inl (.inl hc)) (KeepT.refl _ _) 1 _).drew)
      · exact (show g < (wL.setCell _ _).heap.size by simpa [World.setCell] using Nat.lt_of_lt_of_le HLT.out HBL.out.size)
      · exact HFK.out _ (keepIn (.inl rfl) (HKC.out.then_below HBL.out) 1 _).drew
end
end Go.Proofs.YtlcjjcmfpmflcaaGreatDoor
