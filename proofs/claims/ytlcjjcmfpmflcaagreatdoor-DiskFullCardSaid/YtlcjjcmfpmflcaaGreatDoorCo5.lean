/- core: a buffer's block, cell by cell; registers copied. -/
import Derived.Test.YtlcjjcmfpmflcaaGreatDoorCo1
import Derived.Deep.MidRow
import Derived.Deep.WholeRow
import Derived.Deep.RegionHeld3
import Derived.Test.YtlcjjcmfpmflcaaGreatDoorVsR
import Derived.Test.YtlcjjcmfpmflcaaGreatDoorHk6
import Derived.Test.YtlcjjcmfpmflcaaGreatDoorPcs1
import Derived.Deep.AppendLies
set_option linter.unusedVariables false
set_option linter.unusedSimpArgs false
namespace Go.Proofs.YtlcjjcmfpmflcaaGreatDoor
open Go Go.Proofs Go.RowKit Go.Ink Go.Sort

/-! Registers, copied. -/
theorem run_maps_clone {w : World} {r : Nat} {es : Array MapEntry} {clock : Nat} (t : TypeId) (hb : w.heap[r]? = some (.map es clock)) :
    (Extern.MapsClone.clone #[.iface t (.map (some r))]).run Tryz.prog w = .ok (.iface t (.map (some w.heap.size))) (w.alloc (.map es clock)) := by
  have e : Extern.MapsClone.clone #[.iface t (.map (some r))] = (getObj r >>= fun o => match o with
      | .map entries clock => (newObj (.map entries clock) >>= fun n => pure (.iface t (.map (some n))))
      | _ => stuck "maps.clone: a map expected") := rfl
  have hget : (getObj r).run Tryz.prog w = .ok (.map es clock) w := by simp [getObj, Sem.run, hb]
  rw [e]
  simp [hget, Result.andThen, go_sem]
theorem run_typeAssert_map {w : World} (t xT k e : TypeId) (v : Value) (h : Tryz.prog.underlying t = some (.map k e)) : (Instr.typeAssert (.iface t v) xT t false).run Tryz.prog w = .ok v w := by
  simp [Instr.typeAssert, run_underlying h, go_sem, Result.andThen]
theorem run_equalIn_map_nil {w : World} (d : Nat) (t k e : TypeId) (p : Option Nat) (h : Tryz.prog.underlying t = some (.map k e)) :
    (Op.equalIn (d + 1) t (.map p) (.map none)).run Tryz.prog w = .ok p.isNone w := by
  cases p <;> simp [Op.equalIn, run_underlying h]
theorem run_map_nil {w : World} (t k e : TypeId) (p : Option Nat) (h : Tryz.prog.underlying t = some (.map k e)) : (Go.binOp .eql t (.map p) (.map none)).run Tryz.prog w = .ok (.bool p.isNone) w := by
  simp only [Go.binOp]
  simp [show Op.equal t (.map p) (.map none) = Op.equalIn (9999 + 1) t (.map p) (.map none) from rfl, run_equalIn_map_nil 9999 t k e p h]
set_option maxRecDepth 100000 in
theorem mapsClone_any (b : Nat) (es : Array MapEntry) (clock : Nat) (w : World) (hb : w.heap[b]? = some (.map es clock)) :
    Calls Tryz.prog 89 #[.map (some b)] w fun e w' => e = .returned (.map (some w.heap.size)) ∧ w' = w.alloc (.map es clock) := by
  have hq := fun w => run_map_nil (w := w) 134 _ _ (some b) Tryz.underlying134
  go_enter Tryz.func89, Tryz.ntmps89
  go_wp2
  rw [run_callFunc_extern (fn := Tryz.f120) (by kernel_rfl) (by kernel_rfl) (by kernel_rfl) (by kernel_rfl) (e := Extern.MapsClone.clone) (by kernel_rfl), run_maps_clone 134 hb]
  simp only [Result.andThen]
  rw [Oper.upon_value]
  go_wp2
  rw [run_typeAssert_map 134 _ _ _ _ Tryz.underlying134]
  simp only [Result.andThen]
  rw [Oper.upon_value]
  go_wp2
  go_returns
  exact ⟨rfl, rfl⟩
set_option maxRecDepth 100000 in
theorem regsNone_of {r m : Nat} {T : TypeId} {w : World} (hr : w.heap[r]? = some (.cells #[.map (some m)] T (0, 0))) : Calls Tryz.prog 88 #[.pointer (some ⟨r, 0, none⟩)] w fun e w' => e = .returned (.bool false) ∧ w' = w := by
  have h0 : w.cell? ⟨r, 0, none⟩ = some (.map (some m)) := by rw [Lib.cell_of_heap hr]; rfl
  have hq := fun w => run_map_nil (w := w) 134 _ _ (some m) Tryz.underlying134
  clear hr
  go_enter Tryz.func88, Tryz.ntmps88
  go_wp2_with fail
  go_returns
  exact ⟨rfl, rfl⟩
theorem regsClone_any {r : Nat} {w : World} (hr : NewRegs w r) : Calls Tryz.prog 49 #[.pointer (some ⟨r, 0, none⟩)] w fun e w' => ∃ h, e = .returned (.pointer (some ⟨h, 0, none⟩)) ∧ NewRegs w' h ∧ w.heap.size ≤ h ∧ Below w.heap.size w w' := by
  obtain ⟨m, clk, h1, h2⟩ := hr
  have h0 : w.cell? ⟨r, 0, none⟩ = some (.map (some m)) := by rw [Lib.cell_of_heap h1]; rfl
  have HN := Lib.hid (regsNone_of h1)
  have HC := Lib.hid (mapsClone_any m #[] clk w h2)
  clear h1 h2
  go_enter Tryz.func49, Tryz.ntmps49
  go_wp2_with fail
  refine HN.out.mono ?_
  rintro e w1 ⟨rfl, rfl⟩
  go_wp2_with fail
  refine HC.out.mono ?_
  rintro e w2 ⟨rfl, rfl⟩
  go_wp2_with fail
  go_returns
  refine ⟨_, rfl, ⟨w1.heap.size, clk, ?_, ?_⟩, ?_, ((Below.refl _ _).alloc (Nat.le_refl _) _).alloc (by simp) _⟩
  · show ((w1.heap.push _).push _)[w1.heap.size + 1]? = _
    rw [Array.getElem?_push, if_pos (by simp)]
  · show ((w1.heap.push _).push _)[w1.heap.size]? = _
    rw [Array.getElem?_push, if_neg (by simp), Array.getElem?_push, if_pos rfl]
  · simp

/-! The block of a buffer. -/
/-- A buffer's block: no marks are set. -/
def CoreB (w : World) (c t : Nat) (cur : Int) (last : List UInt8) (r : Nat) (dirty : Bool) (undo was held : Option Addr) (dn : Value) : Prop :=
  w.heap[c]? = some (.cells (coreCells t cur noMarks last r dirty undo was held dn) 93 (0, 0))
section
variable {w w' : World} {c t : Nat} {cur : Int} {last : List UInt8} {r : Nat} {dirty : Bool} {undo was held : Option Addr} {dn : Value}
theorem CoreB.lt (h : CoreB w c t cur last r dirty undo was held dn) : c < w.heap.size := lt_of_heap h
theorem CoreB.c0 (h : CoreB w c t cur last r dirty undo was held dn) : w.cell? ⟨c, 0, none⟩ = some (.pointer (some ⟨t, 0, none⟩)) := by rw [Lib.cell_of_heap h]; rfl
theorem CoreB.c1 (h : CoreB w c t cur last r dirty undo was held dn) : w.cell? ⟨c, 1, none⟩ = some (.int .i64 cur) := by rw [Lib.cell_of_heap h]; rfl
theorem CoreB.c28 (h : CoreB w c t cur last r dirty undo was held dn) : w.cell? ⟨c, 28, none⟩ = some (.string ⟨last.toArray⟩) := by rw [Lib.cell_of_heap h]; rfl
theorem CoreB.c29 (h : CoreB w c t cur last r dirty undo was held dn) : w.cell? ⟨c, 29, none⟩ = some (.pointer (some ⟨r, 0, none⟩)) := by rw [Lib.cell_of_heap h]; rfl
theorem CoreB.c30 (h : CoreB w c t cur last r dirty undo was held dn) : w.cell? ⟨c, 30, none⟩ = some (.bool dirty) := by rw [Lib.cell_of_heap h]; rfl
theorem CoreB.c31 (h : CoreB w c t cur last r dirty undo was held dn) : w.cell? ⟨c, 31, none⟩ = some (.pointer undo) := by rw [Lib.cell_of_heap h]; rfl
theorem CoreB.c32 (h : CoreB w c t cur last r dirty undo was held dn) : w.cell? ⟨c, 32, none⟩ = some (.pointer was) := by rw [Lib.cell_of_heap h]; rfl
theorem CoreB.c33 (h : CoreB w c t cur last r dirty undo was held dn) : w.cell? ⟨c, 33, none⟩ = some (.pointer held) := by rw [Lib.cell_of_heap h]; rfl
theorem CoreB.c34 (h : CoreB w c t cur last r dirty undo was held dn) : w.cell? ⟨c, 34, none⟩ = some dn := by rw [Lib.cell_of_heap h]; rfl
theorem CoreB.fz (h : CoreB w c t cur last r dirty undo was held dn) (j : Nat) : w.frozen? ⟨c, j, none⟩ = false := Lib.frozen_of_heap h j
theorem CoreB.kept {S : Nat → Prop} (h : CoreB w c t cur last r dirty undo was held dn) (hk : KeepT S w w') (hn : ¬ S c) : CoreB w' c t cur last r dirty undo was held dn := (hk.block c h.lt hn).trans h
theorem CoreB.later (h : CoreB w c t cur last r dirty undo was held dn) (hb : Below w.heap.size w w') : CoreB w' c t cur last r dirty undo was held dn := (hb.block c h.lt).trans h
theorem CoreB.set0 (h : CoreB w c t cur last r dirty undo was held dn) (t' : Nat) : CoreB (w.setCell ⟨c, 0, none⟩ (.pointer (some ⟨t', 0, none⟩))) c t' cur last r dirty undo was held dn := (heap_set h _).trans rfl
theorem CoreB.set1 (h : CoreB w c t cur last r dirty undo was held dn) (k : Int) : CoreB (w.setCell ⟨c, 1, none⟩ (.int .i64 k)) c t k last r dirty undo was held dn := (heap_set h _).trans rfl
theorem CoreB.set28 (h : CoreB w c t cur last r dirty undo was held dn) (l : List UInt8) : CoreB (w.setCell ⟨c, 28, none⟩ (.string ⟨l.toArray⟩)) c t cur l r dirty undo was held dn := (heap_set h _).trans rfl
theorem CoreB.set30 (h : CoreB w c t cur last r dirty undo was held dn) (b : Bool) : CoreB (w.setCell ⟨c, 30, none⟩ (.bool b)) c t cur last r b undo was held dn := (heap_set h _).trans rfl
theorem CoreB.set31 (h : CoreB w c t cur last r dirty undo was held dn) (p : Option Addr) : CoreB (w.setCell ⟨c, 31, none⟩ (.pointer p)) c t cur last r dirty p was held dn := (heap_set h _).trans rfl
theorem CoreB.set32 (h : CoreB w c t cur last r dirty undo was held dn) (p : Option Addr) : CoreB (w.setCell ⟨c, 32, none⟩ (.pointer p)) c t cur last r dirty undo p held dn := (heap_set h _).trans rfl
theorem CoreB.set33 (h : CoreB w c t cur last r dirty undo was held dn) (p : Option Addr) : CoreB (w.setCell ⟨c, 33, none⟩ (.pointer p)) c t cur last r dirty undo was p dn := (heap_set h _).trans rfl
theorem CoreB.set34 (h : CoreB w c t cur last r dirty undo was held dn) (v : Value) : CoreB (w.setCell ⟨c, 34, none⟩ v) c t cur last r dirty undo was held v := (heap_set h _).trans rfl
/-- What an undo would bring back: the first 28 cells. -/
def stateCells (t : Nat) (cur : Int) : List Value := [.pointer (some ⟨t, 0, none⟩), .int .i64 cur] ++ noMarks.map fun m => (Value.int .i64 m)
theorem coreCells_state (t : Nat) (cur : Int) (last : List UInt8) (r : Nat) (dirty : Bool) (undo was held : Option Addr) (dn : Value) (j : Nat) (v : Value) (h : (stateCells t cur)[j]? = some v) : (coreCells t cur noMarks last r dirty undo was held dn)[j]? = some v := by
  unfold coreCells
  rw [List.getElem?_toArray, List.getElem?_append_left]
  · exact h
  · exact (List.getElem?_eq_some_iff.1 h).1
theorem CoreB.state (h : CoreB w c t cur last r dirty undo was held dn) : w.rangeAt c 0 (stateCells t cur) := fun j v hj => by
  rw [Nat.zero_add, Lib.cell_of_heap h]
  exact coreCells_state _ _ _ _ _ _ _ _ _ _ _ hj
theorem CoreB.load_state (h : CoreB w c t cur last r dirty undo was held dn) : (Instr.loadAt 88 (.pointer (some ⟨c, 0, none⟩))).run Tryz.prog w = .ok (.agg (stateCells t cur).toArray) w :=
  run_loadAt_mid w c 0 _ _ _ h.state Tryz.underlying88 rfl (by kernel_rfl)
theorem CoreB.load_marks (h : CoreB w c t cur last r dirty undo was held dn) : (Instr.loadAt 86 (.pointer (some ⟨c, 2, none⟩))).run Tryz.prog w = .ok (.agg (noMarks.map fun m => (Value.int .i64 m)).toArray) w :=
  run_loadAt_mid w c 2 _ _ _ (fun j v hj => by
    rw [Lib.cell_of_heap h]
    exact coreCells_state _ _ _ _ _ _ _ _ _ _ _ (by unfold stateCells; rw [List.getElem?_append_right (by simp)]; simpa using hj)) Tryz.underlying86 rfl (by kernel_rfl)
end
end Go.Proofs.YtlcjjcmfpmflcaaGreatDoor
/- core: a change begun, ended, left undone; the pattern that was used last. -/
namespace Go.Proofs.YtlcjjcmfpmflcaaGreatDoor
open Go Go.Proofs Go.RowKit Go.Ink Go.Sort

theorem there_new (w : World) (c : Array Value) (T : TypeId) (n : Nat) (hs : c.size = n) : (w.alloc (.cells c T)).there w.heap.size 0 n := fun j hj => by
  rw [Nat.zero_add, Lib.cell_of_heap (heap_alloc_at w (.cells c T)), Array.getElem?_eq_getElem (by omega)]
  exact ⟨rfl, Lib.frozen_of_heap (heap_alloc_at w (.cells c T)) j⟩
/-- A whole value into the block that was laid last. -/
theorem setCells_new (w : World) (c c' : Array Value) (T : TypeId) (hi : (Tryz.prog.info? T).map (·.size) = some c'.size) (hs : c.size = c'.size) (h1 : c'.all (·.oneCell') = true) :
    (w.alloc (.cells c T)).setCells w.heap.size 0 c'.toList = w.alloc (.cells c' T) := by
  have a := run_storeVar_new (P := Tryz.prog) w T c c' hi hs h1
  have b := run_storeVar_mid (P := Tryz.prog) (w.alloc (.cells c T)) w.heap.size 0 T c' (there_new w c T c'.size hs) hi h1
  rw [b] at a
  injection a
theorem setCell_same {w : World} {b j : Nat} {cs : Array Value} {T : TypeId} {fr : Nat × Nat} {v : Value} (h : w.heap[b]? = some (.cells cs T fr)) (hv : cs[j]? = some v) : w.setCell ⟨b, j, none⟩ v = w := by
  have hb := (Array.getElem?_eq_some_iff.1 h)
  have e : cs.setIfInBounds j v = cs := by
    apply Array.ext_getElem?
    intro i
    rw [Array.getElem?_setIfInBounds]
    split
    · rename_i h1
      subst h1
      split
      · exact hv.symm
      · rename_i h2
        rw [Array.getElem?_eq_none (by omega)]
    · rfl
  have hh : (w.setCell ⟨b, j, none⟩ v).heap = w.heap := by
    apply Array.ext_getElem?
    intro i
    by_cases hi : i = b
    · subst hi
      rw [heap_set h v, e, h]
    · exact Below.heap_setCell w ⟨b, j, none⟩ v i hi
  cases w
  simp only [World.setCell] at hh ⊢
  simp only [hh]
theorem setCells_same {w : World} {b : Nat} {cs : Array Value} {T : TypeId} {fr : Nat × Nat} (h : w.heap[b]? = some (.cells cs T fr)) : ∀ (l : List Value) (o : Nat), (∀ j v, l[j]? = some v → cs[o + j]? = some v) → w.setCells b o l = w
  | [], _, _ => rfl
  | x :: r, o, hl => by
    rw [World.setCells, setCell_same h (by have := hl 0 x rfl; simpa using this)]
    exact setCells_same h r (o + 1) (fun j v hj => by have := hl (j + 1) v (by simpa using hj); rwa [show o + 1 + j = o + (j + 1) by omega])
theorem keepIn {S : Nat → Prop} {a w : World} {c : Nat} (hc : S c) (h : KeepT S a w) (j : Nat) (v : Value) : KeepT S a (w.setCell ⟨c, j, none⟩ v) := h.setCell (p := ⟨c, j, none⟩) (.inl hc) v
/-- One block alone. -/
def Only (c k : Nat) : Prop := k = c
theorem eqIn (c : Nat) : Only c c := rfl
/-- Registers last where the blocks that are turned are of other kinds. -/
theorem NewRegs.kept {S : Nat → Prop} {w w' : World} {r : Nat} (h : NewRegs w r) (hk : KeepT S w w') (hS : ∀ k, S k → k < w.heap.size → ∃ cs T fr, w.heap[k]? = some (.cells cs T fr) ∧ T ≠ 136) : NewRegs w' r := by
  obtain ⟨m, clk, h1, h2⟩ := h
  refine ⟨m, clk, (hk.block _ (lt_of_heap h1) (fun hs => ?_)).trans h1, (hk.block _ (lt_of_heap h2) (fun hs => ?_)).trans h2⟩
  · obtain ⟨cs, T, fr, h3, h4⟩ := hS _ hs (lt_of_heap h1)
    rw [h1] at h3
    simp only [Option.some.injEq, Obj.cells.injEq] at h3
    exact h4 h3.2.1.symm
  · obtain ⟨cs, T, fr, h3, h4⟩ := hS _ hs (lt_of_heap h2)
    rw [h2] at h3
    cases h3
section
variable {w w' : World} {c t : Nat} {cur : Int} {last : List UInt8} {r : Nat} {dirty : Bool} {undo was held : Option Addr} {dn : Value}
theorem coreNone_b (h : w.cell? ⟨c, 0, none⟩ = some (.pointer (some ⟨t, 0, none⟩))) : Calls Tryz.prog 48 #[.pointer (some ⟨c, 0, none⟩)] w fun e w' => e = .returned (.bool false) ∧ w' = w := by
  go_enter Tryz.func48, Tryz.ntmps48
  go_wp2_with fail
  go_returns
  exact ⟨rfl, rfl⟩
set_option maxRecDepth 100000 in
theorem coreBegin_of (h : CoreB w c t cur last r dirty undo none none dn) (hr : NewRegs w r) :
    Calls Tryz.prog 11 #[.pointer (some ⟨c, 0, none⟩)] w fun e w' => e = .returned (.int .i64 0) ∧ ∃ s hh, CoreB w' c t cur last r dirty undo (some ⟨s, 0, none⟩) (some ⟨hh, 0, none⟩) (.slice none 0 0) ∧
      w'.heap[s]? = some (.cells (stateCells t cur).toArray 88 (0, 0)) ∧ NewRegs w' hh ∧ w.heap.size ≤ s ∧ w.heap.size ≤ hh ∧ KeepT (Only c) w w' := by
  have HB := Lib.hid h
  have HR := Lib.hid hr
  have h32 := h.c32
  have HST := Lib.hid h.state
  have HSZ := Lib.hid (show (Tryz.prog.info? 88).map (·.size) = some (stateCells t cur).length by kernel_rfl)
  have HLN := Lib.hid (show (stateCells t cur).length = 28 from rfl)
  have HONE := Lib.hid (show (stateCells t cur).toArray.all (·.oneCell') = true by rw [List.all_toArray]; rfl)
  have HSA := Lib.hid (show (Tryz.prog.info? 88).map (·.size) = some (stateCells t cur).toArray.size by kernel_rfl)
  generalize stateCells t cur = SC at *
  have HN := Lib.hid (coreNone_b h.c0)
  clear h hr
  go_enter Tryz.func11, Tryz.ntmps11
  go_wp2_with fail
  refine HN.out.mono ?_
  rintro e w1 ⟨rfl, rfl⟩
  go_wp2_with (first
    | refine wpList_load_mid rfl 88 _ rfl c 0 rfl SC _ HST.out Tryz.underlying88 rfl HSZ.out ?_
    | (refine wpList_store_mid rfl 88 _ _ rfl w1.heap.size 0 SC.toArray rfl rfl (there_new w1 _ _ _ (by show _ = SC.length; rw [HLN.out]; rfl)) HSA.out HONE.out ?_
       rw [setCells_new w1 _ SC.toArray 88 HSA.out (by show _ = SC.length; rw [HLN.out]; rfl) HONE.out]
       have HA := Lib.hid (below_alloc w1 (.cells SC.toArray 88))
       have HW := Lib.hid (heap_alloc_at w1 (.cells SC.toArray 88))
       generalize w1.alloc (.cells SC.toArray 88) = w2 at *
       have HB2 := Lib.hid (HB.out.later HA.out)
       have h29 := HB2.out.c29))
  refine (regsClone_any (HR.out.later HA.out)).mono ?_
  rintro e w3 ⟨hh, rfl, hr3, hge, hb3⟩
  have HB3 := Lib.hid (HB2.out.later hb3)
  have HR3 := Lib.hid hr3
  have HK3 := Lib.hid (HA.out.trans (hb3.mono HA.out.size))
  have HW3 := Lib.hid ((hb3.block _ (lt_of_heap HW.out)).trans HW.out)
  have HGE := Lib.hid (Nat.le_trans HA.out.size hge)
  clear hr3 hge hb3 h29
  have s32 := HB3.out.set32 (some ⟨w1.heap.size, 0, none⟩)
  have s33 := s32.set33 (some ⟨hh, 0, none⟩)
  have s34 := s33.set34 (.slice none 0 0)
  have e32 := HB3.out.c32
  have e33 := s32.c33
  have e34 := s33.c34
  have f32 := HB3.out.fz 32
  have f33 := s32.fz 33
  have f34 := s33.fz 34
  have HS := Lib.hid s34
  clear s32 s33 s34
  go_wp2_with fail
  go_returns
  have hc := HB.out.lt
  have hk3 := HK3.out.size
  refine ⟨rfl, w1.heap.size, hh, HS.out, ?_, ?_, Nat.le_refl _, HGE.out, ?_⟩
  · rw [Below.heap_setCell _ _ _ _ (by show _ ≠ c; omega), Below.heap_setCell _ _ _ _ (by show _ ≠ c; omega), Below.heap_setCell _ _ _ _ (by show _ ≠ c; omega)]
    exact HW3.out
  · exact HR3.out.kept (S := Only c) (keepIn (eqIn c) (keepIn (eqIn c) (keepIn (eqIn c) (KeepT.refl _ _) 32 _) 33 _) 34 _) (fun k hk _ => by unfold Only at hk; subst hk; exact ⟨_, _, _, HB3.out, by decide⟩)
  · exact keepIn (eqIn c) (keepIn (eqIn c) (keepIn (eqIn c) (KeepT.of_below HK3.out) 32 _) 33 _) 34 _
end
end Go.Proofs.YtlcjjcmfpmflcaaGreatDoor
/- core: a change ended; the pattern that was used last; what addresses are asked of. -/
namespace Go.Proofs.YtlcjjcmfpmflcaaGreatDoor
open Go Go.Proofs Go.RowKit Go.Ink Go.Sort

section
variable {w w' : World} {c t : Nat} {cur : Int} {last : List UInt8} {r : Nat} {dirty : Bool} {undo was held : Option Addr} {dn : Value}
theorem coreLast_of (h : CoreB w c t cur last r dirty undo was held dn) (s : List UInt8) :
    Calls Tryz.prog 129 #[.pointer (some ⟨c, 0, none⟩), .string ⟨s.toArray⟩] w fun e w' => e = .returned (.tuple #[]) ∧ CoreB w' c t cur s r dirty undo was held dn ∧ KeepT (Only c) w w' := by
  have HB := Lib.hid h
  have HN := Lib.hid (coreNone_b h.c0)
  have e28 := h.c28
  have f28 := h.fz 28
  clear h
  go_enter Tryz.func129, Tryz.ntmps129
  go_wp2_with fail
  refine HN.out.mono ?_
  rintro e w1 ⟨rfl, rfl⟩
  go_wp2_with fail
  go_returns
  exact ⟨rfl, HB.out.set28 s, keepIn (eqIn c) (KeepT.refl _ _) 28 _⟩
set_option maxRecDepth 100000 in
theorem coreEnd_of {s : Nat} {a : Option Addr} {n cp : Nat} (h : CoreB w c t cur last r dirty undo (some ⟨s, 0, none⟩) held (.slice a n cp)) :
    Calls Tryz.prog 13 #[.pointer (some ⟨c, 0, none⟩)] w fun e w' => e = .returned (.slice a n cp) ∧ (∃ dirty' undo', CoreB w' c t cur last r dirty' undo' none none (.slice none 0 0)) ∧ KeepT (Only c) w w' := by
  have HB := Lib.hid h
  have HN := Lib.hid (coreNone_b h.c0)
  have e32 := h.c32
  have e34 := h.c34
  have f30 := h.fz 30
  have f31 := h.fz 31
  have f32 := h.fz 32
  have f33 := h.fz 33
  have f34 := h.fz 34
  have e33 := h.c33
  have e31 := h.c31
  have e30 := h.c30
  clear h
  by_cases hn : 0 < n
  · have hni : (0 : Int) < (n : Int) := by omega
    have s31 := HB.out.set31 (some ⟨s, 0, none⟩)
    have s30 := s31.set30 true
    have s32 := s30.set32 none
    have s33 := s32.set33 none
    have s34 := s33.set34 (.slice none 0 0)
    have g30 := s31.c30
    have g32 := s30.c32
    have g33 := s32.c33
    have g34 := s33.c34
    have k30 := s31.fz 30
    have k32 := s30.fz 32
    have k33 := s32.fz 33
    have k34 := s33.fz 34
    have HS := Lib.hid s34
    clear s30 s31 s32 s33 s34
    go_enter Tryz.func13, Tryz.ntmps13
    go_wp2_with fail
    refine HN.out.mono ?_
    rintro e w1 ⟨rfl, rfl⟩
    go_wp2_with fail
    go_returns
    exact ⟨rfl, ⟨_, _, HS.out⟩, keepIn (eqIn c) (keepIn (eqIn c) (keepIn (eqIn c) (keepIn (eqIn c) (keepIn (eqIn c) (KeepT.refl _ _) 31 _) 30 _) 32 _) 33 _) 34 _⟩
  · have hni : ¬ (0 : Int) < (n : Int) := by omega
    have s32 := HB.out.set32 none
    have s33 := s32.set33 none
    have s34 := s33.set34 (.slice none 0 0)
    have g33 := s32.c33
    have g34 := s33.c34
    have k33 := s32.fz 33
    have k34 := s33.fz 34
    have HS := Lib.hid s34
    clear s32 s33 s34
    go_enter Tryz.func13, Tryz.ntmps13
    go_wp2_with fail
    refine HN.out.mono ?_
    rintro e w1 ⟨rfl, rfl⟩
    go_wp2_with fail
    go_returns
    exact ⟨rfl, ⟨_, _, HS.out⟩, keepIn (eqIn c) (keepIn (eqIn c) (keepIn (eqIn c) (KeepT.refl _ _) 32 _) 33 _) 34 _⟩
end
end Go.Proofs.YtlcjjcmfpmflcaaGreatDoor
/- marks.Shift where no marks are set: run by the kernel, the splice unknown. -/
namespace Go.Proofs.YtlcjjcmfpmflcaaGreatDoor
open Go Go.Proofs Go.Ev Go.RowKit Go.Ink Go.Sort

def zerosV : List V := List.replicate 26 (.int .i64 0)
noncomputable def shiftB (r : R (V × H)) : Bool := match r with
  | .ok (.agg l, _) => vEqs l zerosV
  | _ => false
theorem shiftB_ok {r : R (V × H)} (h : shiftB r = true) : ∃ H', r = .ok (.agg zerosV, H') := by
  unfold shiftB at h
  split at h
  · rename_i l H'
    rw [vEqs_eq h]
    exact ⟨H', rfl⟩
  · cases h
set_option maxRecDepth 100000 in
theorem shift_run : shiftB (runTop Tryz.prog [] [] 3000 60 52 [.agg zerosV, .agg [.opq 0, .opq 1, .opq 2]] (h0 6)) = true := by decide +kernel
def spX (p d s : Value) : Nat → Value
  | 0 => p
  | 1 => d
  | _ => s
theorem den_zeros {ξ : Nat → Value} {G : Gh} : ∀ n : Nat, DenL ξ G (List.replicate n (.int .i64 0)) (List.replicate n (Value.int .i64 0))
  | 0 => by simp [DenL]
  | n + 1 => by rw [List.replicate_succ, List.replicate_succ]; exact DenL.cons (by simp [Den]) (den_zeros n)
theorem zeros_den {ξ : Nat → Value} {G : Gh} : ∀ (n : Nat) (l : List Value), DenL ξ G (List.replicate n (.int .i64 0)) l → l = List.replicate n (Value.int .i64 0)
  | 0, l, h => by simpa [DenL] using h
  | n + 1, l, h => by
    rw [List.replicate_succ] at h
    simp only [DenL] at h
    obtain ⟨x, xs, rfl, hx, hxs⟩ := h
    simp only [Den] at hx
    rw [hx, zeros_den n xs hxs, List.replicate_succ]
theorem noMarks_map : (noMarks.map fun m => (Value.int .i64 m)) = List.replicate 26 (Value.int .i64 0) := by unfold noMarks; rw [List.map_replicate]
theorem marksShift_none {w : World} (hw : 6 ≤ w.heap.size) (p d : Int) (a : Option Addr) (n c : Nat) :
    Calls Tryz.prog 52 #[.agg (noMarks.map fun m => (Value.int .i64 m)).toArray, .agg #[.int .i64 p, .int .i64 d, .slice a n c]] w fun e w' => e = .returned (.agg (noMarks.map fun m => (Value.int .i64 m)).toArray) ∧ Below w.heap.size w w' := by
  obtain ⟨H', h1⟩ := shiftB_ok shift_run
  refine (runTop_calls no_count mixed (by intro p hp; cases hp) (by intro p hp; cases hp) h1 (spX (.int .i64 p) (.int .i64 d) (.slice a n c)) (vars 6) _ w (vars_rep hw) (vars_glob (by kernel_rfl)) ?_).mono fun e' w' ⟨x, he, G', q1, q2, q3⟩ => ?_
  · refine DenL.cons ?_ (DenL.one ?_)
    · simp only [Den]
      exact ⟨_, rfl, by rw [noMarks_map]; exact den_zeros 26⟩
    · simp only [Den]
      refine ⟨_, rfl, DenL.cons ?_ (DenL.cons ?_ (DenL.one ?_))⟩
      all_goals (simp only [Den]; exact ⟨rfl, fun cs h => by cases h⟩)
  · simp only [Den] at q1
    obtain ⟨a', rfl, hd⟩ := q1
    have e := zeros_den 26 _ hd
    refine ⟨?_, q3.below (vars_ro _)⟩
    rw [he, noMarks_map, ← e]
end Go.Proofs.YtlcjjcmfpmflcaaGreatDoor
/- core.Splice. -/
namespace Go.Proofs.YtlcjjcmfpmflcaaGreatDoor
open Go Go.Proofs Go.RowKit Go.Ink Go.Sort

/-- The splices done so far: a row of the buffer's own. -/
def DoneOf (w : World) (v : Value) (n : Nat) : Prop := ∃ xs, w.ownsRow 0 37 3 v n xs
theorem DoneOf.nil (w : World) : DoneOf w (.slice none 0 0) 0 := ⟨[], World.ownsRow_nil _ _ _ _⟩
theorem DoneOf.later {w w' : World} {v : Value} {n : Nat} (h : DoneOf w v n) (hb : Below w.heap.size w w') : DoneOf w' v n := by
  obtain ⟨xs, h⟩ := h
  exact ⟨xs, ownsRow_below h hb⟩
theorem DoneOf.shape {w : World} {v : Value} {n : Nat} (h : DoneOf w v n) : ∃ ao cap, v = .slice ao n cap := by
  obtain ⟨xs, h⟩ := h
  rcases h.2 with ⟨rfl, rfl⟩ | ⟨g, cap, cur, rfl, _⟩
  · exact ⟨_, _, rfl⟩
  · exact ⟨_, _, rfl⟩
theorem DoneOf.kind {w : World} {v : Value} {n g : Nat} (h : DoneOf w v n) (hg : v.ownBlock = some g) : ∃ cs fr, w.heap[g]? = some (.cells cs 37 fr) := by
  obtain ⟨xs, h⟩ := h
  rcases h.2 with ⟨rfl, rfl⟩ | ⟨g', cap, cur, rfl, _, hh, _⟩
  · cases hg
  · simp only [Value.ownBlock, Option.some.injEq] at hg
    subst hg
    exact ⟨_, _, hh⟩
theorem DoneOf.kept {S : Nat → Prop} {w w' : World} {v : Value} {n : Nat} (h : DoneOf w v n) (hk : KeepT S w w') (hn : ∀ g, v.ownBlock = some g → ¬ S g) : DoneOf w' v n := by
  obtain ⟨xs, h⟩ := h
  exact ⟨xs, ownsRow_kept hk h hn⟩
/-- A splice laid behind those that were done. -/
theorem step_append_done {ops : Array Oper} {o : Oper} {a : Act} {w : World} {K : Act → World → Prop} {Q : Exit → Act → World → Prop} {E : Prop} (hgd : o.guard = none) (s x : Operand)
    (ho : o.op = .call { callee := .builtin .append, args := #[s, x], argTypes := #[38, 38] })
    (v : Value) (n : Nat) (hs : a.eval s = v) (hown : DoneOf w v n) (b : Nat) (hx : a.eval x = .slice (some ⟨b, 0, none⟩) 1 1) (c0 c1 c2 : Value) (T : TypeId) (hb : w.heap[b]? = some (.cells #[c0, c1, c2] T (0, 0)))
    (h0 : c0.oneCell' = true) (h1 : c1.oneCell' = true) (h2 : c2.oneCell' = true) (hn : n + 1 ≤ 1000000)
    (h : ∀ g cap w', DoneOf w' (.slice (some ⟨g, 0, none⟩) (n + 1) cap) (n + 1) → w.grownBy w' v.ownBlock → (v.ownBlock = some g ∨ g = w.heap.size) → g < w'.heap.size → K (a.put o.dst (.slice (some ⟨g, 0, none⟩) (n + 1) cap)) w') :
    if Region.wanted o (yielded ops a.tmps) = true then Oper.wp Tryz.prog o a w K Q else E := by
  obtain ⟨i0, hi, hz0, hz1, hz2⟩ := info_parts spl_info
  obtain ⟨xs, hown⟩ := hown
  refine step_append_lies w hgd s x 38 ho 0 37 i0 _ 3 40 Tryz.underlying38 hi hz0 hz1 hz2 rfl (by decide) v n xs hs hown ⟨b, 0, none⟩ 1 1 [c0, c1, c2] hx rfl ?_ ?_ (by omega) (by unfold maxLen; omega) (by omega) (Nat.zero_le _) _ rfl ?_
  · intro j u hj
    rw [add_none, Lib.cell_of_heap hb]
    simpa using hj
  · intro u hu
    simp only [List.mem_cons, List.not_mem_nil, or_false] at hu
    rcases hu with rfl | rfl | rfl <;> assumption
  · intro g cap w' k1 k2 k3 k4
    exact h g cap w' ⟨_, k1⟩ k2 k3 k4
end Go.Proofs.YtlcjjcmfpmflcaaGreatDoor
