/- The walks of Table.Len, pieces.of and pieces.New. -/
import Derived.Test.YtgcncmhaihgldaaDoorPcs1
namespace Go.Proofs.YtgcncmhaihgldaaDoor
open Go Go.Proofs Go.RowKit Go.Ink

theorem tabLen_any (b : Nat) (ps : List (List Line)) (w : World) (ht : TabOf w b ps) :
    Calls Tryd.prog 27 #[.pointer (some ⟨b, 0, none⟩)] w fun e w' => e = .returned (.int .i64 (manyS ps)) ∧ w = w' := by
  obtain ⟨ao, cap, fr, hh, _⟩ := ht
  have c1 : w.cell? ⟨b, 1, none⟩ = some (.int .i64 (manyS ps)) := by rw [Lib.cell_of_heap hh]; rfl
  clear hh
  go_enter Tryd.func27, Tryd.ntmps27
  go_wp2_with fail
  go_returns
  exact ⟨rfl, rfl⟩

theorem manyS_ofS (l : List (List Line)) : manyS (ofS l) = manyS l := by rw [manyS_flat, ofS_flat, ← manyS_flat]
theorem manyS_take (l : List (List Line)) (k : Nat) : manyS (l.take k) ≤ manyS l := by
  have h := manyS_append (l.take k) (l.drop k)
  rw [List.take_append_drop] at h
  omega
/-- A table under way: its pieces are a row of the call's own. -/
def TabWay (w0 wr : World) (v : Value) (ps : List (List Line)) : Prop :=
  wr.heap[w0.heap.size]? = some (.cells #[v, .int .i64 (manyS ps)] 58 (0, 0)) ∧ OwnPcs w0 (w0.heap.size + 1) wr v ps

theorem OwnPcs.ne {w0 w : World} {B : Nat} {v : Value} {ps : List (List Line)} (h : OwnPcs w0 B w v ps) {b : Nat} (hb : b < B) : v.ownBlock ≠ some b := by
  obtain ⟨vs, hr, _⟩ := h
  exact ownsRow_ne hr hb

set_option maxRecDepth 100000 in
theorem of_any (ls : List (List Line)) (ao : Option Addr) (cap : Nat) (w : World) (hs : SlOf IsStrs w ao cap ls) (hl : ls.length ≤ 100000) (hm : manyS ls ≤ 1000000) :
    Calls Tryd.prog 35 #[.slice ao ls.length cap] w fun e w' => ∃ b, e = .returned (.pointer (some ⟨b, 0, none⟩)) ∧ TabOf w' b (ofS ls) ∧ Below w.heap.size w w' := by
  have HS := Lib.hid hs
  have hc : ls.length ≤ 9223372036854775807 := Nat.le_trans hs.1 hs.2.1
  clear hs
  have HT0 := Lib.hid (show TabWay w (w.alloc (.cells #[.slice none 0 0, .int .i64 0] 58 (0, 0))) (.slice none 0 0) [] from ⟨heap_alloc_at w _, OwnPcs.nil _ _ _⟩)
  have HB0 := Lib.hid (below_alloc w (.cells #[.slice none 0 0, .int .i64 0] 58 (0, 0)))
  go_enter Tryd.func35, Tryd.ntmps35
  go_wp2_with fail
  go_loopw [10] (fun i wr => ∃ (k : Nat) (v : Value), i = .int .i64 k ∧ k ≤ ls.length ∧ Hid (TabWay w wr v (ofS (ls.take k))) ∧ Hid (Below w.heap.size w wr)) (fun i _ => ls.length - (intOf i).toNat)
  case atStart => exact ⟨0, _, rfl, by omega, HT0, HB0⟩
  case round =>
    obtain ⟨k, v, rfl, hk, HT, HB⟩ := hrel
    by_cases hlt : k < ls.length
    · obtain ⟨p, hkp⟩ : ∃ p, ls[k]? = some p := ⟨_, List.getElem?_eq_getElem hlt⟩
      obtain ⟨b, off, u, hao, hcell, a2, c2, hu, hrow⟩ := HS.out.2.2.2 k p hkp
      subst hao hu
      have hcell' := ((HB.out.cell (p := ⟨b, off + k, none⟩) (lt_of_cell hcell))).trans hcell
      have HR := Lib.hid hrow
      have hmk := manyS_take ls (k + 1)
      have hnx := ofS_take hkp
      have hm2 : manyS (ofS (ls.take (k + 1))) ≤ 1000000 := by rw [manyS_ofS]; omega
      have hl2 : (ofS (ls.take k)).length ≤ 100000 := Nat.le_trans (ofS_len _) (by rw [List.length_take]; omega)
      clear hcell hrow hkp hmk
      by_cases hp : 0 < p.length
      · rw [if_pos hp] at hnx
        have HNX := Lib.hid hnx
        rw [hnx, manyS_append] at hm2
        simp only [manyS, Nat.add_zero] at hm2
        clear hnx
        generalize ofS (ls.take k) = P at *
        obtain ⟨ap, cp, rfl⟩ := HT.out.2.shape
        have d0 := Lib.cell_of_heap HT.out.1 0
        have d1 := Lib.cell_of_heap HT.out.1 1
        have f0 := Lib.frozen_of_heap HT.out.1 0
        have f1 := Lib.frozen_of_heap HT.out.1 1
        simp only [List.getElem?_toArray, List.getElem?_cons_succ, List.getElem?_cons_zero] at d0 d1
        have HZ := Lib.hid (lt_of_heap HT.out.1)
        have HA := Lib.hid (below_alloc wr (.cells #[.slice a2 p.length c2] 60 (0, 0)))
        have HQ := Lib.hid (SrcPcs.one (heap_alloc_at wr (.cells #[.slice a2 p.length c2] 60 (0, 0))) HR.out)
        go_wp2_with (at_builtin; refine wpList_append_pcs (w0 := w) rfl _ _ rfl (w.heap.size + 1) _ P rfl (HT.out.2.later HA.out) (some ⟨wr.heap.size, 0, none⟩) 1 1 [p] rfl rfl HQ.out (by have := HZ.out; simp; omega) (by simp; omega) ?_)
        intro v' w5 ho5 hb5 hbl5 hz5
        have HG5 := Lib.hid ((hbl5 w.heap.size (by have := HZ.out; omega) (HT.out.2.ne (Nat.lt_succ_self _))).trans ((Below.heap_alloc wr _ _ HZ.out).trans HT.out.1))
        have HO5 := Lib.hid ho5
        have HB5 := Lib.hid (HB.out.trans ((HA.out.mono HB.out.size).trans (hb5.mono (Nat.le_succ _))))
        obtain ⟨a', c', hv'⟩ := ho5.shape
        rw [show (P ++ [p]).length = P.length + 1 by simp] at hv'
        subst hv'
        clear hbl5 hz5 hb5 ho5 d0 d1 f0 f1 HA HQ HT
        have d0 := Lib.cell_of_heap HG5.out 0
        have d1 := Lib.cell_of_heap HG5.out 1
        have f0 := Lib.frozen_of_heap HG5.out 0
        have f1 := Lib.frozen_of_heap HG5.out 1
        simp only [List.getElem?_toArray, List.getElem?_cons_succ, List.getElem?_cons_zero] at d0 d1
        have s1 := heap_set (j := 0) HG5.out (.slice a' (P.length + 1) c')
        have s2 := heap_set (j := 1) s1 (.int .i64 ((manyS P : Int) + (p.length : Int)))
        have HN : Hid (TabWay w ((w5.setCell ⟨w.heap.size, 0, none⟩ (.slice a' (P.length + 1) c')).setCell ⟨w.heap.size, 1, none⟩ (.int .i64 ((manyS P : Int) + (p.length : Int)))) (.slice a' (P.length + 1) c') (P ++ [p])) := Lib.hid ⟨by
          rw [s2, manyS_append]; simp [manyS], (HO5.out.set (Nat.lt_succ_self _) _).set (Nat.lt_succ_self _) _⟩
        have HBN : Hid (Below w.heap.size w ((w5.setCell ⟨w.heap.size, 0, none⟩ (.slice a' (P.length + 1) c')).setCell ⟨w.heap.size, 1, none⟩ (.int .i64 ((manyS P : Int) + (p.length : Int))))) := Lib.hid ((HB5.out.setCell (Nat.le_refl _) _).setCell (Nat.le_refl _) _)
        have e1 : (w5.setCell ⟨w.heap.size, 0, none⟩ (.slice a' (P.length + 1) c')).cell? ⟨w.heap.size, 1, none⟩ = some (.int .i64 (manyS P)) := by rw [Lib.cell_of_heap s1]; rfl
        have g1 := Lib.frozen_of_heap s1 1
        clear s1 s2 HB5 HO5 HG5
        go_wp2_with fail
        go_roundw
        case rel => exact ⟨k + 1, _, by go_num, by omega, by rw [HNX.out]; exact HN, HBN⟩
        case measure => simp [intOf]; omega
      · rw [if_neg hp, List.append_nil] at hnx
        have HNX := Lib.hid hnx
        clear hnx
        have hp0 : ¬ 0 < (p.length : Int) := by omega
        go_wp2_with fail
        go_roundw
        case rel => exact ⟨k + 1, v, by go_num, by omega, by rw [HNX.out]; exact HT, HB⟩
        case measure => simp [intOf]; omega
    · have hkl : k = ls.length := by omega
      subst hkl
      rw [List.take_length] at HT
      obtain ⟨ap, cp, hv⟩ := HT.out.2.shape
      subst hv
      have HTT := Lib.hid (show TabOf wr w.heap.size (ofS ls) from ⟨ap, cp, _, HT.out.1, HT.out.2.slOfV rfl HB.out⟩)
      go_wp2_with fail
      go_returns
      exact ⟨_, rfl, HTT.out, HB.out⟩
end Go.Proofs.YtgcncmhaihgldaaDoor
