/- What a terminal's method leaves; the walk of down. -/
import Derived.Test.YtcgaaadcbhkfoaaGreatDoorVtB
import Derived.Test.YtcgaaadcbhkfoaaGreatDoorVt5
import Derived.Test.YtcgaaadcbhkfoaaGreatDoorKeep
import Derived.Laws.CopyOwn
import Derived.Deep.RegionLaw
import Derived.Deep.QuietTactic
import Derived.BigQuiet
import Derived.StillTailTactics
namespace Go.Proofs.YtcgaaadcbhkfoaaGreatDoor
open Go Go.Proofs Go.RowKit Go.Ink

def VtS (v gr ga : Nat) (pv : Value) (k : Nat) : Prop := k = v ∨ k = gr ∨ k = ga ∨ pv.ownBlock = some k
/-- What a method of a terminal leaves: the terminal t', and nothing else is turned. -/
def VtStep (B : Nat) (w : World) (v gr cap ga : Nat) (pv : Value) (t' : Tm) (w' : World) : Prop :=
  ∃ os' pv', VtAt B w' v gr cap ga os' pv' t' ∧ KeepT (VtS v gr ga pv) w w' ∧ ∀ k, pv'.ownBlock = some k → pv.ownBlock = some k ∨ w.heap.size ≤ k
theorem VtStep.same {B : Nat} {w w' : World} {v gr cap ga : Nat} {os' : List Nat} {pv : Value} {t' : Tm} (h : VtAt B w' v gr cap ga os' pv t') (hk : KeepT (VtS v gr ga pv) w w') : VtStep B w v gr cap ga pv t' w' :=
  ⟨os', pv, h, hk, fun _ e => .inl e⟩
theorem VtStep.trans {B : Nat} {w w1 w2 : World} {v gr cap ga : Nat} {pv : Value} {t1 t2 : Tm} (h1 : VtStep B w v gr cap ga pv t1 w1)
    (h2 : ∀ os1 pv1, VtAt B w1 v gr cap ga os1 pv1 t1 → VtStep B w1 v gr cap ga pv1 t2 w2) : VtStep B w v gr cap ga pv t2 w2 := by
  obtain ⟨os1, pv1, a1, k1, p1⟩ := h1
  obtain ⟨os2, pv2, a2, k2, p2⟩ := h2 os1 pv1 a1
  refine ⟨os2, pv2, a2, k1.trans k2 (fun i hi hs => ?_), fun k e => ?_⟩
  · rcases hs with hs | hs | hs | hs
    · exact .inl hs
    · exact .inr (.inl hs)
    · exact .inr (.inr (.inl hs))
    · rcases p1 i hs with h | h
      · exact .inr (.inr (.inr h))
      · omega
  · rcases p2 k e with h | h
    · exact p1 k h
    · exact .inr (Nat.le_trans k1.size h)
theorem VtAt.drewN {B : Nat} {w : World} {v gr cap ga : Nat} {os : List Nat} {pv : Value} {t : Tm} (h : VtAt B w v gr cap ga os pv t) (n : Nat) : VtAt B (w.drewN n) v gr cap ga os pv t :=
  ⟨h.head, h.grid.later rfl rfl, ownsRow_old h.par (fun _ _ _ => rfl), h.less, h.fits⟩
theorem VtAt.own {B : Nat} {w : World} {v gr cap ga : Nat} {os : List Nat} {pv : Value} {t : Tm} (h : VtAt B w v gr cap ga os pv t) : ∀ k, pv.ownBlock = some k → v < k := by
  intro k e
  rcases h.par.2 with ⟨h1, _⟩ | ⟨g, c, cu, h1, h2, _⟩
  · subst h1; cases e
  · subst h1; simp [Value.ownBlock] at e; omega
/-- A terminal whose blocks stand. -/
theorem VtAt.kept {B : Nat} {S : Nat → Prop} {w w' : World} {v gr cap ga : Nat} {os : List Nat} {pv : Value} {t : Tm} (h : VtAt B w v gr cap ga os pv t) (hk : KeepT S w w') (hn : ∀ i, VtS v gr ga pv i → ¬ S i) : VtAt B w' v gr cap ga os pv t := by
  obtain ⟨cs, hr, _⟩ := h.grid.rows
  obtain ⟨ds, ha, _⟩ := h.grid.bytes
  exact ⟨(hk.block v (lt_of_heap h.head) (hn v (.inl rfl))).trans h.head, h.grid.later (hk.block gr (lt_of_heap hr) (hn gr (.inr (.inl rfl)))) (hk.block ga (lt_of_heap ha) (hn ga (.inr (.inr (.inl rfl))))), ownsRow_kept hk h.par (fun b e => hn b (.inr (.inr (.inr e)))), h.less, h.fits⟩
theorem VtAt.later {B : Nat} {w w' : World} {v gr cap ga : Nat} {os : List Nat} {pv : Value} {t : Tm} (h : VtAt B w v gr cap ga os pv t) (hb : Below w.heap.size w w') : VtAt B w' v gr cap ga os pv t :=
  h.kept (S := fun _ => False) (KeepT.of_below hb) (fun _ _ e => e)

set_option maxRecDepth 100000 in
theorem down_more_any {B : Nat} {w : World} {v gr cap ga : Nat} {os : List Nat} {pv : Value} {t : Tm} (h : VtAt B w v gr cap ga os pv t) (hg : t.Good) (hr : t.row + 1 < t.rows) :
    Calls Tryz.prog 37 #[.pointer (some ⟨v, 0, none⟩)] w fun e w' => e = .returned (.tuple #[]) ∧ VtStep B w v gr cap ga pv t.down w' := by
  have h60 := hg.rows.2
  have hg1 := hg.rows.1
  have hlt : (t.row : Int) < (t.rows : Int) - 1 := by omega
  obtain ⟨c0, c1, c2, c3, c4, c5, c6, cf⟩ := h.cells
  have cf3 := cf 3
  have H := Lib.hid h; clear h cf c1 c2 c4 c5 c6
  have HF : Hid (∀ n, VtStep B w v gr cap ga pv t.down ((w.drewN n).setCell ⟨v, 3, none⟩ (.int .i64 ((t.row : Int) + 1)))) := Lib.hid fun n => by
    rw [down_more t hr]
    refine VtStep.same (H.out.drewN n |>.setv 3 _ _ rfl rfl rfl rfl ?_) (((KeepT.refl _ _).drewN n).setCell (.inl (.inl rfl)) _)
    rfl
  clear hg
  go_enter Tryz.func37, Tryz.ntmps37
  go_wp2_with fail
  go_quiet (fail)
  go_wp2_with fail
  go_returns
  exact ⟨rfl, HF.out _⟩

theorem wipeW_congr {w w1 : World} (g o : Nat) (h : w1.heap[g]? = w.heap[g]?) : ∀ n, (wipeW w1 g o n).heap[g]? = (wipeW w g o n).heap[g]?
  | 0 => h
  | n + 1 => by
    unfold wipeW
    simp only [World.setCell, Array.getElem?_modify, wipeW_congr g o h n]
theorem KeepT.wipeW {S : Nat → Prop} {a w : World} (h : KeepT S a w) (g o : Nat) (hg : S g) : ∀ n, KeepT S a (wipeW w g o n)
  | 0 => h
  | n + 1 => (KeepT.wipeW h g o hg n).setCell (p := ⟨g, o + n, none⟩) (.inl hg) _
def rowVs (ga cols : Nat) (os : List Nat) : List Value := os.map fun o => .slice (some ⟨ga, o, none⟩) cols cols
theorem wipeTo_all (l : List UInt8) : wipeTo l 0 l.length = blankL l.length := by
  have := wipeTo_from l 0 (by omega)
  rw [Nat.sub_zero] at this
  rw [this]; simp [wipeFrom]
/-- What down leaves in the last row. -/
theorem down_mem {B : Nat} {w w1 : World} {v gr cap ga : Nat} {o0 : Nat} {os : List Nat} {pv : Value} {t : Tm} {cur : List Value} (h : VtAt B w v gr cap ga (o0 :: os) pv t) (hg : t.Good) (hr : ¬ t.row + 1 < t.rows)
    (hcur : w.heap[gr]? = some (.cells cur.toArray 37 (0, 0))) (h1 : w1.heap[gr]? = some (.cells (splice cur 0 (rowVs ga t.cols os)).toArray 37 (0, 0))) (hk : KeepT (fun k => k = gr) w w1) (n : Nat) :
    VtStep B w v gr cap ga pv t.down (((wipeW w1 ga o0 t.cols).drewN n).setCell ⟨gr, t.rows - 1, none⟩ (.slice (some ⟨ga, o0, none⟩) t.cols t.cols)) := by
  have hne := h.grid.ne
  obtain ⟨ds, hd1, hd2⟩ := h.grid.bytes
  have hrows := hg.rows
  have hmany := hg.many
  have hlen := h.grid.len
  simp only [List.length_cons] at hlen
  rw [down_last t hr]
  obtain ⟨l0, cs, hcs⟩ : ∃ l0 cs, t.cells = l0 :: cs := by
    cases hc : t.cells with
    | nil => rw [hc] at hmany; simp at hmany; omega
    | cons a b => exact ⟨a, b, rfl⟩
  have hl0 : l0.length = t.cols := h.grid.each l0 (by rw [hcs]; simp)
  have hcurl : os.length < cur.length := by
    obtain ⟨cs', hr1, hr2⟩ := h.grid.rows
    rw [hcur] at hr1
    injection hr1 with hr1; injection hr1 with hr1
    have := hr2 os.length ((o0 :: os)[os.length]'(by simp)) (List.getElem?_eq_getElem _)
    rw [← hr1] at this
    have := (Array.getElem?_eq_some_iff.1 this).1
    simpa using this
  have hlast : t.rows - 1 = os.length := by omega
  have hgm := h.grid.wipe (k := 0) (o := o0) (from_ := 0) (l := l0) rfl (by rw [hcs]; rfl) t.cols (by omega)
  rw [hcs, List.set_cons_zero, Nat.add_zero, ← hl0, wipeTo_all, hl0] at hgm
  have hsize : (splice cur 0 (rowVs ga t.cols os)).length = cur.length := length_splice _ _ _ (by simp [rowVs]; omega)
  have hgr5 : (((wipeW w1 ga o0 t.cols).drewN n).setCell ⟨gr, t.rows - 1, none⟩ (.slice (some ⟨ga, o0, none⟩) t.cols t.cols)).heap[gr]? = some (.cells ((splice cur 0 (rowVs ga t.cols os)).toArray.setIfInBounds (t.rows - 1) (.slice (some ⟨ga, o0, none⟩) t.cols t.cols)) 37 (0, 0)) :=
    heap_set (w := (wipeW w1 ga o0 t.cols).drewN n) ((wipeW_old w1 ga o0 hne t.cols).trans h1) _
  have hga5 : (((wipeW w1 ga o0 t.cols).drewN n).setCell ⟨gr, t.rows - 1, none⟩ (.slice (some ⟨ga, o0, none⟩) t.cols t.cols)).heap[ga]? = (wipeW w ga o0 t.cols).heap[ga]? :=
    (Below.heap_setCell _ _ _ _ (by simpa using hne.symm)).trans (wipeW_congr ga o0 (hk.block ga (lt_of_heap hd1) (by simpa using hne.symm)) _)
  have hturn := GridMem.turn hgm ⟨_, hgr5, ?_⟩ hga5
  · have hkeep : KeepT (VtS v gr ga pv) w (((wipeW w1 ga o0 t.cols).drewN n).setCell ⟨gr, t.rows - 1, none⟩ (.slice (some ⟨ga, o0, none⟩) t.cols t.cols)) :=
      ((KeepT.wipeW (hk.mono (fun i _ e => .inr (.inl e))) ga o0 (.inr (.inr (.inl rfl))) _).drewN n).setCell (.inl (.inr (.inl rfl))) _
    refine VtStep.same (h.grids (t' := { t with cells := t.cells.drop 1 ++ [blankL t.cols] }) (by rw [hcs]; exact hturn) (fun i hi h1 h2 => ?_) rfl rfl rfl rfl rfl rfl) hkeep
    rw [Below.heap_setCell _ _ _ _ (by simpa using h1)]
    exact (wipeW_old w1 ga o0 h2 _).trans (hk.block i hi h1)
  · intro k p hp
    rw [Array.getElem?_setIfInBounds]
    by_cases e : t.rows - 1 = k
    · subst e
      rw [hlast, List.getElem?_append_right (Nat.le_refl _), Nat.sub_self] at hp
      simp only [List.getElem?_cons_zero, Option.some.injEq] at hp
      subst hp
      rw [if_pos rfl, if_pos (by rw [List.size_toArray, hsize]; omega)]
    · rw [if_neg e]
      have hk : k < os.length := by have := (List.getElem?_eq_some_iff.1 hp).1; simp at this; omega
      rw [List.getElem?_append_left hk] at hp
      simp only [List.getElem?_toArray, splice, List.take_zero, List.nil_append]
      rw [List.getElem?_append_left (by simpa [rowVs] using hk)]
      simp only [rowVs, List.getElem?_map, hp, Option.map_some]

theorem bytesS_info : (Tryz.prog.info? 37).map (·.size) = some 1 := by kernel_rfl
set_option maxRecDepth 100000 in
theorem down_last_any {B : Nat} {w : World} {v gr cap ga : Nat} {os : List Nat} {pv : Value} {t : Tm} (h : VtAt B w v gr cap ga os pv t) (hg : t.Good) (hr : ¬ t.row + 1 < t.rows) :
    Calls Tryz.prog 37 #[.pointer (some ⟨v, 0, none⟩)] w fun e w' => e = .returned (.tuple #[]) ∧ VtStep B w v gr cap ga pv t.down w' := by
  have hlen := h.grid.len
  rw [hg.many] at hlen
  obtain ⟨o0, os', rfl⟩ : ∃ a b, os = a :: b := by
    cases os with
    | nil => have := hg.rows; simp at hlen; omega
    | cons a b => exact ⟨a, b, rfl⟩
  obtain ⟨cs, hr1, hr2⟩ := h.grid.rows
  obtain ⟨cur, rfl⟩ : ∃ cur : List Value, cs = cur.toArray := ⟨cs.toList, by simp⟩
  have HM : Hid (∀ w1, w1.heap[gr]? = some (.cells (splice cur 0 (rowVs ga t.cols os')).toArray 37 (0, 0)) → KeepT (fun k => k = gr) w w1 → ∀ n, VtStep B w v gr cap ga pv t.down (((wipeW w1 ga o0 t.cols).drewN n).setCell ⟨gr, t.rows - 1, none⟩ (.slice (some ⟨ga, o0, none⟩) t.cols t.cols))) := Lib.hid fun w1 h1 hk n => down_mem h hg hr hr1 h1 hk n
  have hlt : ¬ (t.row : Int) < (t.rows : Int) - 1 := by have := hg.row; omega
  have s1 : (1 : Int) ≤ (t.rows : Int) := by have := hg.rows; omega
  have s2 : 1 ≤ t.rows := by have := hg.rows; omega
  have s3 : 0 < t.rows := by have := hg.rows; omega
  have s4 : (t.rows : Int) ≤ (cap : Int) := by have := h.fits; omega
  have h60 := hg.rows.2
  have h2 := hg.rows.1
  have hcols := hg.cols
  have hcap := h.fits
  obtain ⟨c0, c1, c2, c3, c4, c5, c6, cf⟩ := h.cells
  have d0 : w.cell? ⟨gr, 0, none⟩ = some (.slice (some ⟨ga, o0, none⟩) t.cols t.cols) := by rw [Lib.cell_of_heap hr1]; exact hr2 0 o0 rfl
  have hc1 : ¬ cap = 1 := by omega
  have HR1 := Lib.hid hr1
  have HR2 := Lib.hid hr2
  have HIN := Lib.hid bytesS_info
  have hn : (rowVs ga t.cols os').length = Nat.min (t.rows - 1) t.rows := by
    simp only [rowVs, List.length_map]
    simp only [List.length_cons] at hlen
    show _ = min _ _
    omega
  have HN := Lib.hid hn
  have hsrc : ∀ j u, (rowVs ga t.cols os')[j]? = some u → w.cell? ((⟨gr, 1, none⟩ : Addr).add j) = some u := by
    intro j u hj
    simp only [rowVs, List.getElem?_map, Option.map_eq_some_iff] at hj
    obtain ⟨o, ho, rfl⟩ := hj
    have e : (⟨gr, 1, none⟩ : Addr).add j = ⟨gr, j + 1, none⟩ := by unfold Addr.add; split <;> simp_all [Nat.add_comm]
    rw [e, Lib.cell_of_heap hr1]
    exact hr2 (j + 1) o (by simpa using ho)
  have HSRC := Lib.hid hsrc
  have hfit : 0 + (rowVs ga t.cols os').length ≤ cur.length := by
    have := hr2 os'.length ((o0 :: os')[os'.length]'(by simp)) (List.getElem?_eq_getElem _)
    have := (Array.getElem?_eq_some_iff.1 this).1
    simp [rowVs] at this ⊢
    omega
  have HFIT := Lib.hid hfit
  have hone : ∀ u ∈ rowVs ga t.cols os', u.oneCell' = true := by
    intro u hu
    simp only [rowVs, List.mem_map] at hu
    obtain ⟨o, _, rfl⟩ := hu
    rfl
  have HONE := Lib.hid hone
  obtain ⟨ds, hd1, hd2⟩ := h.grid.bytes
  have hds : o0 + t.cols ≤ ds.size := by
    have hmany := hg.many
    obtain ⟨o, l, ho, hl, hll, _⟩ := h.grid.row (k := 0) (by omega)
    injection ho with ho
    subst ho
    have := hd2 0 o0 l (t.cols - 1) (l[t.cols - 1]'(by omega)) rfl hl (List.getElem?_eq_getElem _)
    have := (Array.getElem?_eq_some_iff.1 this).1
    omega
  have HD1 := Lib.hid hd1
  have HV := Lib.hid h.head
  have HLEN := Lib.hid (show (o0 :: os').length = t.rows from hlen.symm)
  have hne := h.grid.ne
  have hlts := h.less
  clear hg hr1 hr2 hn hsrc hfit hone hd1 hd2 hlen cf c1 c4 c5 c6 h hr
  go_enter Tryz.func37, Tryz.ntmps37
  go_wp2_with fail
  go_quiet (fail)
  go_wp2_with fail
  obtain ⟨wx, hwx⟩ : ∃ wx, w.drewN nq = wx := ⟨_, rfl⟩
  rw [hwx]
  have c2x : wx.cell? ⟨v, 2, none⟩ = some (.slice (some ⟨gr, 0, none⟩) t.rows cap) := by rw [← hwx]; exact c2
  have HR1x : Hid (∀ W : World, W.heap = wx.heap → W.heap[gr]? = some (.cells cur.toArray 37 (0, 0))) := Lib.hid fun W hW => by rw [hW, ← hwx]; exact HR1.out
  have HSRCx : Hid (∀ W : World, W.heap = wx.heap → ∀ j u, (rowVs ga t.cols os')[j]? = some u → W.cell? ((⟨gr, 1, none⟩ : Addr).add j) = some u) := Lib.hid fun W hW j u hj => by
    have := HSRC.out j u hj
    rw [World.cell?] at this ⊢
    rw [hW, ← hwx]; exact this
  have HK : Hid (KeepT (fun k => k = gr) w wx.drew) := by rw [← hwx]; exact ((KeepT.refl _ _).drewN _).drew
  clear hwx c0 c2 c3
  go_still_tail 11, (by kernel_rfl)
  go_wp2_with (with_reducible refine wpList_copy_keep rfl (.tmp 35) (.tmp 41) 22 22 rfl 37 Tryz.underlying22 HIN.out _ _ t.rows cap (t.rows - 1) (cap - 1) rfl rfl gr 0 cur 37 (HR1x.out _ rfl) (rowVs ga t.cols os') HN.out (fun _ => ⟨rfl, _, rfl, HSRCx.out _ rfl⟩) HFIT.out HONE.out ?_)
  intro w1 H1 HK1
  clear c2x
  have hkw := HK.out.trans HK1.out (fun i _ e => e)
  have hd1 := (hkw.block ga (lt_of_heap HD1.out) (by simpa using hne.symm)).trans HD1.out
  have HMW := Lib.hid (HM.out w1 H1.out hkw)
  have HW := Lib.hid (wipe_any ga o0 t.cols t.cols w1 hd1 hds (by unfold maxLen; omega))
  clear hd1 hkw
  go_wp2_with fail
  refine HW.out.mono ?_
  rintro e w2 ⟨rfl, hw2⟩
  have hv2 : w2.heap[v]? = w.heap[v]? := by
    rw [hw2]
    exact (wipeW_old w1 ga o0 (by omega) _).trans ((HK1.out.block v (by have := HK.out.size; have := lt_of_heap HV.out; omega) (by omega)).trans (HK.out.block v (lt_of_heap HV.out) (by omega)))
  have hg2 : w2.heap[gr]? = some (.cells (splice cur 0 (rowVs ga t.cols os')).toArray 37 (0, 0)) := by
    rw [hw2]; exact (wipeW_old w1 ga o0 hne _).trans H1.out
  have hv3 := hv2.trans HV.out
  have e0 : w2.cell? ⟨v, 0, none⟩ = some (.int .i64 (t.rows : Int)) := by rw [Lib.cell_of_heap hv3]; rfl
  have e2 : w2.cell? ⟨v, 2, none⟩ = some (.slice (some ⟨gr, 0, none⟩) t.rows cap) := by rw [Lib.cell_of_heap hv3]; rfl
  have hsz : t.rows - 1 < (splice cur 0 (rowVs ga t.cols os')).length := by
    rw [length_splice _ _ _ HFIT.out]
    have := (Array.getElem?_eq_some_iff.1 (HR2.out (t.rows - 1) ((o0 :: os')[t.rows - 1]'(by rw [HLEN.out]; omega)) (List.getElem?_eq_getElem _))).1
    simpa using this
  obtain ⟨u, hu⟩ : ∃ u, w2.cell? ⟨gr, t.rows - 1, none⟩ = some u := ⟨_, by rw [Lib.cell_of_heap hg2, List.getElem?_toArray, List.getElem?_eq_getElem hsz]⟩
  have hfz := Lib.frozen_of_heap hg2 (t.rows - 1)
  have HM2 : Hid (∀ n, VtStep B w v gr cap ga pv t.down ((w2.drewN n).setCell ⟨gr, t.rows - 1, none⟩ (.slice (some ⟨ga, o0, none⟩) t.cols t.cols))) := by rw [hw2]; exact HMW
  have hi1 : IntKind.i64.wrap ((t.rows : Int) - 1) = (t.rows : Int) - 1 := IntWalk.i64_in _ (by omega)
  have hi2 : (0 : Int) ≤ (t.rows : Int) - 1 := by omega
  have hi3 : (t.rows : Int) - 1 < (t.rows : Int) := by omega
  have hi4 : ((t.rows : Int) - 1).toNat = t.rows - 1 := by omega
  clear hw2 hv2 hg2 hv3 hsz HMW HW HM d0
  go_wp2_with fail
  go_still_tail 13, (by kernel_rfl)
  go_wp2_with fail
  go_returns
  exact ⟨rfl, HM2.out 1⟩
/-- A row more; from the last one all go up. -/
theorem down_any {B : Nat} {w : World} {v gr cap ga : Nat} {os : List Nat} {pv : Value} {t : Tm} (h : VtAt B w v gr cap ga os pv t) (hg : t.Good) :
    Calls Tryz.prog 37 #[.pointer (some ⟨v, 0, none⟩)] w fun e w' => e = .returned (.tuple #[]) ∧ VtStep B w v gr cap ga pv t.down w' := by
  by_cases hr : t.row + 1 < t.rows
  · exact down_more_any h hg hr
  · exact down_last_any h hg hr
end Go.Proofs.YtcgaaadcbhkfoaaGreatDoor
