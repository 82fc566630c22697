/- The walk of plain: a byte that is no part of an escape. -/
import Derived.Test.YtcgaaadcbhkfoaaGreatDoorVtC
namespace Go.Proofs.YtcgaaadcbhkfoaaGreatDoor
open Go Go.Proofs Go.RowKit Go.Ink

theorem byte_ne {c : UInt8} (k : UInt8) (h : c ≠ k) : ((c.toNat : Int) == (k.toNat : Int)) = false := by
  rw [beq_eq_false_iff_ne]; intro e; apply h; apply UInt8.toNat_inj.1; omega
theorem byte_le {c : UInt8} (k : UInt8) (h : k ≤ c) : (k.toNat : Int) ≤ (c.toNat : Int) := by
  have := UInt8.le_iff_toNat_le.1 h; omega
set_option maxRecDepth 100000 in
theorem plain_cr {B : Nat} {w : World} {v gr cap ga : Nat} {os : List Nat} {pv : Value} {t : Tm} (h : VtAt B w v gr cap ga os pv t) :
    Calls Tryz.prog 25 #[.pointer (some ⟨v, 0, none⟩), .int .u8 13] w fun e w' => e = .returned (.tuple #[]) ∧ VtStep B w v gr cap ga pv (t.plain 13) w' := by
  obtain ⟨c0, c1, c2, c3, c4, c5, c6, cf⟩ := h.cells
  have cf4 := cf 4
  have HF : Hid (VtStep B w v gr cap ga pv (t.plain 13) (w.setCell ⟨v, 4, none⟩ (.int .i64 0))) := Lib.hid (VtStep.same (h.setv 4 _ (t.plain 13) rfl rfl rfl rfl rfl) ((KeepT.refl _ _).setCell (.inl (.inl rfl)) _))
  clear h c0 c1 c2 c3 c5 c6 cf
  go_enter Tryz.func25, Tryz.ntmps25
  go_wp2_with fail
  go_returns
  exact ⟨rfl, HF.out⟩
set_option maxRecDepth 100000 in
theorem plain_bs {B : Nat} {w : World} {v gr cap ga : Nat} {os : List Nat} {pv : Value} {t : Tm} (h : VtAt B w v gr cap ga os pv t) (hg : t.Good) :
    Calls Tryz.prog 25 #[.pointer (some ⟨v, 0, none⟩), .int .u8 8] w fun e w' => e = .returned (.tuple #[]) ∧ VtStep B w v gr cap ga pv (t.plain 8) w' := by
  obtain ⟨c0, c1, c2, c3, c4, c5, c6, cf⟩ := h.cells
  have cf4 := cf 4
  have HF : Hid (∀ x : Int, x = max ((t.col : Int) - 1) 0 → VtStep B w v gr cap ga pv (t.plain 8) (w.setCell ⟨v, 4, none⟩ (.int .i64 x))) := Lib.hid fun x hx => (VtStep.same (h.setv 4 _ (t.plain 8) rfl rfl rfl rfl (by
    have e : x = ((t.col - 1 : Nat) : Int) := by omega
    rw [e]; rfl)) ((KeepT.refl _ _).setCell (.inl (.inl rfl)) _))
  have hc := hg.col
  have hc2 := hg.cols.2
  have hi0 : t.col ≤ 131 := by omega
  clear h c0 c1 c2 c3 c5 c6 cf hg hc hc2
  go_enter Tryz.func25, Tryz.ntmps25
  go_wp2_with fail
  all_goals
    go_returns
    exact ⟨rfl, HF.out _ (by omega)⟩
set_option maxRecDepth 100000 in
theorem plain_lf {B : Nat} {w : World} {v gr cap ga : Nat} {os : List Nat} {pv : Value} {t : Tm} (h : VtAt B w v gr cap ga os pv t) (hg : t.Good) :
    Calls Tryz.prog 25 #[.pointer (some ⟨v, 0, none⟩), .int .u8 10] w fun e w' => e = .returned (.tuple #[]) ∧ VtStep B w v gr cap ga pv (t.plain 10) w' := by
  have HD := Lib.hid (down_any h hg)
  clear h hg
  go_enter Tryz.func25, Tryz.ntmps25
  go_wp2_with fail
  refine HD.out.mono ?_
  rintro e w1 ⟨rfl, hv⟩
  have HV := Lib.hid hv; clear hv
  go_wp2_with fail
  go_returns
  exact ⟨rfl, HV.out⟩
set_option maxRecDepth 100000 in
theorem plain_no {B : Nat} {w : World} {v gr cap ga : Nat} {os : List Nat} {pv : Value} {t : Tm} (c : UInt8) (h : VtAt B w v gr cap ga os pv t) (h13 : c ≠ 13) (h8 : c ≠ 8) (h10 : c ≠ 10) (hp : ¬ (32 ≤ c ∧ c ≤ 126)) :
    Calls Tryz.prog 25 #[.pointer (some ⟨v, 0, none⟩), .int .u8 (c.toNat : Int)] w fun e w' => e = .returned (.tuple #[]) ∧ VtStep B w v gr cap ga pv (t.plain c) w' := by
  have e13 : ((c.toNat : Int) == 13) = false := byte_ne 13 h13
  have e8 : ((c.toNat : Int) == 8) = false := byte_ne 8 h8
  have e10 : ((c.toNat : Int) == 10) = false := byte_ne 10 h10
  have HF : Hid (VtStep B w v gr cap ga pv (t.plain c) w) := by
    rw [plain_odd t c ⟨h13, h8, h10, hp⟩]
    exact VtStep.same h (KeepT.refl _ _)
  clear h
  by_cases hlo : (32 : Int) ≤ (c.toNat : Int)
  · have hhi : ¬ (c.toNat : Int) ≤ 126 := fun e => hp ⟨UInt8.le_iff_toNat_le.2 (by show 32 ≤ c.toNat; omega), UInt8.le_iff_toNat_le.2 (by show c.toNat ≤ 126; omega)⟩
    clear hp h13 h8 h10
    go_enter Tryz.func25, Tryz.ntmps25
    go_wp2_with fail
    go_returns
    exact ⟨rfl, HF.out⟩
  · clear hp h13 h8 h10
    go_enter Tryz.func25, Tryz.ntmps25
    go_wp2_with fail
    go_returns
    exact ⟨rfl, HF.out⟩
/-- A byte in the cursor's cell. -/
theorem plain_mem {B : Nat} {w : World} {v gr cap ga : Nat} {os : List Nat} {pv : Value} {t : Tm} (c : UInt8) (h : VtAt B w v gr cap ga os pv t) (hg : t.Good) (h13 : c ≠ 13) (h8 : c ≠ 8) (h10 : c ≠ 10) (hp : 32 ≤ c ∧ c ≤ 126) {o : Nat} (ho : os[t.row]? = some o) (n m : Nat) :
    VtAt B ((w.drewN n).setCell ⟨ga, o + t.col, none⟩ (.int .u8 (c.toNat : Int))) v gr cap ga os pv { t with cells := t.putAt c } ∧
    VtStep B w v gr cap ga pv (t.plain c) ((((w.drewN n).setCell ⟨ga, o + t.col, none⟩ (.int .u8 (c.toNat : Int))).drewN m).setCell ⟨v, 4, none⟩ (.int .i64 (min ((t.col : Int) + 1) ((t.cols : Int) - 1)))) := by
  have hl := h.less
  obtain ⟨o', l, ho', hl', _⟩ := h.grid.row (k := t.row) (by have := hg.many; have := hg.row; omega)
  have e1 : o' = o := Option.some.inj (ho'.symm.trans ho)
  subst e1
  have e2 : t.cells.getD t.row [] = l := by rw [List.getD_eq_getElem?_getD, hl']; rfl
  have h1 : VtAt B ((w.drewN n).setCell ⟨ga, o' + t.col, none⟩ (.int .u8 (c.toNat : Int))) v gr cap ga os pv { t with cells := t.putAt c } :=
    (h.drewN n).grids (by unfold Tm.putAt; rw [e2]; exact (h.drewN n).grid.set ho hl' hg.col c) (fun i _ _ h3 => Below.heap_setCell _ _ _ _ h3) rfl rfl rfl rfl rfl rfl
  refine ⟨h1, ?_⟩
  have e3 : t.plain c = { t with cells := t.putAt c, col := min (t.col + 1) (t.cols - 1) } := by
    unfold Tm.plain; rw [if_neg h13, if_neg h8, if_neg h10, if_pos hp]
  rw [e3]
  refine VtStep.same ((h1.drewN m).setv 4 _ { t with cells := t.putAt c, col := min (t.col + 1) (t.cols - 1) } rfl rfl rfl rfl ?_) (((((KeepT.refl _ _).drewN n).setCell (.inl (.inr (.inr (.inl rfl)))) _).drewN m).setCell (.inl (.inl rfl)) _)
  have hc := hg.cols
  have e4 : min ((t.col : Int) + 1) ((t.cols : Int) - 1) = ((min (t.col + 1) (t.cols - 1) : Nat) : Int) := by omega
  rw [e4]; rfl
set_option maxRecDepth 100000 in
theorem plain_put {B : Nat} {w : World} {v gr cap ga : Nat} {os : List Nat} {pv : Value} {t : Tm} (c : UInt8) (h : VtAt B w v gr cap ga os pv t) (hg : t.Good) (h13 : c ≠ 13) (h8 : c ≠ 8) (h10 : c ≠ 10) (hp : 32 ≤ c ∧ c ≤ 126) :
    Calls Tryz.prog 25 #[.pointer (some ⟨v, 0, none⟩), .int .u8 (c.toNat : Int)] w fun e w' => e = .returned (.tuple #[]) ∧ VtStep B w v gr cap ga pv (t.plain c) w' := by
  obtain ⟨o, l, ho, hl, hll, d0, _⟩ := h.grid.row (k := t.row) (by have := hg.many; have := hg.row; omega)
  have HM := Lib.hid (fun n m => plain_mem c h hg h13 h8 h10 hp ho n m)
  have e13 : ((c.toNat : Int) == 13) = false := byte_ne 13 h13
  have e8 : ((c.toNat : Int) == 8) = false := byte_ne 8 h8
  have e10 : ((c.toNat : Int) == 10) = false := byte_ne 10 h10
  have hlo : (32 : Int) ≤ (c.toNat : Int) := byte_le 32 hp.1
  have hhi : (c.toNat : Int) ≤ 126 := by have := UInt8.le_iff_toNat_le.1 hp.2; have e : (126 : UInt8).toNat = 126 := rfl; omega
  obtain ⟨c0, c1, c2, c3, c4, c5, c6, cf⟩ := h.cells
  have hrow := hg.row
  have hcol := hg.col
  have hcols := hg.cols
  have hrows := hg.rows
  have hcl : t.col < l.length := by omega
  obtain ⟨u8, hb8⟩ : ∃ u, w.cell? ⟨ga, o + t.col, none⟩ = some u := ⟨_, (h.grid.byte ho hl (List.getElem?_eq_getElem hcl)).1⟩
  have hf8 := (h.grid.byte ho hl (List.getElem?_eq_getElem hcl)).2
  have i1 : (t.row : Int) < (t.rows : Int) := by omega
  have i2 : (t.col : Int) < (t.cols : Int) := by omega
  have i3 : (t.col : Int) + 1 ≤ 132 := by omega
  clear h hg h13 h8 h10 hp c0 c5 c6 cf hl ho
  go_enter Tryz.func25, Tryz.ntmps25
  go_wp2_with fail
  go_still_tail 19, (by kernel_rfl)
  go_wp2_with fail
  obtain ⟨wx, hwx⟩ : ∃ wx, (w.setCell ⟨ga, o + t.col, none⟩ (.int .u8 (c.toNat : Int))).drew = wx := ⟨_, rfl⟩
  rw [hwx]
  have hx := (HM.out 1 0).1.cells
  have hwx' : (w.drewN 1).setCell ⟨ga, o + t.col, none⟩ (.int .u8 (c.toNat : Int)) = wx := by rw [← hwx]; rfl
  rw [hwx'] at hx
  obtain ⟨c0, c1, c2, c3, c4, c5, c6, cf⟩ := hx
  have cf4 := cf 4
  have HM2 : Hid (∀ m x, x = min ((t.col : Int) + 1) ((t.cols : Int) - 1) → VtStep B w v gr cap ga pv (t.plain c) ((wx.drewN m).setCell ⟨v, 4, none⟩ (.int .i64 x))) := Lib.hid fun m x hx => by
    have := (HM.out 1 m).2
    rw [hwx', ← hx] at this
    exact this
  clear hwx hwx' c0 c2 c3 c5 c6 cf
  go_still_tail 17, (by kernel_rfl)
  go_wp2_with fail
  all_goals
    go_returns
    exact ⟨rfl, HM2.out 1 _ (by omega)⟩
/-- A byte that is no part of an escape. -/
theorem plain_any {B : Nat} {w : World} {v gr cap ga : Nat} {os : List Nat} {pv : Value} {t : Tm} (c : UInt8) (h : VtAt B w v gr cap ga os pv t) (hg : t.Good) :
    Calls Tryz.prog 25 #[.pointer (some ⟨v, 0, none⟩), .int .u8 (c.toNat : Int)] w fun e w' => e = .returned (.tuple #[]) ∧ VtStep B w v gr cap ga pv (t.plain c) w' := by
  by_cases h13 : c = 13
  · subst h13; exact plain_cr h
  by_cases h8 : c = 8
  · subst h8; exact plain_bs h hg
  by_cases h10 : c = 10
  · subst h10; exact plain_lf h hg
  by_cases hp : 32 ≤ c ∧ c ≤ 126
  · exact plain_put c h hg h13 h8 h10 hp
  · exact plain_no c h h13 h8 h10 hp
end Go.Proofs.YtcgaaadcbhkfoaaGreatDoor
