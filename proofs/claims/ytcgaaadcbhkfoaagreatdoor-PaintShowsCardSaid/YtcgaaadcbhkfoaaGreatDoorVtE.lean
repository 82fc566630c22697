/- The walk of erase. -/
import Derived.Test.YtcgaaadcbhkfoaaGreatDoorVtD
namespace Go.Proofs.YtcgaaadcbhkfoaaGreatDoor
open Go Go.Proofs Go.RowKit Go.Ink

/-- Rows from lo on, n of them, are blank. -/
def wipeRs (cells : List (List UInt8)) (cols lo : Nat) : Nat → List (List UInt8)
  | 0 => cells
  | n + 1 => (wipeRs cells cols lo n).set (lo + n) (blankL cols)
theorem wipeRs_len (cells : List (List UInt8)) (cols lo : Nat) : ∀ n, (wipeRs cells cols lo n).length = cells.length
  | 0 => rfl
  | n + 1 => by unfold wipeRs; rw [List.length_set, wipeRs_len cells cols lo n]
theorem wipeRs_at (cells : List (List UInt8)) (cols lo : Nat) : ∀ n i, (wipeRs cells cols lo n)[i]? = if lo ≤ i ∧ i < lo + n then cells[i]?.map (fun _ => blankL cols) else cells[i]?
  | 0, i => by rw [if_neg (by omega)]; rfl
  | n + 1, i => by
    unfold wipeRs
    by_cases e : lo + n = i
    · subst e
      rw [if_pos (by omega)]
      rcases Nat.lt_or_ge (lo + n) cells.length with h | h
      · rw [List.getElem?_set_self (by rw [wipeRs_len]; exact h), List.getElem?_eq_getElem h]; rfl
      · rw [List.getElem?_eq_none (by rw [List.length_set, wipeRs_len]; exact h), List.getElem?_eq_none h]; rfl
    · rw [List.getElem?_set_ne e, wipeRs_at cells cols lo n i]
      by_cases h1 : lo ≤ i ∧ i < lo + n
      · rw [if_pos h1, if_pos (by omega)]
      · rw [if_neg h1, if_neg (by omega)]
theorem map_blank {cells : List (List UInt8)} {cols : Nat} (h : ∀ l ∈ cells, l.length = cols) (i : Nat) : (cells.map fun l => blankL l.length)[i]? = cells[i]?.map (fun _ => blankL cols) := by
  rw [List.getElem?_map]
  cases hc : cells[i]? with
  | none => rfl
  | some l => simp only [Option.map_some]; rw [h l (List.mem_of_getElem? hc)]
theorem wipeRs_all {t : Tm} (hg : t.Good) : wipeRs t.cells t.cols 0 t.rows = t.cells.map fun l => blankL l.length := by
  refine List.ext_getElem? fun i => ?_
  rw [wipeRs_at, map_blank hg.each]
  rcases Nat.lt_or_ge i t.rows with h | h
  · rw [if_pos (by omega)]
  · rw [if_neg (by omega), List.getElem?_eq_none (by rw [hg.many]; exact h)]; rfl
/-- Rows below are blank (or not), and the cursor's row from a place on. -/
theorem erase_row_cells {t : Tm} (hg : t.Good) (below : Bool) (from_ : Nat) :
    (wipeRs t.cells t.cols (t.row + 1) (if below then t.rows - (t.row + 1) else 0)).set t.row (wipeFrom (t.cells.getD t.row []) from_) =
      (t.cells.set t.row (wipeFrom (t.cells.getD t.row []) from_)).take (t.row + 1) ++ (if below = true then (t.cells.drop (t.row + 1)).map fun l => blankL l.length else t.cells.drop (t.row + 1)) := by
  have hm := hg.many
  have hr := hg.row
  refine List.ext_getElem? fun i => ?_
  have htl : ((t.cells.set t.row (wipeFrom (t.cells.getD t.row []) from_)).take (t.row + 1)).length = t.row + 1 := by rw [List.length_take, List.length_set]; omega
  rcases Nat.lt_or_ge i (t.row + 1) with h1 | h1
  · rw [List.getElem?_append_left (by omega), List.getElem?_take, if_pos h1]
    by_cases e : t.row = i
    · subst e
      rw [List.getElem?_set_self (by rw [wipeRs_len]; omega), List.getElem?_set_self (by omega)]
    · rw [List.getElem?_set_ne e, List.getElem?_set_ne e, wipeRs_at, if_neg (by omega)]
  · rw [List.getElem?_append_right (by omega), htl, List.getElem?_set_ne (by omega), wipeRs_at]
    cases below with
    | false =>
      have e : t.row + 1 + (i - (t.row + 1)) = i := by omega
      rw [if_neg (by simp <;> omega), if_neg (by decide), List.getElem?_drop, e]
    | true =>
      rw [if_pos rfl, if_pos rfl, map_blank (fun l hl => hg.each l (List.mem_of_mem_drop hl)), List.getElem?_drop]
      have e : t.row + 1 + (i - (t.row + 1)) = i := by omega
      rw [e]
      rcases Nat.lt_or_ge i t.rows with h | h
      · rw [if_pos (by omega)]
      · rw [if_neg (by omega), List.getElem?_eq_none (by omega)]; rfl
/-- A row from a place on is wiped. -/
theorem wipe_row {B : Nat} {w : World} {v gr cap ga : Nat} {os : List Nat} {pv : Value} {t : Tm} (h : VtAt B w v gr cap ga os pv t) (hc : t.cols ≤ 132) {k o : Nat} {l : List UInt8} (ho : os[k]? = some o) (hl : t.cells[k]? = some l) (from_ : Nat) (hf : from_ < t.cols) (c : Nat) :
    Calls Tryz.prog 46 #[.slice (some ⟨ga, o + from_, none⟩) (t.cols - from_) c] w fun e w' => e = .returned (.tuple #[]) ∧ VtAt B w' v gr cap ga os pv { t with cells := t.cells.set k (wipeFrom l from_) } ∧ KeepT (VtS v gr ga pv) w w' := by
  obtain ⟨ds, hd1, hd2⟩ := h.grid.bytes
  have hll := h.grid.each l (List.mem_of_getElem? hl)
  have hds : o + from_ + (t.cols - from_) ≤ ds.size := by
    have := hd2 k o l (t.cols - 1) (l[t.cols - 1]'(by omega)) ho hl (List.getElem?_eq_getElem _)
    have := (Array.getElem?_eq_some_iff.1 this).1
    omega
  refine (wipe_any ga (o + from_) (t.cols - from_) c w hd1 hds (by unfold maxLen; omega)).mono ?_
  rintro e w' ⟨he, rfl⟩
  refine ⟨he, ?_, KeepT.wipeW (KeepT.refl _ _) ga _ (.inr (.inr (.inl rfl))) _⟩
  refine h.grids ?_ (fun i _ _ h3 => wipeW_old w ga _ h3 _) rfl rfl rfl rfl rfl rfl
  have := h.grid.wipe ho hl (from_ := from_) (t.cols - from_) (by omega)
  rw [← hll, wipeTo_from l from_ (by omega), hll] at this
  exact this
theorem wipe_row0 {B : Nat} {w : World} {v gr cap ga : Nat} {os : List Nat} {pv : Value} {t : Tm} (h : VtAt B w v gr cap ga os pv t) (hc : 8 ≤ t.cols ∧ t.cols ≤ 132) {k o : Nat} {l : List UInt8} (ho : os[k]? = some o) (hl : t.cells[k]? = some l) (c : Nat) :
    Calls Tryz.prog 46 #[.slice (some ⟨ga, o, none⟩) t.cols c] w fun e w' => e = .returned (.tuple #[]) ∧ VtAt B w' v gr cap ga os pv { t with cells := t.cells.set k (blankL t.cols) } ∧ KeepT (VtS v gr ga pv) w w' := by
  have := wipe_row h hc.2 ho hl 0 (by omega) c
  have hll := h.grid.each l (List.mem_of_getElem? hl)
  have e : wipeFrom l 0 = blankL t.cols := by unfold wipeFrom; simp [hll]
  rw [e] at this
  exact this

set_option maxRecDepth 100000 in
theorem erase_no {B : Nat} {w : World} {v gr cap ga : Nat} {os : List Nat} {pv : Value} {t : Tm} (h : VtAt B w v gr cap ga os pv t) (below : Bool) (how : Int) (hh : how ≠ 0 ∧ how ≠ 2) :
    Calls Tryz.prog 55 #[.pointer (some ⟨v, 0, none⟩), .bool below, .int .i64 how] w fun e w' => e = .returned (.tuple #[]) ∧ VtStep B w v gr cap ga pv (t.erase below how) w' := by
  have HF : Hid (VtStep B w v gr cap ga pv (t.erase below how) w) := Lib.hid (by unfold Tm.erase; rw [if_pos hh]; exact VtStep.same h (KeepT.refl _ _))
  have h0 : (how != 0) = true := by simpa using hh.1
  have h2 : (how != 2) = true := by simpa using hh.2
  clear h hh
  go_enter Tryz.func55, Tryz.ntmps55
  go_wp2_with fail
  go_returns
  exact ⟨rfl, HF.out⟩
set_option maxRecDepth 100000 in
theorem erase_full {B : Nat} {w : World} {v gr cap ga : Nat} {os : List Nat} {pv : Value} {t : Tm} (h : VtAt B w v gr cap ga os pv t) (hg : t.Good) :
    Calls Tryz.prog 55 #[.pointer (some ⟨v, 0, none⟩), .bool true, .int .i64 2] w fun e w' => e = .returned (.tuple #[]) ∧ VtStep B w v gr cap ga pv (t.erase true 2) w' := by
  have HF : Hid (∀ w', VtAt B w' v gr cap ga os pv { t with cells := wipeRs t.cells t.cols 0 t.rows } → KeepT (VtS v gr ga pv) w w' → VtStep B w v gr cap ga pv (t.erase true 2) w') := Lib.hid fun w' h1 h2 => by
    unfold Tm.erase; rw [if_neg (by decide), if_pos (by decide), ← wipeRs_all hg]; exact VtStep.same h1 h2
  have hcols := hg.cols
  have hrows := hg.rows
  have hmany := hg.many
  obtain ⟨c0, c1, c2, c3, c4, c5, c6, cf⟩ := h.cells
  have H := Lib.hid h
  have HMANY := Lib.hid hmany
  clear h hg cf c0 c1 c3 c4 c5 c6 hmany
  go_enter Tryz.func55, Tryz.ntmps55
  go_wp2_with fail
  go_loopw [33] (fun i wr => ∃ k : Nat, i = .int .i64 k ∧ k ≤ t.rows ∧ Hid (VtAt B wr v gr cap ga os pv { t with cells := wipeRs t.cells t.cols 0 k }) ∧ Hid (KeepT (VtS v gr ga pv) w wr)) (fun i _ => t.rows - (intOf i).toNat)
  case atStart => exact ⟨0, rfl, by omega, H, Lib.hid (KeepT.refl _ _)⟩
  case round =>
    obtain ⟨k, rfl, hk, HV, HK⟩ := hrel
    clear c2
    by_cases hlt : k < t.rows
    · obtain ⟨o, l, ho, hl, hll, d0, _⟩ := HV.out.grid.row (k := k) (by simp only [wipeRs_len]; rw [HMANY.out]; exact hlt)
      have HW := Lib.hid (wipe_row0 HV.out hcols ho hl t.cols)
      simp only [] at HW
      clear ho hl hll
      go_wp2_with fail
      refine HW.out.mono ?_
      rintro e w2 ⟨rfl, hv2, hk2⟩
      have HV2 : Hid (VtAt B w2 v gr cap ga os pv { t with cells := wipeRs t.cells t.cols 0 (k + 1) }) := Lib.hid (by unfold wipeRs; rw [Nat.zero_add]; exact hv2)
      have HK2 := Lib.hid (HK.out.trans hk2 (fun _ _ e => e))
      clear hv2 hk2 HW
      go_wp2_with fail
      go_roundw
      case rel => exact ⟨k + 1, by go_num, by omega, HV2, HK2⟩
      case measure => simp [intOf]; omega
    · obtain rfl : k = t.rows := by omega
      go_wp2_with fail
      go_returns
      exact ⟨rfl, HF.out _ HV.out HK.out⟩

/-- What erase leaves in the cursor's row, rows below wiped before. -/
theorem erase_end {B : Nat} {w w1 w2 : World} {v gr cap ga : Nat} {os : List Nat} {pv : Value} {t : Tm} (hg : t.Good) (below : Bool) (how : Int) (hh : how = 0 ∨ how = 2) (hb : ¬ (below = true ∧ how = 2)) (hk1 : KeepT (VtS v gr ga pv) w w1)
    (h2 : VtAt B w2 v gr cap ga os pv { t with cells := (wipeRs t.cells t.cols (t.row + 1) (if below then t.rows - (t.row + 1) else 0)).set t.row (wipeFrom (t.cells.getD t.row []) (if how = 2 then 0 else t.col)) }) (hk2 : KeepT (VtS v gr ga pv) w1 w2) :
    VtStep B w v gr cap ga pv (t.erase below how) w2 := by
  unfold Tm.erase
  rw [if_neg (by omega), if_neg hb, ← erase_row_cells hg below]
  exact VtStep.same h2 (hk1.trans hk2 (fun _ _ e => e))
theorem wipeRs_row {t : Tm} (hg : t.Good) (n : Nat) : (wipeRs t.cells t.cols (t.row + 1) n)[t.row]? = some (t.cells.getD t.row []) := by
  rw [wipeRs_at, if_neg (by omega), List.getD_eq_getElem?_getD, List.getElem?_eq_getElem (by have := hg.many; have := hg.row; omega)]
  rfl
set_option maxRecDepth 100000 in
theorem erase_line {B : Nat} {w : World} {v gr cap ga : Nat} {os : List Nat} {pv : Value} {t : Tm} (h : VtAt B w v gr cap ga os pv t) (hg : t.Good) (how : Int) (hh : how = 0 ∨ how = 2) :
    Calls Tryz.prog 55 #[.pointer (some ⟨v, 0, none⟩), .bool false, .int .i64 how] w fun e w' => e = .returned (.tuple #[]) ∧ VtStep B w v gr cap ga pv (t.erase false how) w' := by
  have HF : Hid (∀ w2, VtAt B w2 v gr cap ga os pv { t with cells := t.cells.set t.row (wipeFrom (t.cells.getD t.row []) (if how = 2 then 0 else t.col)) } → KeepT (VtS v gr ga pv) w w2 → VtStep B w v gr cap ga pv (t.erase false how) w2) := Lib.hid fun w2 h2 hk => by
    exact erase_end hg false how hh (by simp) (KeepT.refl _ w) h2 hk
  have hl := wipeRs_row hg 0
  obtain ⟨o, l, ho, hl', hll, d0, _⟩ := h.grid.row (k := t.row) (by have := hg.many; have := hg.row; omega)
  have hcols := hg.cols
  have hrows := hg.rows
  have hrow : (t.row : Int) < (t.rows : Int) := by have := hg.row; omega
  have hcol := hg.col
  have hle : (t.col : Int) ≤ (t.cols : Int) := by omega
  have hne : ¬ t.cols = t.col := by omega
  have hz : ¬ t.cols = 0 := by omega
  obtain ⟨c0, c1, c2, c3, c4, c5, c6, cf⟩ := h.cells
  have HW0 := Lib.hid (fun n c => wipe_row (h.drewN n) hcols.2 ho hl t.col hg.col c)
  have HW2 := Lib.hid (fun n c => wipe_row0 (h.drewN n) hcols ho hl c)
  have HKN : Hid (∀ n, KeepT (VtS v gr ga pv) w (w.drewN n)) := Lib.hid fun n => (KeepT.refl _ _).drewN n
  have HBL : Hid (blankL t.cols = wipeFrom (t.cells.getD t.row []) 0) := Lib.hid (by unfold wipeFrom; simp; congr 1; exact (hg.each _ (hg.at rfl)).symm)
  clear h hg ho hl hl' hll cf c0 c1 c5 c6
  rcases hh with rfl | rfl
  · go_enter Tryz.func55, Tryz.ntmps55
    go_wp2_with fail
    go_still_tail 12, (by kernel_rfl)
    go_wp2_with fail
    refine (HW0.out 1 _).mono ?_
    rintro e w2 ⟨rfl, hv2, hk2⟩
    have HV2 := Lib.hid (HF.out w2 hv2 ((HKN.out 1).trans hk2 (fun _ _ e => e)))
    clear hv2 hk2 HW0 HW2
    go_wp2_with fail
    go_returns
    exact ⟨rfl, HV2.out⟩
  · go_enter Tryz.func55, Tryz.ntmps55
    go_wp2_with fail
    go_still_tail 12, (by kernel_rfl)
    go_wp2_with fail
    refine (HW2.out 1 _).mono ?_
    rintro e w2 ⟨rfl, hv2, hk2⟩
    rw [HBL.out] at hv2
    have HV2 := Lib.hid (HF.out w2 hv2 ((HKN.out 1).trans hk2 (fun _ _ e => e)))
    clear hv2 hk2 HW0 HW2
    go_wp2_with fail
    go_returns
    exact ⟨rfl, HV2.out⟩

set_option maxRecDepth 100000 in
theorem erase_below {B : Nat} {w : World} {v gr cap ga : Nat} {os : List Nat} {pv : Value} {t : Tm} (h : VtAt B w v gr cap ga os pv t) (hg : t.Good) :
    Calls Tryz.prog 55 #[.pointer (some ⟨v, 0, none⟩), .bool true, .int .i64 0] w fun e w' => e = .returned (.tuple #[]) ∧ VtStep B w v gr cap ga pv (t.erase true 0) w' := by
  obtain ⟨N, hN⟩ : ∃ N, t.rows - (t.row + 1) = N := ⟨_, rfl⟩
  have HF : Hid (∀ w1 w2, KeepT (VtS v gr ga pv) w w1 → VtAt B w2 v gr cap ga os pv { t with cells := (wipeRs t.cells t.cols (t.row + 1) N).set t.row (wipeFrom (t.cells.getD t.row []) t.col) } → KeepT (VtS v gr ga pv) w1 w2 → VtStep B w v gr cap ga pv (t.erase true 0) w2) := Lib.hid fun w1 w2 hk1 h2 hk2 => by
    rw [← hN] at h2
    exact erase_end hg true 0 (.inl rfl) (by simp) hk1 h2 hk2
  have HL := Lib.hid (fun n => wipeRs_row hg n)
  have hcols := hg.cols
  have hrows := hg.rows
  have hrow : (t.row : Int) < (t.rows : Int) := by have := hg.row; omega
  have hrow2 : t.row + 1 ≤ t.rows := hg.row
  have hcol := hg.col
  have hle : (t.col : Int) ≤ (t.cols : Int) := by omega
  have hne : ¬ t.cols = t.col := by omega
  have hfit := h.fits
  have hs1 : IntKind.i64.wrap ((t.row : Int) + 1) = (t.row : Int) + 1 := IntWalk.i64_in _ (by omega)
  have hs2 : (0 : Int) ≤ (t.row : Int) + 1 := by omega
  have hs3 : (t.row : Int) + 1 ≤ (t.rows : Int) := by omega
  have hs4 : ((t.row : Int) + 1).toNat = t.row + 1 := by omega
  obtain ⟨c0, c1, c2, c3, c4, c5, c6, cf⟩ := h.cells
  have H := Lib.hid h
  have HG := Lib.hid hg
  have HMANY := Lib.hid hg.many
  have HN := Lib.hid hN
  clear h hg cf c0 c1 c5 c6 c4
  by_cases hcap : cap = t.row + 1
  all_goals
    go_enter Tryz.func55, Tryz.ntmps55
    go_wp2_with fail
    go_quiet (fail)
    go_wp2_with fail
    have H0 := Lib.hid (H.out.drewN nq)
    have HK0 : Hid (KeepT (VtS v gr ga pv) w (w.drewN nq)) := Lib.hid ((KeepT.refl _ _).drewN nq)
    go_loopw [53] (fun i wr => ∃ k : Nat, i = .int .i64 k ∧ k ≤ N ∧ Hid (VtAt B wr v gr cap ga os pv { t with cells := wipeRs t.cells t.cols (t.row + 1) k }) ∧ Hid (KeepT (VtS v gr ga pv) w wr)) (fun i _ => N - (intOf i).toNat)
    case atStart => exact ⟨0, rfl, by omega, H0, HK0⟩
    case round =>
      obtain ⟨k, rfl, hk, HV, HK⟩ := hrel
      clear c2 c3 H0 HK0
      by_cases hlt : k < N
      · first
        | (exfalso; omega)
        | (obtain ⟨o, l, ho, hl, hll, d0, _⟩ := HV.out.grid.row (k := t.row + 1 + k) (by simp only [wipeRs_len]; rw [HMANY.out]; omega)
           have HW := Lib.hid (wipe_row0 HV.out hcols ho hl t.cols)
           simp only [] at HW
           clear ho hl hll
           go_wp2_with fail
           refine HW.out.mono ?_
           rintro e w2 ⟨rfl, hv2, hk2⟩
           have HV2 : Hid (VtAt B w2 v gr cap ga os pv { t with cells := wipeRs t.cells t.cols (t.row + 1) (k + 1) }) := Lib.hid hv2
           have HK2 := Lib.hid (HK.out.trans hk2 (fun _ _ e => e))
           clear hv2 hk2 HW d0
           go_wp2_with fail
           go_roundw
           case rel => exact ⟨k + 1, by go_num, by omega, HV2, HK2⟩
           case measure => simp [intOf]; omega)
      · obtain rfl : k = N := by omega
        obtain ⟨c0, c1, c2, c3, c4, c5, c6, cf⟩ := HV.out.cells
        simp only [] at c2 c3 c4
        obtain ⟨o, l, ho, hl, hll, d0, _⟩ := HV.out.grid.row (k := t.row) (by simp only [wipeRs_len]; rw [HMANY.out]; omega)
        have HW := Lib.hid (fun c => wipe_row (HV.out.drewN 1) hcols.2 ho (l := t.cells.getD t.row []) (HL.out k) t.col hcol c)
        simp only [] at HW
        clear ho hl hll c0 c1 c5 c6 cf
        go_wp2_with fail
        go_still_tail 12, (by kernel_rfl)
        go_wp2_with fail
        refine (HW.out _).mono ?_
        rintro e w2 ⟨rfl, hv2, hk2⟩
        have HE := Lib.hid (HF.out _ w2 (HK.out.drewN 1) hv2 hk2)
        clear hv2 hk2 HW
        go_wp2_with fail
        go_returns
        exact ⟨rfl, HE.out⟩
/-- Cells that are erased. -/
theorem erase_any {B : Nat} {w : World} {v gr cap ga : Nat} {os : List Nat} {pv : Value} {t : Tm} (h : VtAt B w v gr cap ga os pv t) (hg : t.Good) (below : Bool) (how : Int) :
    Calls Tryz.prog 55 #[.pointer (some ⟨v, 0, none⟩), .bool below, .int .i64 how] w fun e w' => e = .returned (.tuple #[]) ∧ VtStep B w v gr cap ga pv (t.erase below how) w' := by
  by_cases hh : how ≠ 0 ∧ how ≠ 2
  · exact erase_no h below how hh
  · have hh' : how = 0 ∨ how = 2 := by omega
    cases below with
    | false => exact erase_line h hg how hh'
    | true =>
      rcases hh' with rfl | rfl
      · exact erase_below h hg
      · exact erase_full h hg
end Go.Proofs.YtcgaaadcbhkfoaaGreatDoor
