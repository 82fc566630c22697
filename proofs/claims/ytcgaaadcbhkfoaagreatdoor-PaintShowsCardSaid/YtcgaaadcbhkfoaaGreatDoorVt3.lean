/- The laws over a terminal, in plain Lean (chapter 13). No program in sight. -/
import Derived.Test.YtcgaaadcbhkfoaaGreatDoorVt2
namespace Go.Proofs.YtcgaaadcbhkfoaaGreatDoor
open Go

/-- What is shown: all but what of an escape is there. -/
def Tm.at0 (t : Tm) (p : List UInt8) : Tm := { t with esc := 0, par := p }
theorem byte_esc (t : Tm) : t.byte 27 = { t with esc := 1, par := [] } := by unfold Tm.byte; rw [if_pos rfl]
theorem byte_open (t : Tm) : ({ t with esc := 1, par := [] } : Tm).byte 91 = { t with esc := 2, par := [] } := by
  unfold Tm.byte
  rw [if_neg (by decide)]
  simp
/-- A byte of an escape's parameters. -/
def parB (c : UInt8) : Bool := decide (32 ≤ c) && decide (c ≤ 63)
theorem byte_par (t : Tm) (p : List UInt8) (c : UInt8) (h : parB c = true) : ({ t with esc := 2, par := p } : Tm).byte c = { t with esc := 2, par := p ++ [c] } := by
  unfold parB at h
  simp only [Bool.and_eq_true, decide_eq_true_eq] at h
  unfold Tm.byte
  have h27 : ¬ c = 27 := by rintro rfl; exact absurd h.1 (by decide)
  rw [if_neg h27]
  simp [h.1, h.2]
theorem feed_par (t : Tm) : ∀ (q p : List UInt8), q.all parB = true → ({ t with esc := 2, par := p } : Tm).feed q = { t with esc := 2, par := p ++ q }
  | [], p, _ => by simp [Tm.feed]
  | c :: q, p, h => by
    simp only [List.all_cons, Bool.and_eq_true] at h
    have ih := feed_par t q (p ++ [c]) h.2
    unfold Tm.feed at *
    rw [List.foldl_cons, byte_par t p c h.1, ih, List.append_assoc]; rfl
theorem feed_csi (t : Tm) (q : List UInt8) (h : q.all parB = true) : t.feed ([27, 91] ++ q) = { t with esc := 2, par := q } := by
  rw [Tm.feed_append]
  have e : t.feed [27, 91] = { t with esc := 2, par := [] } := by
    unfold Tm.feed
    simp only [List.foldl_cons, List.foldl_nil]
    rw [byte_esc, byte_open]
  rw [e, feed_par t q [] h, List.nil_append]
theorem byte_end (t : Tm) (q : List UInt8) (c : UInt8) (h1 : 64 ≤ c) (h2 : c ≤ 126) : ({ t with esc := 2, par := q } : Tm).byte c = (match numsT q (-1) with
    | none => t.at0 q
    | some l => (t.at0 q).command c l) := by
  unfold Tm.byte
  have h27 : ¬ c = 27 := by rintro rfl; exact absurd h1 (by decide)
  have h63 : ¬ (32 ≤ c ∧ c ≤ 63) := fun h => absurd (UInt8.le_trans h1 h.2) (by decide)
  rw [if_neg h27, if_neg (show ¬ (2 : Nat) = 0 by decide), if_neg (show ¬ (2 : Nat) = 1 by decide), if_neg h63, if_pos ⟨h1, h2⟩]
  rfl
theorem feed_command (t : Tm) (q : List UInt8) (h : q.all parB = true) (c : UInt8) (h1 : 64 ≤ c) (h2 : c ≤ 126) : t.feed ([27, 91] ++ (q ++ [c])) = (match numsT q (-1) with
    | none => t.at0 q
    | some l => (t.at0 q).command c l) := by
  rw [← List.append_assoc, Tm.feed_append, feed_csi t q h]
  show ({ t with esc := 2, par := q } : Tm).byte c = _
  exact byte_end t q c h1 h2
/-- A command that says nothing here. -/
theorem command_none (t : Tm) (c : UInt8) (l : List Int) (h : c ≠ 72 ∧ c ≠ 65 ∧ c ≠ 66 ∧ c ≠ 67 ∧ c ≠ 68 ∧ c ≠ 74 ∧ c ≠ 75) : t.command c l = t := by
  obtain ⟨a1, a2, a3, a4, a5, a6, a7⟩ := h
  unfold Tm.command
  simp only [if_neg a1, if_neg a2, if_neg a3, if_neg a4, if_neg a5, if_neg a6, if_neg a7]
  split <;> rfl
theorem feed_quiet (t : Tm) (q : List UInt8) (h : q.all parB = true) (c : UInt8) (h1 : 64 ≤ c) (h2 : c ≤ 126) (hc : c ≠ 72 ∧ c ≠ 65 ∧ c ≠ 66 ∧ c ≠ 67 ∧ c ≠ 68 ∧ c ≠ 74 ∧ c ≠ 75) : t.feed ([27, 91] ++ (q ++ [c])) = t.at0 q := by
  rw [feed_command t q h c h1 h2]
  split
  · rfl
  · exact command_none _ _ _ hc
/-- Behind ahead and an m: no escape has begun. -/
theorem feed_reset (t : Tm) : t.feed [27, 91, 109] = t.at0 [] := feed_quiet t [] rfl 109 (by decide) (by decide) (by decide)
theorem at0_at0 (t : Tm) (p q : List UInt8) : (t.at0 p).at0 q = t.at0 q := rfl

/-! ### Erasing -/
def eraseC (k i j row col : Nat) : Bool :=
  let on := decide (i = row) && decide (col ≤ j)
  (decide (k < 2) && (on || decide (row < i))) || decide (k = 2) || ((decide (k = 3) || decide (k = 4)) && on) || (decide (k = 5) && decide (i = row))
def eraseW (t : Tm) (k : Nat) : List (List UInt8) := t.cells.mapIdx fun i l => l.mapIdx fun j c => if eraseC k i j t.row t.col then 32 else c
theorem mapIdx_wipe (l : List UInt8) (f : Nat → Bool) (h : ∀ j, j < l.length → f j = true) : (l.mapIdx fun j c => if f j then 32 else c) = blankL l.length := by
  refine List.ext_getElem? fun j => ?_
  rw [List.getElem?_mapIdx]
  unfold blankL
  rw [List.getElem?_replicate]
  by_cases hj : j < l.length
  · rw [List.getElem?_eq_getElem hj, if_pos hj]
    simp [h j hj]
  · rw [List.getElem?_eq_none (by omega), if_neg hj]; rfl
theorem mapIdx_keep (l : List UInt8) (f : Nat → Bool) (h : ∀ j, j < l.length → f j = false) : (l.mapIdx fun j c => if f j then 32 else c) = l := by
  refine List.ext_getElem? fun j => ?_
  rw [List.getElem?_mapIdx]
  by_cases hj : j < l.length
  · rw [List.getElem?_eq_getElem hj]
    simp [h j hj]
  · rw [List.getElem?_eq_none (by omega)]; rfl
theorem mapIdx_from (l : List UInt8) (k : Nat) (hk : k ≤ l.length) (f : Nat → Bool) (h : ∀ j, j < l.length → f j = decide (k ≤ j)) : (l.mapIdx fun j c => if f j then 32 else c) = wipeFrom l k := by
  refine List.ext_getElem? fun j => ?_
  rw [List.getElem?_mapIdx]
  unfold wipeFrom blankL
  have htl : (l.take k).length = k := by rw [List.length_take]; omega
  by_cases hj : j < l.length
  · rw [List.getElem?_eq_getElem hj]
    simp only [Option.map_some, h j hj]
    by_cases hkj : k ≤ j
    · rw [List.getElem?_append_right (by omega), htl, List.getElem?_replicate]
      have e1 : decide (k ≤ j) = true := by simpa using hkj
      rw [e1, if_pos rfl, if_pos (by omega)]
    · rw [List.getElem?_append_left (by omega), List.getElem?_take, List.getElem?_eq_getElem hj]
      have e1 : decide (k ≤ j) = false := by simpa using hkj
      rw [e1, if_neg Bool.false_ne_true, if_pos (by omega)]
  · rw [List.getElem?_eq_none (by omega), List.getElem?_append_right (by omega), List.getElem?_eq_none (by simp; omega)]; rfl
/-- The rows behind an erasing. -/
theorem erase_rows (t : Tm) (hg : t.Good) (below : Bool) (from_ : Nat) (hf : from_ ≤ t.cols) (k : Nat)
    (h1 : ∀ j, j < t.cols → eraseC k t.row j t.row t.col = decide (from_ ≤ j)) (h2 : ∀ i j, i < t.row → eraseC k i j t.row t.col = false) (h3 : ∀ i j, t.row < i → eraseC k i j t.row t.col = below) :
    eraseW t k = (t.cells.set t.row (wipeFrom (t.cells.getD t.row []) from_)).take (t.row + 1) ++ (if below = true then (t.cells.drop (t.row + 1)).map fun l => blankL l.length else t.cells.drop (t.row + 1)) := by
  have hm := hg.many
  have hr := hg.row
  refine List.ext_getElem? fun i => ?_
  unfold eraseW
  rw [List.getElem?_mapIdx]
  have hlen : ((t.cells.set t.row (wipeFrom (t.cells.getD t.row []) from_)).take (t.row + 1)).length = t.row + 1 := by rw [List.length_take, List.length_set]; omega
  rcases Nat.lt_trichotomy i t.row with hi | hi | hi
  · rw [List.getElem?_append_left (by omega), List.getElem?_take, if_pos (by omega), List.getElem?_set_ne (by omega), List.getElem?_eq_getElem (show i < t.cells.length by omega)]
    simp only [Option.map_some]
    rw [mapIdx_keep _ _ (fun j _ => h2 i j hi)]
  · subst hi
    rw [List.getElem?_append_left (by omega), List.getElem?_take, if_pos (by omega), List.getElem?_set_self (by omega), List.getElem?_eq_getElem (show t.row < t.cells.length by omega)]
    simp only [Option.map_some]
    have hl := hg.each t.cells[t.row] (List.getElem_mem (by omega))
    have hgd : t.cells.getD t.row [] = t.cells[t.row] := by rw [List.getD_eq_getElem?_getD, List.getElem?_eq_getElem (by omega)]; rfl
    rw [hgd, mapIdx_from _ from_ (by omega) _ (fun j hj => h1 j (by omega))]
  · rw [List.getElem?_append_right (by omega), hlen]
    cases below with
    | true =>
      simp only [if_true, List.getElem?_map, List.getElem?_drop]
      rw [show t.row + 1 + (i - (t.row + 1)) = i by omega]
      cases hc : t.cells[i]? with
      | none => rfl
      | some l =>
        simp only [Option.map_some]
        rw [mapIdx_wipe _ _ (fun j _ => h3 i j hi)]
    | false =>
      simp only [Bool.false_eq_true, if_false, List.getElem?_drop]
      rw [show t.row + 1 + (i - (t.row + 1)) = i by omega]
      cases hc : t.cells[i]? with
      | none => rfl
      | some l =>
        simp only [Option.map_some]
        rw [mapIdx_keep _ _ (fun j _ => h3 i j hi)]

/-- What the nine escapes of the law erase. -/
def eraseP (k : Nat) : List UInt8 := match k with
  | 0 => [74] | 1 => [48, 74] | 2 => [50, 74] | 3 => [75] | 4 => [48, 75] | 5 => [50, 75] | 6 => [49, 74] | 7 => [51, 75] | _ => [48, 59, 48, 75]
theorem erase_none (t : Tm) (k : Nat) (h : 6 ≤ k) : eraseW t k = t.cells := by
  unfold eraseW
  refine List.ext_getElem? fun i => ?_
  rw [List.getElem?_mapIdx]
  cases hc : t.cells[i]? with
  | none => rfl
  | some l =>
    simp only [Option.map_some]
    rw [mapIdx_keep _ _ (fun j _ => ?_)]
    unfold eraseC
    simp; omega
theorem erase_all (t : Tm) : eraseW t 2 = t.cells.map fun l => blankL l.length := by
  unfold eraseW
  refine List.ext_getElem? fun i => ?_
  rw [List.getElem?_mapIdx, List.getElem?_map]
  cases hc : t.cells[i]? with
  | none => rfl
  | some l =>
    simp only [Option.map_some]
    rw [mapIdx_wipe _ _ (fun j _ => ?_)]
    unfold eraseC
    simp
theorem cmdJ (t : Tm) (l : List Int) (a : Int) (hl : l = [a]) : t.command 74 l = t.erase true (max a 0) := by
  subst hl
  unfold Tm.command
  rw [if_neg (by simp)]
  simp
theorem cmdK (t : Tm) (l : List Int) (a : Int) (hl : l = [a]) : t.command 75 l = t.erase false (max a 0) := by
  subst hl
  unfold Tm.command
  rw [if_neg (by simp)]
  simp
/-- The law: cells that are erased are blank, all others stay, and so does the cursor. -/
theorem erase_law (t : Tm) (hg : t.Good) (k : Nat) (hk : k < 9) : ∃ p, t.feed ([27, 91] ++ eraseP k) = { t with cells := eraseW t k, esc := 0, par := p } := by
  have hc := hg.col
  have e0 : ∀ (b : Bool) (p : List UInt8), (t.at0 p).erase b 0 = { t with cells := (t.cells.set t.row (wipeFrom (t.cells.getD t.row []) t.col)).take (t.row + 1) ++ (if b = true then (t.cells.drop (t.row + 1)).map fun l => blankL l.length else t.cells.drop (t.row + 1)), esc := 0, par := p } := fun b p => by
    unfold Tm.erase; simp [Tm.at0]
  have hJ : eraseW t 0 = (t.cells.set t.row (wipeFrom (t.cells.getD t.row []) t.col)).take (t.row + 1) ++ (if true = true then (t.cells.drop (t.row + 1)).map fun l => blankL l.length else t.cells.drop (t.row + 1)) :=
    erase_rows t hg true t.col (by omega) 0 (fun j _ => by simp [eraseC]) (fun i j h => by simp [eraseC]; omega) (fun i j h => by simp [eraseC]; omega)
  have hJ1 : eraseW t 1 = (t.cells.set t.row (wipeFrom (t.cells.getD t.row []) t.col)).take (t.row + 1) ++ (if true = true then (t.cells.drop (t.row + 1)).map fun l => blankL l.length else t.cells.drop (t.row + 1)) :=
    erase_rows t hg true t.col (by omega) 1 (fun j _ => by simp [eraseC]) (fun i j h => by simp [eraseC]; omega) (fun i j h => by simp [eraseC]; omega)
  have hK : ∀ k, k = 3 ∨ k = 4 → eraseW t k = (t.cells.set t.row (wipeFrom (t.cells.getD t.row []) t.col)).take (t.row + 1) ++ (if false = true then (t.cells.drop (t.row + 1)).map fun l => blankL l.length else t.cells.drop (t.row + 1)) := fun k hk =>
    erase_rows t hg false t.col (by omega) k (fun j _ => by rcases hk with rfl | rfl <;> simp [eraseC]) (fun i j h => by rcases hk with rfl | rfl <;> (simp [eraseC]; omega)) (fun i j h => by rcases hk with rfl | rfl <;> (simp [eraseC]; omega))
  have hK5 : eraseW t 5 = (t.cells.set t.row (wipeFrom (t.cells.getD t.row []) 0)).take (t.row + 1) ++ (if false = true then (t.cells.drop (t.row + 1)).map fun l => blankL l.length else t.cells.drop (t.row + 1)) :=
    erase_rows t hg false 0 (by omega) 5 (fun j _ => by simp [eraseC]) (fun i j h => by simp [eraseC]; omega) (fun i j h => by simp [eraseC]; omega)
  match k, hk with
  | 0, _ =>
    refine ⟨[], ?_⟩
    have := feed_command t [] rfl 74 (by decide) (by decide)
    simp only [numsT] at this
    rw [cmdJ _ _ (-1) rfl] at this
    rw [hJ]; exact this.trans (e0 true [])
  | 1, _ =>
    refine ⟨[48], ?_⟩
    have := feed_command t [48] rfl 74 (by decide) (by decide)
    have en : numsT [48] (-1) = some [0] := by decide
    rw [en] at this
    simp only at this
    rw [cmdJ _ _ 0 rfl] at this
    rw [hJ1]; exact this.trans (e0 true [48])
  | 2, _ =>
    refine ⟨[50], ?_⟩
    have := feed_command t [50] rfl 74 (by decide) (by decide)
    have en : numsT [50] (-1) = some [2] := by decide
    rw [en] at this
    simp only at this
    rw [cmdJ _ _ 2 rfl, show max (2 : Int) 0 = 2 from by decide] at this
    rw [erase_all]
    refine this.trans ?_
    unfold Tm.erase
    simp [Tm.at0]
  | 3, _ =>
    refine ⟨[], ?_⟩
    have := feed_command t [] rfl 75 (by decide) (by decide)
    simp only [numsT] at this
    rw [cmdK _ _ (-1) rfl] at this
    rw [hK 3 (.inl rfl)]; exact this.trans (e0 false [])
  | 4, _ =>
    refine ⟨[48], ?_⟩
    have := feed_command t [48] rfl 75 (by decide) (by decide)
    have en : numsT [48] (-1) = some [0] := by decide
    rw [en] at this
    simp only at this
    rw [cmdK _ _ 0 rfl] at this
    rw [hK 4 (.inr rfl)]; exact this.trans (e0 false [48])
  | 5, _ =>
    refine ⟨[50], ?_⟩
    have := feed_command t [50] rfl 75 (by decide) (by decide)
    have en : numsT [50] (-1) = some [2] := by decide
    rw [en] at this
    simp only at this
    rw [cmdK _ _ 2 rfl, show max (2 : Int) 0 = 2 from by decide] at this
    rw [hK5]
    refine this.trans ?_
    unfold Tm.erase
    simp [Tm.at0]
  | 6, _ =>
    refine ⟨[49], ?_⟩
    have := feed_command t [49] rfl 74 (by decide) (by decide)
    have en : numsT [49] (-1) = some [1] := by decide
    rw [en] at this
    simp only at this
    rw [cmdJ _ _ 1 rfl, show max (1 : Int) 0 = 1 from by decide] at this
    rw [erase_none t 6 (by omega)]
    refine this.trans ?_
    unfold Tm.erase
    simp [Tm.at0]
  | 7, _ =>
    refine ⟨[51], ?_⟩
    have := feed_command t [51] rfl 75 (by decide) (by decide)
    have en : numsT [51] (-1) = some [3] := by decide
    rw [en] at this
    simp only at this
    rw [cmdK _ _ 3 rfl, show max (3 : Int) 0 = 3 from by decide] at this
    rw [erase_none t 7 (by omega)]
    refine this.trans ?_
    unfold Tm.erase
    simp [Tm.at0]
  | 8, _ =>
    refine ⟨[48, 59, 48], ?_⟩
    have := feed_command t [48, 59, 48] rfl 75 (by decide) (by decide)
    have en : numsT [48, 59, 48] (-1) = some [0, 0] := by decide
    rw [en] at this
    simp only at this
    rw [erase_none t 8 (by omega)]
    refine this.trans ?_
    unfold Tm.command
    rw [if_pos (.inr ⟨by simp, by decide⟩)]
    rfl
end Go.Proofs.YtcgaaadcbhkfoaaGreatDoor
