/- What a terminal shows behind the bytes of paint, in plain Lean. -/
import Derived.Test.YtcgaaadcbhkfoaaGreatDoorAll0
import Derived.Test.YtcgaaadcbhkfoaaGreatDoorShort1
import Derived.Test.YtcgaaadcbhkfoaaGreatDoorVtJ
namespace Go.Proofs.YtcgaaadcbhkfoaaGreatDoor
open Go Go.Proofs Go.RowKit Go.Ink

/-- The bytes that lead to a place. -/
theorem feed_go (t : Tm) (r c : Nat) (hr : r ≤ 9000) (hc : c ≤ 9000) (h1 : r < t.rows) (h2 : c < t.cols) : ∃ p, t.feed (goS r c) = { t with row := r, col := c, esc := 0, par := p } := by
  have e : goS (r : Int) (c : Int) = [27, 91] ++ ((Lib.decDigits (r + 1) ++ 59 :: Lib.decDigits (c + 1)) ++ [72]) := by
    unfold goS
    have a1 : clampS (r : Int) + 1 = ((r + 1 : Nat) : Int) := by unfold clampS; omega
    have a2 : clampS (c : Int) + 1 = ((c + 1 : Nat) : Int) := by unfold clampS; omega
    rw [a1, a2]
    unfold Lib.itoa
    rw [if_neg (by omega), if_neg (by omega)]
    simp
  obtain ⟨p, hp⟩ := place_feed t (r + 1) (c + 1) (by omega) (by omega)
  refine ⟨p, ?_⟩
  rw [e, hp]
  unfold placeT
  congr 1 <;> omega
theorem set_set_ (l : List (List UInt8)) (i : Nat) (a b : List UInt8) : (l.set i a).set i b = l.set i b := by simp
/-- Cells that are written. -/
theorem feed_print : ∀ (l : List UInt8) (t : Tm) (x : List UInt8), t.esc = 0 → (∀ c ∈ l, 32 ≤ c ∧ c ≤ 126) → t.col < t.cols → t.col + l.length ≤ t.cols → t.cells[t.row]? = some x → x.length = t.cols →
    t.feed l = { t with cells := t.cells.set t.row (x.take t.col ++ l ++ x.drop (t.col + l.length)), col := min (t.col + l.length) (t.cols - 1) }
  | [], t, x, h0, _, hc, hl, hx, hn => by
    have e : t.cells.set t.row (x.take t.col ++ [] ++ x.drop (t.col + 0)) = t.cells := by
      rw [List.append_nil, Nat.add_zero, List.take_append_drop]
      refine List.ext_getElem? fun i => ?_
      rw [List.getElem?_set]
      split
      · rename_i h; subst h
        rw [hx]; simp
        exact (List.getElem?_eq_some_iff.1 hx).1
      · rfl
    show t = _
    rw [List.length_nil, e, Nat.add_zero, Nat.min_eq_left (by omega)]
  | c :: l, t, x, h0, hp, hc, hl, hx, hn => by
    have hcc := hp c (by simp)
    simp only [List.length_cons] at hl
    have n27 : c ≠ 27 := by rintro rfl; exact absurd hcc.1 (by decide)
    have n13 : c ≠ 13 := by rintro rfl; exact absurd hcc.1 (by decide)
    have n8 : c ≠ 8 := by rintro rfl; exact absurd hcc.1 (by decide)
    have n10 : c ≠ 10 := by rintro rfl; exact absurd hcc.1 (by decide)
    have hrow := (List.getElem?_eq_some_iff.1 hx).1
    have e1 : t.byte c = { t with cells := t.cells.set t.row (x.set t.col c), col := min (t.col + 1) (t.cols - 1) } := by
      rw [byte_plain t h0 c n27]
      unfold Tm.plain
      rw [if_neg n13, if_neg n8, if_neg n10, if_pos hcc]
      unfold Tm.putAt
      rw [List.getD_eq_getElem?_getD, hx]; rfl
    show (t.byte c).feed l = _
    rw [e1]
    by_cases hl0 : l = []
    · subst hl0
      show ({ t with cells := _, col := _ } : Tm) = _
      congr 1
      congr 1
      rw [List.set_eq_take_append_cons_drop, if_pos (by omega)]
      simp
    · have hlp : 0 < l.length := List.length_pos_iff.2 hl0
      rw [Nat.min_eq_left (show t.col + 1 ≤ t.cols - 1 by omega)]
      rw [feed_print l { t with cells := t.cells.set t.row (x.set t.col c), col := t.col + 1 } (x.set t.col c) h0 (fun y hy => hp y (by simp [hy])) (by show t.col + 1 < t.cols; omega) (by show t.col + 1 + l.length ≤ t.cols; omega) (by show (t.cells.set t.row _)[t.row]? = _; rw [List.getElem?_set_self hrow]) (by rw [List.length_set]; exact hn)]
      simp only [set_set_]
      congr 1
      · congr 1
        rw [List.drop_set_of_lt (by omega)]
        have e2 : (x.set t.col c).take (t.col + 1) = x.take t.col ++ [c] := by
          rw [List.take_set, List.set_eq_take_append_cons_drop, if_pos (by rw [List.length_take]; omega), List.take_take, List.drop_take]
          simp
        rw [e2, List.length_cons, show t.col + 1 + l.length = t.col + (l.length + 1) by omega]
        simp
      · rw [List.length_cons]; omega
/-- The rest of a row that is wiped. -/
theorem feed_rest (t : Tm) (x : List UInt8) (hx : t.cells[t.row]? = some x) : ∃ p, t.feed [27, 91, 75] = { t with cells := t.cells.set t.row (wipeFrom x t.col), esc := 0, par := p } := by
  refine ⟨[], ?_⟩
  have h := feed_command t [] rfl 75 (by decide) (by decide)
  have en : numsT [] (-1) = some [-1] := rfl
  rw [en] at h
  simp only at h
  rw [cmdK _ _ (-1) rfl, show max (-1 : Int) 0 = 0 from by decide] at h
  refine Eq.trans h ?_
  unfold Tm.erase
  simp only [Tm.at0]
  rw [if_neg (by simp), if_neg (by simp), List.getD_eq_getElem?_getD, hx]
  simp
  have := List.take_append_drop (t.row + 1) (t.cells.set t.row (wipeFrom x t.col))
  rw [List.drop_set_of_lt (by omega)] at this
  exact this
/-! ### The bytes of a row -/
theorem lastTo_ge (f t : List UInt8) (a : Nat) : ∀ k, a ≤ k → a ≤ lastTo f t a k
  | 0, h => by simp [lastTo]; omega
  | k + 1, h => by
    unfold lastTo
    split
    · rename_i h'; exact lastTo_ge f t a k h'.1
    · exact h
theorem lastTo_same (f t : List UInt8) (a : Nat) : ∀ k j, lastTo f t a k ≤ j → j < k → f[j]? = t[j]?
  | 0, j, _, h => by omega
  | k + 1, j, h1, h2 => by
    unfold lastTo at h1
    split at h1
    · rename_i h'
      by_cases hj : j = k
      · subst hj; exact h'.2
      · exact lastTo_same f t a k j h1 (by omega)
    · omega
theorem fullTo_blank (l : List UInt8) : ∀ k j, fullTo l k ≤ j → j < k → l[j]? = some 32
  | 0, j, _, h => by omega
  | k + 1, j, h1, h2 => by
    unfold fullTo at h1
    split at h1
    · rename_i h'
      by_cases hj : j = k
      · subst hj; exact h'
      · exact fullTo_blank l k j h1 (by omega)
    · omega
theorem firstD_take (f t : List UInt8) (h : f.length = t.length) : f.take (firstD f t) = t.take (firstD f t) := by
  refine List.ext_getElem? fun i => ?_
  rw [List.getElem?_take, List.getElem?_take]
  split
  · rename_i hi; exact (firstD_spec f t h).1 i hi
  · rfl
theorem lastD_drop (f t : List UInt8) (h : f.length = t.length) : f.drop (lastD f t) = t.drop (lastD f t) := by
  refine List.ext_getElem? fun i => ?_
  rw [List.getElem?_drop, List.getElem?_drop]
  by_cases hi : lastD f t + i < t.length
  · exact lastTo_same f t (firstD f t) t.length _ (by show lastD f t ≤ _; omega) hi
  · rw [List.getElem?_eq_none (by omega), List.getElem?_eq_none (by omega)]
theorem full_drop (l : List UInt8) (m : Nat) (h : fullN l ≤ m) : l.drop m = blankL (l.length - m) := by
  refine List.ext_getElem? fun i => ?_
  rw [List.getElem?_drop]
  unfold blankL
  rw [List.getElem?_replicate]
  split
  · exact fullTo_blank l l.length _ (by unfold fullN at h; omega) (by omega)
  · rw [List.getElem?_eq_none (by omega)]
theorem take_take_drop (t : List UInt8) (a m : Nat) (h : a ≤ m) : t.take a ++ (t.take m).drop a = t.take m := by
  have := List.take_append_drop a (t.take m)
  rw [List.take_take, Nat.min_eq_left h] at this
  exact this
/-- What is the same but the cursor and what of an escape is there. -/
def Tm.Cells (t u : Tm) (cells : List (List UInt8)) : Prop := u.rows = t.rows ∧ u.cols = t.cols ∧ u.cells = cells ∧ u.row < u.rows ∧ u.col < u.cols
theorem feed_row (t : Tm) (i : Nat) (f g : List UInt8) (hr : t.rows ≤ 60) (hc : t.cols ≤ 132) (h1 : t.row < t.rows) (h2 : t.col < t.cols) (hi : i < t.rows) (hf : t.cells[i]? = some f) (hfl : f.length = t.cols) (hgl : g.length = t.cols) (hg : ∀ c ∈ g, 32 ≤ c ∧ c ≤ 126) :
    t.Cells (t.feed (rowS i f g)) (t.cells.set i g) := by
  have hil := (List.getElem?_eq_some_iff.1 hf).1
  have hfg : f.length = g.length := by omega
  unfold rowS
  by_cases h0 : firstD f g = g.length
  · rw [if_pos h0]
    have e : f = g := by
      have := firstD_take f g hfg
      rw [h0, List.take_of_length_le (by omega), List.take_of_length_le (by omega)] at this
      exact this
    subst e
    refine ⟨rfl, rfl, ?_, h1, h2⟩
    show t.cells = _
    refine List.ext_getElem? fun j => ?_
    rw [List.getElem?_set]
    split
    · rename_i h; subst h; rw [hf]; try rw [if_pos hil]
    · rfl
  · rw [if_neg h0]
    have hle := firstD_le f g hfg
    have hz1 : firstD f g ≤ lastD f g := lastTo_ge f g _ _ hle
    have hz2 : lastD f g ≤ g.length := lastTo_le f g _ _
    have ht := firstD_take f g hfg
    have hd := lastD_drop f g hfg
    obtain ⟨p, hp⟩ := feed_go t i (firstD f g) (by omega) (by omega) hi (by omega)
    rw [Tm.feed_append, hp]
    by_cases hk : fullN g < lastD f g
    · rw [if_pos hk, Tm.feed_append]
      obtain ⟨m, hm⟩ : ∃ m, max (firstD f g) (fullN g) = m := ⟨_, rfl⟩
      by_cases hz : firstD f g = lastD f g
      · exfalso
        -- nothing is another one
        have e2 : f = g := by
          rw [← List.take_append_drop (firstD f g) f, ht, hz, hd, ← hz, List.take_append_drop]
        rw [e2] at h0
        exact h0 (firstD_self g)
      have hmz : m < lastD f g := by omega
      rw [hm]
      have hlen : ((g.take m).drop (firstD f g)).length = m - firstD f g := by rw [List.length_drop, List.length_take]; omega
      rw [feed_print _ { t with row := i, col := firstD f g, esc := 0, par := p } f rfl (fun c hc => hg c (List.mem_of_mem_take (List.mem_of_mem_drop hc))) (by show firstD f g < t.cols; omega) (by show firstD f g + _ ≤ t.cols; rw [hlen]; omega) hf hfl]
      simp only [hlen]
      rw [show firstD f g + (m - firstD f g) = m by omega, Nat.min_eq_left (show m ≤ t.cols - 1 by omega), ht, take_take_drop g _ m (by omega)]
      obtain ⟨q, hq⟩ := feed_rest { t with cells := t.cells.set i (g.take m ++ f.drop m), row := i, col := m, esc := 0, par := p } (g.take m ++ f.drop m) (by show (t.cells.set i _)[i]? = _; rw [List.getElem?_set_self hil])
      rw [hq]
      refine ⟨rfl, rfl, ?_, hi, by show m < t.cols; omega⟩
      show (t.cells.set i _).set i _ = _
      rw [set_set_]
      congr 1
      unfold wipeFrom
      have hgm : (g.take m).length = m := by rw [List.length_take]; omega
      show ((g.take m ++ f.drop m).take m ++ blankL _) = _
      rw [List.take_append_of_le_length (by omega), List.take_take, Nat.min_self, List.length_append, hgm, List.length_drop]
      rw [show m + (f.length - m) - m = g.length - m by omega, ← full_drop g m (by omega), List.take_append_drop]
    · rw [if_neg hk]
      have hlen : ((g.take (lastD f g)).drop (firstD f g)).length = lastD f g - firstD f g := by rw [List.length_drop, List.length_take]; omega
      rw [feed_print _ { t with row := i, col := firstD f g, esc := 0, par := p } f rfl (fun c hc => hg c (List.mem_of_mem_take (List.mem_of_mem_drop hc))) (by show firstD f g < t.cols; omega) (by show firstD f g + _ ≤ t.cols; rw [hlen]; omega) hf hfl]
      simp only [hlen]
      refine ⟨rfl, rfl, ?_, hi, by show min _ _ < t.cols; omega⟩
      show t.cells.set i _ = _
      rw [show firstD f g + (lastD f g - firstD f g) = lastD f g by omega, ht, take_take_drop g _ _ hz1, hd, List.take_append_drop]
/-- The rows' bytes. -/
theorem feed_rows (f g : List (List UInt8)) (R C : Nat) (hR : R ≤ 60) (hC : C ≤ 132) (hf : f.length = R) (hg : g.length = R) (hfc : ∀ l ∈ f, l.length = C) (hgc : ∀ l ∈ g, l.length = C ∧ ∀ c ∈ l, 32 ≤ c ∧ c ≤ 126) (t : Tm) (h1 : t.rows = R) (h2 : t.cols = C) (h3 : t.cells = f) (h4 : t.row < t.rows) (h5 : t.col < t.cols) :
    ∀ k, k ≤ R → t.Cells (t.feed (rowsTo f g k)) (g.take k ++ f.drop k)
  | 0, _ => by
    show t.Cells t _
    exact ⟨rfl, rfl, by rw [h3]; simp, h4, h5⟩
  | k + 1, hk => by
    obtain ⟨e1, e2, e3, e4, e5⟩ := feed_rows f g R C hR hC hf hg hfc hgc t h1 h2 h3 h4 h5 k (by omega)
    show t.Cells (t.feed (rowsTo f g k ++ rowS k (f.getD k []) (g.getD k []))) _
    rw [Tm.feed_append]
    generalize t.feed (rowsTo f g k) = u at *
    obtain ⟨a, ha⟩ : ∃ a, f[k]? = some a := ⟨_, List.getElem?_eq_getElem (by omega)⟩
    obtain ⟨b, hb⟩ : ∃ b, g[k]? = some b := ⟨_, List.getElem?_eq_getElem (by omega)⟩
    have ea : f.getD k [] = a := by rw [List.getD_eq_getElem?_getD, ha]; rfl
    have eb : g.getD k [] = b := by rw [List.getD_eq_getElem?_getD, hb]; rfl
    rw [ea, eb]
    have hgb := hgc b (List.mem_of_getElem? hb)
    have htk : (g.take k).length = k := by rw [List.length_take]; omega
    have hu : u.cells[k]? = some a := by rw [e3, List.getElem?_append_right (by omega), htk, Nat.sub_self, List.getElem?_drop]; simpa using ha
    obtain ⟨d1, d2, d3, d4, d5⟩ := feed_row u k a b (by omega) (by omega) e4 e5 (by omega) hu (by rw [hfc a (List.mem_of_getElem? ha)]; omega) (by rw [hgb.1]; omega) hgb.2
    refine ⟨d1.trans e1, d2.trans e2, ?_, d4, d5⟩
    rw [d3, e3, List.set_append_right _ _ (by omega), htk, Nat.sub_self, List.take_add_one, hb, List.append_assoc]
    congr 1
    rw [List.drop_eq_getElem_cons (show k < f.length by omega)]; rfl
theorem Tm.grd_eq {t : Tm} {g : Grd} (h1 : (t.rows : Int) = g.rows) (h2 : (t.cols : Int) = g.cols) (h3 : t.cells = g.cells) (h4 : (t.row : Int) = g.row) (h5 : (t.col : Int) = g.col) : t.grd = g := by
  unfold Tm.grd
  cases g
  simp only at *
  subst h1 h2 h3 h4 h5
  rfl
/-- What is shown behind Diff's bytes. -/
theorem diff_shows (f g : Grd) (hok : diffOk f g = true) (t : Tm) (ht : t.Good) (h1 : (t.rows : Int) = f.rows) (h2 : (t.cols : Int) = f.cols) (h3 : t.cells = f.cells) (h4 : diffS f g ≠ [] ∨ t.grd = f) : (t.feed (diffS f g)).grd = g := by
  have hd := hok
  unfold diffOk at hd
  simp only [Bool.and_eq_true, Bool.not_eq_true'] at hd
  obtain ⟨⟨⟨hg, hf⟩, hrr⟩, hcc⟩ := hd
  have hrr' : f.rows = g.rows := by simpa using hrr
  have hcc' : f.cols = g.cols := by simpa using hcc
  have og := Grd.ok_rows hg
  have of := Grd.ok_rows hf
  unfold diffS at h4 ⊢
  rw [if_pos hok] at h4 ⊢
  unfold diffBody at h4 ⊢
  have hrows := ht.rows
  have hcols := ht.cols
  have hfl : f.cells.length = t.rows := by omega
  have hgl : g.cells.length = t.rows := by omega
  have hmem : ∀ {x : Grd}, x.ok = true → ∀ l ∈ x.cells, (l.length : Int) = x.cols ∧ ∀ c ∈ l, 32 ≤ c ∧ c ≤ 126 := by
    intro x hx l hl
    obtain ⟨k, hk⟩ := List.getElem?_of_mem hl
    exact Grd.ok_row hx hk
  have hR := feed_rows f.cells g.cells t.rows t.cols (by omega) (by omega) hfl hgl (fun l hl => by have := (hmem hf l hl).1; omega) (fun l hl => ⟨by have := (hmem hg l hl).1; omega, (hmem hg l hl).2⟩) t rfl rfl h3 ht.row ht.col g.cells.length (by omega)
  rw [List.take_length, List.drop_of_length_le (by omega), List.append_nil] at hR
  obtain ⟨e1, e2, e3, e4, e5⟩ := hR
  rw [Tm.feed_append]
  by_cases hz : (decide (0 < (rowsTo f.cells g.cells g.cells.length).length) || (f.row != g.row) || (f.col != g.col)) = true
  · rw [if_pos hz]
    generalize t.feed (rowsTo f.cells g.cells g.cells.length) = u at *
    obtain ⟨p, hp⟩ := feed_go u g.row.toNat g.col.toNat (by omega) (by omega) (by omega) (by omega)
    rw [show ((g.row.toNat : Nat) : Int) = g.row by omega, show ((g.col.toNat : Nat) : Int) = g.col by omega] at hp
    rw [hp]
    exact Tm.grd_eq (by show (u.rows : Int) = _; omega) (by show (u.cols : Int) = _; omega) e3 (by show ((g.row.toNat : Nat) : Int) = _; omega) (by show ((g.col.toNat : Nat) : Int) = _; omega)
  · rw [if_neg hz] at h4 ⊢
    simp only [Bool.or_eq_true, decide_eq_true_eq, not_or, Nat.not_lt, Nat.le_zero, bne_iff_ne, ne_eq, Decidable.not_not] at hz
    obtain ⟨⟨hz1, hz2⟩, hz3⟩ := hz
    have hn : rowsTo f.cells g.cells g.cells.length = [] := List.eq_nil_of_length_eq_zero hz1
    rw [hn] at h4 e3 ⊢
    rcases h4 with h4 | h4
    · exact absurd rfl h4
    · have e3' : f.cells = g.cells := h3.symm.trans e3
      show (t.feed []).grd = g
      show t.grd = g
      rw [h4]
      cases f; cases g
      simp only at *
      subst hrr' hcc' e3' hz2 hz3
      rfl
theorem diffS_self (g : Grd) : diffS g g = [] := by
  unfold diffS
  split
  · unfold diffBody
    have h : ∀ k, rowsTo g.cells g.cells k = [] := by
      intro k
      induction k with
      | zero => rfl
      | succ k ih => show rowsTo g.cells g.cells k ++ _ = []; rw [ih, rowS_self]; rfl
    rw [h]; simp
  · rfl
/-- What is shown behind All's bytes. -/
theorem all_shows (g : Grd) (hg : g.ok = true) (t : Tm) (ht : t.Good) (h1 : (t.rows : Int) = g.rows) (h2 : (t.cols : Int) = g.cols) : (t.feed (allS g)).grd = g := by
  have og := Grd.ok_rows hg
  unfold allS
  rw [if_pos hg, Tm.feed_append]
  obtain ⟨p, hp⟩ := erase_law t ht 2 (by omega)
  have hp' : t.feed [27, 91, 50, 74] = { t with cells := eraseW t 2, esc := 0, par := p } := hp
  have hcl : eraseW t 2 = List.replicate t.rows (blankL t.cols) := by
    rw [erase_all]
    refine List.ext_getElem? fun i => ?_
    rw [List.getElem?_map, List.getElem?_replicate]
    split
    · rename_i hi
      rw [List.getElem?_eq_getElem (by have := ht.many; omega)]
      simp only [Option.map_some]
      rw [ht.each _ (List.getElem_mem _)]
    · rename_i hi
      rw [List.getElem?_eq_none (by have := ht.many; omega)]; rfl
  have hgd : (t.feed [27, 91, 50, 74]).Good := ht.feed _
  rw [hp', hcl] at hgd ⊢
  have hR : g.rows.toNat = t.rows := by omega
  have hC : g.cols.toNat = t.cols := by omega
  rw [hR, hC]
  have hok : diffOk (blankGrd t.rows t.cols) g = true := blank_diff hg h1.symm h2.symm
  by_cases hz : diffS (blankGrd t.rows t.cols) g = []
  · rw [if_pos hz]
    generalize hu : ({ t with cells := List.replicate t.rows (blankL t.cols), esc := 0, par := p } : Tm) = u at *
    have hu1 : u.rows = t.rows := by rw [← hu]
    have hu2 : u.cols = t.cols := by rw [← hu]
    have hu3 : u.cells = List.replicate t.rows (blankL t.cols) := by rw [← hu]
    obtain ⟨q, hq⟩ := feed_go u g.row.toNat g.col.toNat (by omega) (by omega) (by omega) (by omega)
    rw [show ((g.row.toNat : Nat) : Int) = g.row by omega, show ((g.col.toNat : Nat) : Int) = g.col by omega] at hq
    rw [hq]
    have h0 : (Tm.feed { rows := t.rows, cols := t.cols, cells := List.replicate t.rows (blankL t.cols), row := 0, col := 0, esc := 0, par := [] } (diffS (blankGrd t.rows t.cols) g)).grd = g :=
      diff_shows (blankGrd t.rows t.cols) g hok _ (Tm.Good.start ht.rows ht.cols) rfl rfl rfl (.inr rfl)
    rw [hz] at h0
    have h0c : List.replicate t.rows (blankL t.cols) = g.cells := congrArg Grd.cells h0
    exact Tm.grd_eq (by show (u.rows : Int) = _; omega) (by show (u.cols : Int) = _; omega) (by show u.cells = _; rw [hu3, h0c]) (by show ((g.row.toNat : Nat) : Int) = _; omega) (by show ((g.col.toNat : Nat) : Int) = _; omega)
  · rw [if_neg hz]
    exact diff_shows (blankGrd t.rows t.cols) g hok _ hgd rfl rfl rfl (.inl hz)
theorem erase_size (t : Tm) (b : Bool) (h : Int) : (t.erase b h).rows = t.rows ∧ (t.erase b h).cols = t.cols := by
  unfold Tm.erase
  split
  · exact ⟨rfl, rfl⟩
  · split <;> exact ⟨rfl, rfl⟩
theorem command_size (t : Tm) (c : UInt8) (l : List Int) : (t.command c l).rows = t.rows ∧ (t.command c l).cols = t.cols := by
  unfold Tm.command
  split
  · exact ⟨rfl, rfl⟩
  · simp only
    split
    · exact ⟨rfl, rfl⟩
    · split
      · exact ⟨rfl, rfl⟩
      · split
        · exact ⟨rfl, rfl⟩
        · split
          · exact ⟨rfl, rfl⟩
          · split
            · exact ⟨rfl, rfl⟩
            · split
              · exact erase_size _ _ _
              · split
                · exact erase_size _ _ _
                · exact ⟨rfl, rfl⟩
theorem plain_size (t : Tm) (c : UInt8) : (t.plain c).rows = t.rows ∧ (t.plain c).cols = t.cols := by
  unfold Tm.plain
  split
  · exact ⟨rfl, rfl⟩
  · split
    · exact ⟨rfl, rfl⟩
    · split
      · unfold Tm.down
        split <;> exact ⟨rfl, rfl⟩
      · split <;> exact ⟨rfl, rfl⟩
theorem byte_size (t : Tm) (c : UInt8) : (t.byte c).rows = t.rows ∧ (t.byte c).cols = t.cols := by
  unfold Tm.byte
  split
  · exact ⟨rfl, rfl⟩
  · split
    · exact plain_size t c
    · split
      · exact ⟨rfl, rfl⟩
      · split
        · exact ⟨rfl, rfl⟩
        · split
          · split
            · exact ⟨rfl, rfl⟩
            · exact command_size _ _ _
          · exact ⟨rfl, rfl⟩
theorem feed_size (t : Tm) (s : List UInt8) : (t.feed s).rows = t.rows ∧ (t.feed s).cols = t.cols := by
  induction s generalizing t with
  | nil => exact ⟨rfl, rfl⟩
  | cons c s ih =>
    have h1 := ih (t.byte c)
    have h2 := byte_size t c
    exact ⟨h1.1.trans h2.1, h1.2.trans h2.2⟩
theorem allS_le (g : Grd) : (allS g).length ≤ 9100 := by
  unfold allS
  split
  · rename_i h
    rw [List.length_append]
    split
    · have := goS_le g.row g.col
      simp only [List.length_cons, List.length_nil]; omega
    · have := diffS_le (blankGrd g.rows.toNat g.cols.toNat) h
      simp only [List.length_cons, List.length_nil]; omega
  · simp
/-- Behind the whole. -/
structure Laws (f t : Grd) (T0 : Tm) (s : List UInt8) : Prop where
  one : ((T0.feed s).feed (allS f)).grd = f
  two : (((T0.feed s).feed (allS f)).feed (diffS f t)).grd = t
  three : (((((T0.feed s).feed (allS f)).feed (diffS f t)).feed s).feed (allS t)).grd = t
  p0 : T0.par.length + s.length ≤ 1000000
  p1 : (T0.feed s).par.length + (allS f).length ≤ 1000000
  p2 : ((T0.feed s).feed (allS f)).par.length + (diffS f t).length ≤ 1000000
  p3 : (((T0.feed s).feed (allS f)).feed (diffS f t)).par.length + s.length ≤ 1000000
  p4 : ((((T0.feed s).feed (allS f)).feed (diffS f t)).feed s).par.length + (allS t).length ≤ 1000000
theorem all_laws (f t : Grd) (hok : diffOk f t = true) (T0 : Tm) (hg : T0.Good) (h1 : (T0.rows : Int) = f.rows) (h2 : (T0.cols : Int) = f.cols) (hp : T0.par.length = 0) (s : List UInt8) (hs : s.length ≤ 200) : Laws f t T0 s := by
  have hd := hok
  unfold diffOk at hd
  simp only [Bool.and_eq_true, Bool.not_eq_true'] at hd
  obtain ⟨⟨⟨ht, hf⟩, hrr⟩, hcc⟩ := hd
  have hrr' : f.rows = t.rows := by simpa using hrr
  have hcc' : f.cols = t.cols := by simpa using hcc
  have a1 := allS_le f
  have a2 := allS_le t
  have a3 := diffS_le f ht
  have q1 := feed_par_len T0 s
  have q2 := feed_par_len (T0.feed s) (allS f)
  have q3 := feed_par_len ((T0.feed s).feed (allS f)) (diffS f t)
  have q4 := feed_par_len (((T0.feed s).feed (allS f)).feed (diffS f t)) s
  have z1 := feed_size T0 s
  have z2 := feed_size (T0.feed s) (allS f)
  have z3 := feed_size ((T0.feed s).feed (allS f)) (diffS f t)
  have z4 := feed_size (((T0.feed s).feed (allS f)).feed (diffS f t)) s
  have l1 := all_shows f hf (T0.feed s) (hg.feed s) (by omega) (by omega)
  have l2 := diff_shows f t hok ((T0.feed s).feed (allS f)) ((hg.feed s).feed _) (by omega) (by omega) (congrArg Grd.cells l1) (.inr l1)
  have l3 := all_shows t ht ((((T0.feed s).feed (allS f)).feed (diffS f t)).feed s) ((((hg.feed s).feed _).feed _).feed _) (by omega) (by omega)
  exact ⟨l1, l2, l3, by omega, by omega, by omega, by omega, by omega⟩
end Go.Proofs.YtcgaaadcbhkfoaaGreatDoor
