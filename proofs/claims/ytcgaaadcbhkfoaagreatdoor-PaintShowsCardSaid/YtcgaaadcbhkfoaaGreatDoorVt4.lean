/- The laws of scrolling, placing, and of what says nothing, in plain Lean (chapter 13). No program in sight. -/
import Derived.Test.YtcgaaadcbhkfoaaGreatDoorVt3
namespace Go.Proofs.YtcgaaadcbhkfoaaGreatDoor
open Go

theorem byte_plain (t : Tm) (h : t.esc = 0) (c : UInt8) (hc : c ≠ 27) : t.byte c = t.plain c := by unfold Tm.byte; rw [if_neg hc, if_pos h]
/-- A line's end. -/
theorem byte_line (t : Tm) (h : t.esc = 0) : t.byte 10 = t.down := by
  rw [byte_plain t h 10 (by decide)]
  unfold Tm.plain
  rw [if_neg (by decide), if_neg (by decide), if_pos rfl]
theorem down_more (t : Tm) (h : t.row + 1 < t.rows) : t.down = { t with row := t.row + 1 } := by unfold Tm.down; rw [if_pos h]
theorem down_last (t : Tm) (h : ¬ t.row + 1 < t.rows) : t.down = { t with cells := t.cells.drop 1 ++ [blankL t.cols] } := by unfold Tm.down; rw [if_neg h]
theorem down_row (t : Tm) (hg : t.Good) (i : Nat) (hi : i < t.rows) : (t.cells.drop 1 ++ [blankL t.cols])[i]? = if i + 1 < t.rows then t.cells[i + 1]? else some (blankL t.cols) := by
  have hm := hg.many
  by_cases h : i + 1 < t.rows
  · rw [if_pos h, List.getElem?_append_left (by rw [List.length_drop]; omega), List.getElem?_drop, Nat.add_comm]
  · rw [if_neg h, List.getElem?_append_right (by rw [List.length_drop]; omega), List.length_drop, show i - (t.cells.length - 1) = 0 by omega]; rfl

/-! ### Numbers that are written -/
theorem valD_dec (n : Nat) : valD (Lib.decDigits n) 0 = n := by
  induction n using Nat.strongRecOn with
  | _ n ih =>
    rw [Lib.decDigits]
    split
    · rename_i h
      have : (UInt8.ofNat (48 + n)).toNat = 48 + n := by rw [UInt8.toNat_ofNat', Nat.mod_eq_of_lt (by omega)]
      simp only [valD, this]; omega
    · rename_i h
      have : (UInt8.ofNat (48 + n % 10)).toNat = 48 + n % 10 := by rw [UInt8.toNat_ofNat', Nat.mod_eq_of_lt (by omega)]
      rw [valD_append, ih (n / 10) (by omega)]
      simp only [valD, this]
      omega
theorem dec_dig (n : Nat) : (Lib.decDigits n).all digB = true := by
  induction n using Nat.strongRecOn with
  | _ n ih =>
    rw [Lib.decDigits]
    split
    · rename_i h
      have : (UInt8.ofNat (48 + n)).toNat = 48 + n := by rw [UInt8.toNat_ofNat', Nat.mod_eq_of_lt (by omega)]
      simp [digB, this]; omega
    · rename_i h
      have : (UInt8.ofNat (48 + n % 10)).toNat = 48 + n % 10 := by rw [UInt8.toNat_ofNat', Nat.mod_eq_of_lt (by omega)]
      simp only [List.all_append, ih (n / 10) (by omega), List.all_cons, List.all_nil, Bool.and_true, Bool.true_and]
      simp [digB, this]; omega
theorem dec_ne (n : Nat) : Lib.decDigits n ≠ [] := by
  rw [Lib.decDigits]
  split <;> simp
theorem satD_dec (n : Nat) (h : n ≤ 9999) : satD (Lib.decDigits n) (-1) = n := by
  rw [satD_first _ (dec_dig n), if_neg (dec_ne n), valD_dec]; omega
theorem digB_par {c : UInt8} (h : digB c = true) : parB c = true := by
  have := digB_iff.1 h
  unfold parB
  simp only [Bool.and_eq_true, decide_eq_true_eq, UInt8.le_iff_toNat_le]
  have e1 : (32 : UInt8).toNat = 32 := rfl
  have e2 : (63 : UInt8).toNat = 63 := rfl
  omega
theorem all_par {l : List UInt8} (h : l.all digB = true) : l.all parB = true := by
  rw [List.all_eq_true] at *
  exact fun x hx => digB_par (h x hx)
theorem numsT_digits : ∀ (l s : List UInt8) (a : Int), l.all digB = true → numsT (l ++ 59 :: s) a = (numsT s (-1)).map (satD l a :: ·)
  | [], s, a, _ => by simp [numsT, satD]
  | c :: l, s, a, h => by
    simp only [List.all_cons, Bool.and_eq_true] at h
    have hc := digB_iff.1 h.1
    have h59 : ¬ c = 59 := by rintro rfl; exact absurd hc.2 (by decide)
    have hd : 48 ≤ c ∧ c ≤ 57 := ⟨UInt8.le_iff_toNat_le.2 hc.1, UInt8.le_iff_toNat_le.2 hc.2⟩
    rw [List.cons_append, numsT, if_neg h59, if_pos hd, numsT_digits l s _ h.2]; rfl
theorem numsT_last : ∀ (l : List UInt8) (a : Int), l.all digB = true → numsT l a = some [satD l a]
  | [], a, _ => rfl
  | c :: l, a, h => by
    simp only [List.all_cons, Bool.and_eq_true] at h
    have hc := digB_iff.1 h.1
    have h59 : ¬ c = 59 := by rintro rfl; exact absurd hc.2 (by decide)
    have hd : 48 ≤ c ∧ c ≤ 57 := ⟨UInt8.le_iff_toNat_le.2 hc.1, UInt8.le_iff_toNat_le.2 hc.2⟩
    rw [numsT, if_neg h59, if_pos hd, numsT_last l _ h.2]; rfl
/-- A place that is said. -/
def placeT (t : Tm) (r c : Nat) (p : List UInt8) : Tm := { t with row := min (max r 1) t.rows - 1, col := min (max c 1) t.cols - 1, esc := 0, par := p }
theorem place_feed (t : Tm) (r c : Nat) (hr : r ≤ 9999) (hc : c ≤ 9999) : ∃ p, t.feed ([27, 91] ++ ((Lib.decDigits r ++ 59 :: Lib.decDigits c) ++ [72])) = placeT t r c p := by
  have hp : (Lib.decDigits r ++ 59 :: Lib.decDigits c).all parB = true := by
    simp only [List.all_append, List.all_cons, all_par (dec_dig r), all_par (dec_dig c), Bool.true_and, Bool.and_true]; decide
  refine ⟨Lib.decDigits r ++ 59 :: Lib.decDigits c, ?_⟩
  rw [feed_command t _ hp 72 (by decide) (by decide)]
  rw [numsT_digits _ _ _ (dec_dig r), numsT_last _ _ (dec_dig c), satD_dec r hr, satD_dec c hc]
  simp only [Option.map_some]
  unfold Tm.command placeT
  rw [if_neg (by simp)]
  simp only [List.getD_cons_zero, List.getD_cons_succ, if_true, Tm.at0]
  congr 1 <;> omega
/-- .. and a byte that is written there. -/
theorem place_put (t : Tm) (hg : t.Good) (r c : Nat) (p : List UInt8) : ∃ q, (placeT t r c p).byte 35 = { t with cells := t.cells.set (min (max r 1) t.rows - 1) ((t.cells.getD (min (max r 1) t.rows - 1) []).set (min (max c 1) t.cols - 1) 35), row := min (max r 1) t.rows - 1, col := min (min (max c 1) t.cols - 1 + 1) (t.cols - 1), esc := 0, par := q } := by
  refine ⟨p, ?_⟩
  rw [byte_plain _ rfl 35 (by decide)]
  unfold Tm.plain
  rw [if_neg (by decide), if_neg (by decide), if_neg (by decide), if_pos (by decide)]
  rfl

/-! ### What says nothing -/
/-- The same is shown. -/
def Tm.Same (t u : Tm) : Prop := u.rows = t.rows ∧ u.cols = t.cols ∧ u.cells = t.cells ∧ u.row = t.row ∧ u.col = t.col
theorem same_at0 (t : Tm) (p : List UInt8) : t.Same (t.at0 p) := ⟨rfl, rfl, rfl, rfl, rfl⟩
theorem Tm.Same.refl (t : Tm) : t.Same t := ⟨rfl, rfl, rfl, rfl, rfl⟩
theorem numsT_odd : ∀ (s : List UInt8) (a : Int), (63 : UInt8) ∈ s → numsT s a = none
  | [], a, h => by simp at h
  | c :: s, a, h => by
    rw [numsT]
    by_cases h59 : c = 59
    · rw [if_pos h59]
      have hs : (63 : UInt8) ∈ s := by
        rcases List.mem_cons.1 h with e | e
        · subst h59; exact absurd e (by decide)
        · exact e
      rw [numsT_odd s _ hs]; rfl
    · rw [if_neg h59]
      split
      · rename_i hd
        have hs : (63 : UInt8) ∈ s := by
          rcases List.mem_cons.1 h with e | e
          · subst e; exact absurd hd.2 (by decide)
          · exact e
        exact numsT_odd s _ hs
      · rfl
/-- The law's escapes and bytes: q are digits and semicolons. -/
def oddP (q : List UInt8) (k : Nat) : List UInt8 := match k with
  | 0 => [27, 91] ++ ((63 :: q) ++ [72]) | 1 => [27, 91] ++ ((63 :: q) ++ [74]) | 2 => [27, 77] | 3 => [27, 40] | 4 => [27, 91] ++ (q ++ [109]) | 5 => [7] | 6 => [0] | 7 => [127] | 8 => [128] | 9 => [255]
  | 10 => [27, 91] ++ (q ++ [5]) | 11 => [27] ++ ([27, 91] ++ (q ++ [113])) | 12 => [27, 91] ++ ([49, 59, 50, 59, 51] ++ [72]) | 13 => [27, 91] ++ ([49, 59, 49] ++ [65]) | _ => ([27, 91] ++ q) ++ ([27, 91] ++ (q ++ [114]))
theorem plain_odd (t : Tm) (c : UInt8) (h : c ≠ 13 ∧ c ≠ 8 ∧ c ≠ 10 ∧ ¬ (32 ≤ c ∧ c ≤ 126)) : t.plain c = t := by
  unfold Tm.plain
  rw [if_neg h.1, if_neg h.2.1, if_neg h.2.2.1, if_neg h.2.2.2]
theorem esc_any (t u : Tm) (h : t.Same u) (e : Nat) (p : List UInt8) : t.Same { u with esc := e, par := p } := h
theorem odd_law (t : Tm) (h0 : t.esc = 0) (q : List UInt8) (hq : q.all parB = true) (k : Nat) (hk : k < 15) : t.Same (t.feed (oddP q k)) := by
  have h63 : (63 :: q).all parB = true := by simp only [List.all_cons, hq]; decide
  have hb : ∀ c : UInt8, c ≠ 27 → c ≠ 13 ∧ c ≠ 8 ∧ c ≠ 10 ∧ ¬ (32 ≤ c ∧ c ≤ 126) → t.Same (t.feed [c]) := fun c h27 h => by
    show t.Same (t.byte c)
    rw [byte_plain t h0 c h27, plain_odd t c h]; exact Tm.Same.refl t
  match k, hk with
  | 0, _ =>
    show t.Same (t.feed ([27, 91] ++ ((63 :: q) ++ [72])))
    rw [feed_command t _ h63 72 (by decide) (by decide), numsT_odd _ _ (by simp)]
    exact same_at0 t _
  | 1, _ =>
    show t.Same (t.feed ([27, 91] ++ ((63 :: q) ++ [74])))
    rw [feed_command t _ h63 74 (by decide) (by decide), numsT_odd _ _ (by simp)]
    exact same_at0 t _
  | 2, _ => 
    show t.Same ((t.byte 27).byte 77)
    rw [byte_esc]
    unfold Tm.byte
    rw [if_neg (by decide)]
    simp
    exact Tm.Same.refl t
  | 3, _ =>
    show t.Same ((t.byte 27).byte 40)
    rw [byte_esc]
    unfold Tm.byte
    rw [if_neg (by decide)]
    simp
    exact Tm.Same.refl t
  | 4, _ =>
    show t.Same (t.feed ([27, 91] ++ (q ++ [109])))
    rw [feed_quiet t q hq 109 (by decide) (by decide) (by decide)]; exact same_at0 t _
  | 5, _ => exact hb 7 (by decide) (by decide)
  | 6, _ => exact hb 0 (by decide) (by decide)
  | 7, _ => exact hb 127 (by decide) (by decide)
  | 8, _ => exact hb 128 (by decide) (by decide)
  | 9, _ => exact hb 255 (by decide) (by decide)
  | 10, _ =>
    show t.Same (t.feed ([27, 91] ++ (q ++ [5])))
    rw [← List.append_assoc, Tm.feed_append, feed_csi t q hq]
    show t.Same (({ t with esc := 2, par := q } : Tm).byte 5)
    unfold Tm.byte
    rw [if_neg (by decide), if_neg (show ¬ (2 : Nat) = 0 by decide), if_neg (show ¬ (2 : Nat) = 1 by decide), if_neg (by decide), if_neg (by decide)]
    exact Tm.Same.refl t
  | 11, _ =>
    show t.Same (t.feed ([27] ++ ([27, 91] ++ (q ++ [113]))))
    rw [Tm.feed_append]
    have e : t.feed [27] = { t with esc := 1, par := [] } := byte_esc t
    rw [e, feed_quiet _ q hq 113 (by decide) (by decide) (by decide)]
    exact Tm.Same.refl t
  | 12, _ =>
    show t.Same (t.feed ([27, 91] ++ ([49, 59, 50, 59, 51] ++ [72])))
    rw [feed_command t _ (by decide) 72 (by decide) (by decide)]
    have en : numsT [49, 59, 50, 59, 51] (-1) = some [1, 2, 3] := by decide
    rw [en]
    simp only
    unfold Tm.command
    rw [if_pos (.inl (by simp))]
    exact same_at0 t _
  | 13, _ =>
    show t.Same (t.feed ([27, 91] ++ ([49, 59, 49] ++ [65])))
    rw [feed_command t _ (by decide) 65 (by decide) (by decide)]
    have en : numsT [49, 59, 49] (-1) = some [1, 1] := by decide
    rw [en]
    simp only
    unfold Tm.command
    rw [if_pos (.inr ⟨by simp, by decide⟩)]
    exact same_at0 t _
  | 14, _ =>
    show t.Same (t.feed (([27, 91] ++ q) ++ ([27, 91] ++ (q ++ [114]))))
    rw [Tm.feed_append, feed_csi t q hq, feed_quiet _ q hq 114 (by decide) (by decide) (by decide)]
    exact Tm.Same.refl t
end Go.Proofs.YtcgaaadcbhkfoaaGreatDoor
