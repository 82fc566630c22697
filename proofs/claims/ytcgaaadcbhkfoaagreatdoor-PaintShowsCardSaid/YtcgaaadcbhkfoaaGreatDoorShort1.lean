/- How long what Diff writes is; the walk of beyond. -/
import Derived.Test.YtcgaaadcbhkfoaaGreatDoorLives
import Derived.Test.YtcgaaadcbhkfoaaGreatDoorConv
namespace Go.Proofs.YtcgaaadcbhkfoaaGreatDoor
open Go Go.Proofs Go.RowKit Go.Ink

theorem itoa_le3 (n : Int) (h0 : 0 ≤ n) (h : n ≤ 998) : (Lib.itoa (clampS n + 1)).length ≤ 3 := itoa_le _ (by unfold clampS; omega) 2 (by unfold clampS; omega)
theorem itoa_le2 (n : Int) (h0 : 0 ≤ n) (h : n ≤ 98) : (Lib.itoa (clampS n + 1)).length ≤ 2 := itoa_le _ (by unfold clampS; omega) 1 (by unfold clampS; omega)
theorem goS_le9 (row col : Int) (h1 : 0 ≤ row) (h2 : row ≤ 98) (h3 : 0 ≤ col) (h4 : col ≤ 998) : (goS row col).length ≤ 9 := by
  have := itoa_le2 row h1 h2
  have := itoa_le3 col h3 h4
  simp [goS]; omega
theorem firstD_self : ∀ l : List UInt8, firstD l l = l.length
  | [] => rfl
  | x :: xs => by simp [firstD, firstD_self xs]
theorem rowS_self (k : Int) (l : List UInt8) : rowS k l l = [] := by rw [rowS, if_pos (firstD_self l)]
theorem rowS_short (k : Nat) (f t : List UInt8) (hk : k ≤ 98) (hl : t.length ≤ 132) (hft : f.length = t.length) : (rowS k f t).length ≤ t.length + 12 := by
  unfold rowS
  split
  · simp
  · rename_i hne
    have hd := firstD_le f t hft
    have h9 := goS_le9 k (firstD f t) (by omega) (by omega) (by omega) (by omega)
    have hz := lastTo_le f t (firstD f t) t.length
    have hz' : lastD f t ≤ t.length := hz
    split
    · rename_i hf
      simp only [List.length_append, List.length_drop, List.length_take, List.length_cons, List.length_nil]
      omega
    · simp only [List.length_append, List.length_drop, List.length_take]
      omega
/-- How many of the first k rows are other ones. -/
def countTo (f t : List (List UInt8)) : Nat → Nat
  | 0 => 0
  | k + 1 => countTo f t k + if f.getD k [] ≠ t.getD k [] then 1 else 0
theorem countTo_le (f t : List (List UInt8)) : ∀ k, countTo f t k ≤ k
  | 0 => Nat.le_refl _
  | k + 1 => by have := countTo_le f t k; unfold countTo; split <;> omega
theorem rowsTo_count {f t : List (List UInt8)} {n : Nat} (hn : n ≤ 132) (h : ∀ k, k < t.length → (f.getD k []).length = n ∧ (t.getD k []).length = n) (ht : t.length ≤ 60) : ∀ k, k ≤ t.length → (rowsTo f t k).length ≤ countTo f t k * (n + 12)
  | 0, _ => by simp [rowsTo]
  | k + 1, hk => by
    have ih := rowsTo_count hn h ht k (by omega)
    obtain ⟨h1, h2⟩ := h k (by omega)
    simp only [rowsTo, countTo, List.length_append]
    by_cases e : f.getD k [] = t.getD k []
    · rw [e, rowS_self]; simp; exact ih
    · rw [if_pos e, Nat.succ_mul]
      have := rowS_short k (f.getD k []) (t.getD k []) (by omega) (by omega) (by omega)
      omega
theorem getD_row {g : Grd} (hg : g.ok = true) (k : Nat) (hk : k < g.cells.length) : ((g.cells.getD k []).length : Int) = g.cols := by
  rw [List.getD_eq_getElem?_getD, List.getElem?_eq_getElem hk]
  exact (Grd.ok_row hg (List.getElem?_eq_getElem hk)).1
theorem diff_short {f t : Grd} (h : diffOk f t = true) :
    ((diffS f t).length : Int) ≤ (countTo f.cells t.cells t.cells.length : Int) * (t.cols + 12) + 12 ∧ (countTo f.cells t.cells t.cells.length = 0 → (diffS f t).length ≤ 12) := by
  have h' := h
  unfold diffOk at h'
  simp only [Bool.and_eq_true, Bool.not_eq_true', bne_eq_false_iff_eq] at h'
  obtain ⟨⟨⟨hto, hfo⟩, hr⟩, hc⟩ := h'
  have a := Grd.ok_rows hto
  have b := Grd.ok_rows hfo
  have hcount := rowsTo_count (f := f.cells) (t := t.cells) (n := t.cols.toNat) (by omega) (fun k hk => by
    have h1 := getD_row hto k hk
    have h2 := getD_row hfo k (by omega)
    omega) (by omega) t.cells.length (Nat.le_refl _)
  have hg := goS_le t.row t.col
  have hb : (diffS f t).length ≤ (rowsTo f.cells t.cells t.cells.length).length + 12 := by
    rw [diffS, if_pos h, diffBody]
    simp only [List.length_append]
    split
    · omega
    · simp
  have e : ((countTo f.cells t.cells t.cells.length * (t.cols.toNat + 12) : Nat) : Int) = (countTo f.cells t.cells t.cells.length : Int) * (t.cols + 12) := by
    simp only [Int.natCast_mul, Int.natCast_add]
    rw [Int.toNat_of_nonneg (by omega)]; rfl
  refine ⟨by rw [← e]; omega, fun h0 => ?_⟩
  rw [h0] at hcount
  simp at hcount
  rw [hcount] at hb
  simpa using hb

def beyondB (g : Grd) : Bool := decide (70 < g.cells.length) || g.cells.any (fun r => decide (140 < r.length))
set_option maxRecDepth 100000 in
set_option maxHeartbeats 1000000 in
theorem beyond_any (g : Grd) (ao : Option Addr) (cap : Nat) (w : World) (hs : SlOf IsBytes w ao cap g.cells) :
    Calls Tryz.prog 4 #[gridV g ao cap] w fun e w' => e = .returned (.bool (beyondB g)) ∧ Below w.heap.size w w' := by
  obtain ⟨rows, cols, ls, row, col⟩ := g
  simp only [gridV] at *
  have hm : ls.length ≤ 9223372036854775807 := Nat.le_trans hs.1 hs.2.1
  have hs2 : ∀ o, SlOf IsBytes (w.alloc o) ao cap ls := fun o => hs.later lasts_bytes ((Below.refl _ _).alloc (Nat.le_refl _) _)
  have HS := Lib.hid hs2; clear hs hs2
  generalize hr : beyondB ⟨rows, cols, ls, row, col⟩ = r
  simp only [beyondB] at hr
  have HR := Lib.hid hr; clear hr
  by_cases h70 : 70 < ls.length
  · go_enter Tryz.func4, Tryz.ntmps4
    go_wp2_with fail
    go_ret
    rw [← HR.out, decide_eq_true h70]
    exact ⟨rfl, (Below.refl _ _).alloc (Nat.le_refl _) _⟩
  · have H70 := Lib.hid (decide_eq_false h70)
    go_enter Tryz.func4, Tryz.ntmps4
    go_wp2_with fail
    go_loop [3] (fun i => ∃ k : Nat, i = .int .i64 k ∧ k ≤ ls.length ∧ Hno (fun r : List UInt8 => decide (140 < r.length)) ls k) (fun i => ls.length - (intOf i).toNat)
    case atStart => exact ⟨0, rfl, by omega, fun j y hj => by omega⟩
    case round =>
      obtain ⟨k, rfl, hk, hno⟩ := hrel
      have HNo := Lib.hid hno; clear hno
      by_cases hlt : k < ls.length
      · obtain ⟨c, hkc⟩ : ∃ c, ls[k]? = some c := ⟨_, List.getElem?_eq_getElem hlt⟩
        obtain ⟨b', off, u, rfl, hcell, ao', cap', rfl, hrow⟩ := (HS.out (.cells #[.int .i64 rows, .int .i64 cols, .slice ao ls.length cap, .int .i64 row, .int .i64 col] 24 (0, 0))).2.2.2 k c hkc
        have HK := Lib.hid hkc; clear hkc
        have hcl : c.length ≤ 9223372036854775807 := Nat.le_trans hrow.1 hrow.2.1
        clear hrow
        by_cases h140 : 140 < c.length
        · have H140 := Lib.hid (decide_eq_true h140)
          go_wp2_with fail
          go_ret
          refine ⟨?_, (Below.refl _ _).alloc (Nat.le_refl _) _⟩
          rw [← HR.out, List.any_eq_true.2 ⟨c, List.mem_of_getElem? HK.out, H140.out⟩, Bool.or_true]
          rfl
        · have H140 := Lib.hid (decide_eq_false h140)
          go_wp2_with fail
          go_round
          case rel => exact ⟨k + 1, by go_num, by omega, HNo.out.next HK.out H140.out⟩
          case measure => simp [intOf] <;> omega
      · go_wp2_with fail
        go_ret
        refine ⟨?_, (Below.refl _ _).alloc (Nat.le_refl _) _⟩
        have hany : ls.any (fun r => decide (140 < r.length)) = false := by
          rw [List.any_eq_false]
          intro x hx
          obtain ⟨i, hi, rfl⟩ := List.mem_iff_getElem.1 hx
          have := HNo.out i _ (by omega) (List.getElem?_eq_getElem hi)
          simpa using this
        rw [← HR.out, H70.out, hany]
        rfl
end Go.Proofs.YtcgaaadcbhkfoaaGreatDoor
