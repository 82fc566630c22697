/- The walk of paint.All. -/
import Derived.Test.YtcgaaadcbhkfoaaGreatDoorTwo
import Derived.Test.YtcgaaadcbhkfoaaGreatDoorPaint6
import Derived.Test.YtcgaaadcbhkfoaaGreatDoorConv
namespace Go.Proofs.YtcgaaadcbhkfoaaGreatDoor
open Go Go.Proofs Go.RowKit Go.Ink

def blankG (rows cols : Nat) : List (List UInt8) := List.replicate rows (List.replicate cols 32)
def refNewPost (w : World) (rows cols : Nat) (e : Ending) (w' : World) : Prop :=
  ∃ ao cap, e = .returned (.tuple #[.agg #[.int .i64 rows, .int .i64 cols, .slice ao rows cap, .int .i64 0, .int .i64 0], .int .i64 0]) ∧ SlOf IsBytes w' ao cap (blankG rows cols) ∧ Below w.heap.size w w'

def blankGrd (R C : Nat) : Grd := ⟨R, C, blankG R C, 0, 0⟩
def allS (g : Grd) : List UInt8 := if g.ok then [27, 91, 50, 74] ++ (if diffS (blankGrd g.rows.toNat g.cols.toNat) g = [] then goS g.row g.col else diffS (blankGrd g.rows.toNat g.cols.toNat) g) else []
theorem ok_nats {g : Grd} (h : g.ok = true) : ∃ R C : Nat, g.rows = R ∧ g.cols = C ∧ 2 ≤ R ∧ R ≤ 60 ∧ 8 ≤ C ∧ C ≤ 132 := by
  have := Grd.ok_rows h
  exact ⟨g.rows.toNat, g.cols.toNat, by omega, by omega, by omega, by omega, by omega, by omega⟩
theorem blank_ok {R C : Nat} (r1 : 2 ≤ R) (r2 : R ≤ 60) (c1 : 8 ≤ C) (c2 : C ≤ 132) : (blankGrd R C).ok = true := by
  have h : (blankG R C).any (wrongB (C : Int)) = false := by
    rw [List.any_eq_false]
    intro x hx
    have : x = List.replicate C 32 := List.eq_of_mem_replicate hx
    subst this
    have h2 : (List.replicate C (32 : UInt8)).any oddB = false := by
      rw [List.any_eq_false]
      intro y hy
      rw [List.eq_of_mem_replicate hy]; decide
    simp [wrongB, h2]
  have h' : (blankGrd R C).cells.any (wrongB (blankGrd R C).cols) = false := h
  have e1 : sizedB (R : Int) (C : Int) = true := by simp [sizedB]; omega
  have e2 : inB 0 (R : Int) = true := by simp [inB]; omega
  have e3 : inB 0 (C : Int) = true := by simp [inB]; omega
  have e4 : (((blankG R C).length : Int) != (R : Int)) = false := by simp [blankG]
  unfold Grd.ok
  rw [h']
  show (sizedB (R : Int) (C : Int) && !(((blankG R C).length : Int) != (R : Int)) && inB 0 (R : Int) && inB 0 (C : Int) && !false) = true
  rw [e1, e2, e3, e4]
  rfl
theorem blank_diff {g : Grd} {R C : Nat} (h : g.ok = true) (hR : g.rows = R) (hC : g.cols = C) : diffOk (blankGrd R C) g = true := by
  have := Grd.ok_rows h
  have hb : (blankGrd R C).ok = true := blank_ok (by omega) (by omega) (by omega) (by omega)
  unfold diffOk
  rw [h, hb, hR, hC]
  simp [blankGrd]
theorem diffS_le (f : Grd) {t : Grd} (h : t.ok = true) : (diffS f t).length ≤ 9000 := by
  have h1 := rowsTo_le (f := f) h t.cells.length (Nat.le_refl _)
  have h2 := goS_le t.row t.col
  unfold diffS
  split
  · unfold diffBody
    simp only [List.length_append]
    split
    · omega
    · simp; omega
  · simp
theorem new_post {w w' : World} {R C : Nat} {e : Ending} (hC : C ≤ 132) (h : NewPost w R C e w') : refNewPost w R C e w' := by
  obtain ⟨gb, v, rfl, hn⟩ := h
  obtain ⟨ao, cp, rfl⟩ := ownsRow_shape hn.rows
  obtain ⟨cur, hc, hl, hr⟩ := hn.bytes
  refine ⟨ao, cp, rfl, slOf_rows (gb := gb) (rows := R) (cols := C) (cur := cur) hn.rows hc (by simp [blankG]) (by unfold maxLen; omega) ?_ ?_, hn.below⟩
  · intro i l hi
    have : l = List.replicate C 32 := List.eq_of_mem_replicate (List.mem_of_getElem? hi)
    subst this; simp
  · intro i j l c hi hj
    have hl' : l = List.replicate C 32 := List.eq_of_mem_replicate (List.mem_of_getElem? hi)
    subst hl'
    have hc' : c = 32 := List.eq_of_mem_replicate (List.mem_of_getElem? hj)
    subst hc'
    have hi' : i < R := by have := (List.getElem?_eq_some_iff.1 hi).1; simpa [blankG] using this
    have hj' : j < C := by have := (List.getElem?_eq_some_iff.1 hj).1; simpa using this
    exact hr _ (by
      have : (i + 1) * C ≤ R * C := Nat.mul_le_mul_right _ hi'
      rw [Nat.succ_mul] at this; omega)

set_option maxRecDepth 100000 in
set_option maxHeartbeats 1000000 in
theorem all_any (g : Grd) (ao : Option Addr) (cap : Nat) (w : World) (hs : SlOf IsBytes w ao cap g.cells) (h10 : Tab10 w) :
    Calls Tryz.prog 6 #[gridV g ao cap] w fun e w' => e = .returned (.tuple #[.string ⟨(allS g).toArray⟩, .int .i64 (okI g.ok)]) ∧ Below w.heap.size w w' := by
  have HS := Lib.hid hs; clear hs
  have H10 := Lib.hid h10; clear h10
  cases hok : g.ok
  case false =>
    have HOK := Lib.hid hok; clear hok
    have hfin := Lib.hid (show allS g = [] by rw [allS, if_neg (by rw [HOK.out]; decide)])
    simp only [gridV]
    go_enter Tryz.func6, Tryz.ntmps6
    go_wp2_with fail
    refine (check_any g _ _ _ (HS.out.later lasts_bytes ((Below.refl _ _).alloc (Nat.le_refl _) _))).mono ?_
    rintro e w2 ⟨rfl, hb2⟩
    rw [HOK.out, okI_false]
    have HB2 := Lib.hid (((Below.refl _ _).alloc (Nat.le_refl _) _).trans (hb2.mono (by simp))); clear hb2
    go_wp2_with fail
    go_returns
    exact ⟨by rw [hfin.out]; rfl, HB2.out⟩
  obtain ⟨R, C, hR, hC, r1, r2, c1, c2⟩ := ok_nats hok
  have HDO := Lib.hid (blank_diff hok hR hC)
  have hfin := Lib.hid (show allS g = [27, 91, 50, 74] ++ (if diffS (blankGrd R C) g = [] then goS g.row g.col else diffS (blankGrd R C) g) by rw [allS, if_pos hok, hR, hC]; rfl)
  have HOK := Lib.hid hok; clear hok
  have hdl := Lib.hid (show (diffS (blankGrd R C) g).length ≤ 9000 from diffS_le (blankGrd R C) HOK.out)
  have HDY := Lib.hid (show ∀ (a1 a2 : Option Addr) (p1 p2 : Nat) (w : World), SlOf IsBytes w a1 p1 (blankG R C) → SlOf IsBytes w a2 p2 g.cells → Tab10 w → Calls Tryz.prog 7 #[.agg #[.int .i64 R, .int .i64 C, .slice a1 R p1, .int .i64 0, .int .i64 0], .agg #[.int .i64 R, .int .i64 C, .slice a2 g.cells.length p2, .int .i64 g.row, .int .i64 g.col]] w
      fun e w' => e = .returned (.tuple #[.string ⟨(diffS (blankGrd R C) g).toArray⟩, .int .i64 0]) ∧ Below w.heap.size w w' from fun a1 a2 p1 p2 w a b c => by
    have := diff_any (blankGrd R C) g a1 a2 p1 p2 w a b c
    have e1 : gridV (blankGrd R C) a1 p1 = .agg #[.int .i64 R, .int .i64 C, .slice a1 R p1, .int .i64 0, .int .i64 0] := by simp [gridV, blankGrd, blankG]
    have e2 : gridV g a2 p2 = .agg #[.int .i64 R, .int .i64 C, .slice a2 g.cells.length p2, .int .i64 g.row, .int .i64 g.col] := by simp [gridV, hR, hC]
    rwa [HDO.out, okI_true, e1, e2] at this)
  generalize diffS (blankGrd R C) g = ds at *
  have HR := Lib.hid hR; clear hR
  have HC := Lib.hid hC; clear hC
  have hg12 := goS_le g.row g.col
  have hgp := goS_pos g.row g.col
  simp only [gridV]
  go_enter Tryz.func6, Tryz.ntmps6
  go_wp2_with fail
  refine (check_any g _ _ _ (HS.out.later lasts_bytes ((Below.refl _ _).alloc (Nat.le_refl _) _))).mono ?_
  rintro e w2 ⟨rfl, hb2⟩
  rw [HOK.out, okI_true]
  have hx : BoxG w2 w.heap.size g ao cap := (hb2.block w.heap.size (by simp)).trans (by show (w.heap.push _)[w.heap.size]? = _; rw [Array.getElem?_push, if_pos rfl])
  have HX := Lib.hid hx; clear hx
  have HB2 := Lib.hid (((Below.refl _ _).alloc (Nat.le_refl _) _).trans (hb2.mono (by simp))); clear hb2
  obtain ⟨d0, d1, d2, d3, d4⟩ := HX.out.cells
  rw [HR.out] at d0
  rw [HC.out] at d1
  go_wp2_with fail
  refine ((new_yes R C _ r1 r2 c1 c2).mono fun e w h => new_post c2 h).mono ?_
  rintro e w3 ⟨ao3, cp3, rfl, hs3, hb3⟩
  have HX3 := Lib.hid (HX.out.later hb3)
  have HB3 := Lib.hid (HB2.out.trans (hb3.mono HB2.out.size))
  have HS3 := Lib.hid hs3; clear hs3 hb3 d0 d1 d2 d3 d4
  obtain ⟨d0, d1, d2, d3, d4⟩ := HX3.out.cells
  rw [HR.out] at d0
  rw [HC.out] at d1
  have hlt := HX3.out.lt
  have hal : ∀ o, Below w3.heap.size w3 (w3.alloc o) := fun o => (Below.refl _ _).alloc (Nat.le_refl _) _
  have HAL := Lib.hid hal; clear hal
  go_wp2_with fail
  refine (HDY.out _ _ _ _ _ (HS3.out.later lasts_bytes (HAL.out _)) ((HS.out.later lasts_bytes HB3.out).later lasts_bytes (HAL.out _)) ((H10.out.later HB3.out).later (HAL.out _))).mono ?_
  rintro e w4 ⟨rfl, hb4⟩
  have HX4 := Lib.hid ((HX3.out.later (HAL.out _)).later hb4)
  have hb4' := (HAL.out _).trans (hb4.mono (HAL.out _).size)
  have HB4 := Lib.hid (HB3.out.trans (hb4'.mono HB3.out.size)); clear hb4 hb4' d0 d1 d2 d3 d4
  obtain ⟨d0, d1, d2, d3, d4⟩ := HX4.out.cells
  by_cases hds : ds = []
  · subst hds
    rw [if_pos rfl] at hfin
    go_wp2_with fail
    refine (go_any _ _ _ (H10.out.later HB4.out)).mono ?_
    rintro e w5 ⟨rfl, hb5⟩
    generalize goS g.row g.col = gs at *
    have HB5 := Lib.hid (HB4.out.trans (hb5.mono HB4.out.size)); clear hb5
    go_wp2_with fail
    go_returns
    refine ⟨?_, HB5.out⟩
    rw [hfin.out]
    exact congrArg (fun s => Ending.returned (.tuple #[.string s, .int .i64 0])) (mk_append [27, 91, 50, 74] gs)
  · rw [if_neg hds] at hfin
    have hdl2 : ds.length ≤ 9000 := hdl.out
    have hne : (ds == []) = false := by simpa using hds
    go_wp2_with fail
    go_returns
    refine ⟨?_, HB4.out⟩
    rw [hfin.out]
    exact congrArg (fun s => Ending.returned (.tuple #[.string s, .int .i64 0])) (mk_append [27, 91, 50, 74] ds)
end Go.Proofs.YtcgaaadcbhkfoaaGreatDoor
