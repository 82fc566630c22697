/- The walk of the law PaintShows. -/
import Derived.Test.YtcgaaadcbhkfoaaGreatDoorPs1
import Derived.Test.YtcgaaadcbhkfoaaGreatDoorVtP0
import Derived.Deep.RegionHeld3
namespace Go.Proofs.YtcgaaadcbhkfoaaGreatDoor
open Go Go.Proofs Go.RowKit Go.Ink

/-- A terminal shows t; in the box at x lies the grid G that it should show. -/
structure EndA (w0 w : World) (B v : Nat) (t : Tm) (S : Nat → Prop) (x : Nat) (ao : Option Addr) (cap : Nat) (G : Grd) : Prop where
  one : OneP w0 w B v t S
  box : BoxAt w x G ao cap
  sl : SlOf IsBytes w ao cap G.cells
theorem EndA.later {w0 w w' : World} {B v : Nat} {t : Tm} {S : Nat → Prop} {x : Nat} {ao : Option Addr} {cap : Nat} {G : Grd} (h : EndA w0 w B v t S x ao cap G) (hb : Below w.heap.size w w') : EndA w0 w' B v t S x ao cap G :=
  ⟨h.one.later hb, h.box.later hb, h.sl.later lasts_bytes hb⟩
theorem EndA.len {w0 w : World} {B v : Nat} {t : Tm} {S : Nat → Prop} {x : Nat} {ao : Option Addr} {cap : Nat} {G : Grd} (h : EndA w0 w B v t S x ao cap G) (he : t.grd = G) : G.cells.length ≤ 1000000 := by
  rw [← he]
  have h1 := h.one.g.many
  have h2 := h.one.g.rows
  show t.cells.length ≤ _
  omega
theorem EndA.grid {w0 w : World} {B v : Nat} {t : Tm} {S : Nat → Prop} {x : Nat} {ao : Option Addr} {cap : Nat} {G : Grd} (h : EndA w0 w B v t S x ao cap G) (he : t.grd = G) :
    Calls Tryz.prog 29 #[.pointer (some ⟨v, 0, none⟩)] w fun e w' => ∃ g', e = .returned (gridV G (some ⟨g', 0, none⟩) G.cells.length) ∧ SlOf IsBytes w' (some ⟨g', 0, none⟩) G.cells.length G.cells ∧ EndA w0 w' B v t S x ao cap G ∧ x < w.heap.size := by
  have hp := gridP h.one.a h.one.g
  rw [he] at hp
  refine hp.mono ?_
  rintro e w' ⟨g', bs', rfl, _, ho, hb⟩
  exact ⟨g', rfl, ho.sl, h.later hb, lt_of_heap h.box⟩
theorem EndA.feed {w0 w : World} {B v : Nat} {t : Tm} {S : Nat → Prop} {x : Nat} {ao : Option Addr} {cap : Nat} {G : Grd} (h : EndA w0 w B v t S x ao cap G) (hs : SlOf IsBytes w0 ao cap G.cells) (hx : ∀ i, S i → i < x) (s : List UInt8) (hl : t.par.length + s.length ≤ 1000000) :
    Calls Tryz.prog 10 #[.pointer (some ⟨v, 0, none⟩), .string ⟨s.toArray⟩] w fun e w' => e = .returned (.int .i64 0) ∧ (∃ S', EndA w0 w' B v (t.feed s) S' x ao cap G) ∧ x < w.heap.size := by
  refine (h.one.feed s hl).mono ?_
  rintro e w' ⟨rfl, S', hf⟩
  have h1 := h.one.fed hf
  exact ⟨rfl, ⟨S', h1, (hf.keep.block x (lt_of_heap h.box) (fun e => by have := hx x e; omega)).trans h.box, hs.later lasts_bytes h1.below⟩, lt_of_heap h.box⟩
set_option maxRecDepth 100000 in
set_option maxHeartbeats 1000000 in
theorem shows_any {w0 w : World} {B v : Nat} {t : Tm} {S : Nat → Prop} (h : OneP w0 w B v t S) (s : List UInt8) (hl : t.par.length + s.length ≤ 1000000) (g : Grd) (ao : Option Addr) (cap : Nat) (hs : SlOf IsBytes w0 ao cap g.cells) (hg : (t.feed s).grd = g) :
    Calls Tryz.prog 11 #[.pointer (some ⟨v, 0, none⟩), .string ⟨s.toArray⟩, gridV g ao cap] w fun e w' => e = .returned (.bool true) ∧ ∃ S', OneP w0 w' B v (t.feed s) S' := by
  have hal := fun o => (Below.refl w.heap.size w).alloc (Nat.le_refl _) o
  have HE : Hid (EndA w0 (w.alloc (.cells #[.int .i64 g.rows, .int .i64 g.cols, .slice ao g.cells.length cap, .int .i64 g.row, .int .i64 g.col] 24)) B v t S w.heap.size ao cap g) := Lib.hid ⟨h.later (hal _), heap_alloc_new w _, (hs.later lasts_bytes h.below).later lasts_bytes (hal _)⟩
  have HLT := Lib.hid h.slt
  have HS := Lib.hid hs
  have HG := Lib.hid hg
  have HL := Lib.hid hl
  clear h hs hg hl hal
  simp only [gridV]
  go_enter Tryz.func11, Tryz.ntmps11
  go_wp2_with fail
  generalize hwa : w.alloc (.cells #[.int .i64 g.rows, .int .i64 g.cols, .slice ao g.cells.length cap, .int .i64 g.row, .int .i64 g.col] 24) = wa at *
  obtain ⟨x, hx⟩ : ∃ x, w.heap.size = x := ⟨_, rfl⟩
  rw [hx] at HE HLT ⊢
  obtain ⟨c0, c1, c2, c3, c4⟩ := HE.out.box.cells
  have HQ := Lib.hid (HE.out.later ((Below.refl _ _).drew))
  clear hwa HE
  go_wp2_with fail
  have HX := Lib.hid hx
  clear hx
  have tok1 : True := trivial
  go_region_held3 (fun w' => w'.cell? ⟨x, 0, none⟩ = some (.int .i64 g.rows) ∧ w'.cell? ⟨x, 1, none⟩ = some (.int .i64 g.cols) ∧ w'.cell? ⟨x, 2, none⟩ = some (.slice ao g.cells.length cap) ∧ w'.cell? ⟨x, 3, none⟩ = some (.int .i64 g.row) ∧ w'.cell? ⟨x, 4, none⟩ = some (.int .i64 g.col))
    (first | exact ⟨c0, c1, c2, c3, c4⟩ | exact ⟨a0, a1, a2, a3, a4⟩ | exact ⟨b0, b1, b2, b3, b4⟩ | exact ⟨d0, d1, d2, d3, d4⟩ | go_keep)
    (first | (have _t := tok1; go_at_call 10; refine (HQ.out.feed HS.out HLT.out s HL.out).mono ?_; rintro e wa ⟨rfl, ⟨Sa, hqa⟩, hla⟩; obtain ⟨a0, a1, a2, a3, a4⟩ := hqa.box.cells; have HQA := Lib.hid hqa; clear hqa hla _t tok1) | (go_at_call 29; refine (HQA.out.grid HG.out).mono ?_; rintro e wb ⟨gb, rfl, hsb, hqb, hlb⟩; obtain ⟨b0, b1, b2, b3, b4⟩ := hqb.box.cells; have HSB := Lib.hid hsb; have HQB := Lib.hid hqb; clear hsb hqb hlb) | (go_at_call 28; refine (same_self_g g _ _ _ _ _ HSB.out HQB.out.sl (HQB.out.len HG.out)).mono ?_; rintro e wd ⟨rfl, hbd⟩; obtain ⟨d0, d1, d2, d3, d4⟩ := (HQB.out.later hbd).box.cells; have HQD := Lib.hid (HQB.out.later hbd); clear hbd) | (fail "no arm"))
  go_wp2_with fail
  go_returns
  exact ⟨rfl, _, HQD.out.one⟩
/-- What PaintShows asks ahead of all. -/
def psOut (f t : Grd) (n : Nat) : Bool := beyondB f || beyondB t || decide (200 < n)
theorem diffOk_iff (f t : Grd) : diffOk f t = (t.ok && f.ok && !(f.rows != t.rows) && !(f.cols != t.cols)) := rfl
set_option maxRecDepth 100000 in
set_option maxHeartbeats 4000000 in
theorem paintShows_any (f t : Grd) (ao1 ao2 : Option Addr) (cap1 cap2 : Nat) (s : List UInt8) (w : World) (hf : SlOf IsBytes w ao1 cap1 f.cells) (ht : SlOf IsBytes w ao2 cap2 t.cells) (h10 : Tab10 w) (hm : MaxAt w) (hs : s.length ≤ maxLen) :
    Calls Tryz.prog 3 #[gridV f ao1 cap1, gridV t ao2 cap2, .string ⟨s.toArray⟩] w fun e w' => e = .returned (.bool true) ∧ Below w.heap.size w w' := by
  unfold maxLen at hs
  have HSZ := size_mk s
  have H2 := @two_blk w (.cells #[.int .i64 f.rows, .int .i64 f.cols, .slice ao1 f.cells.length cap1, .int .i64 f.row, .int .i64 f.col] 24) (.cells #[.int .i64 t.rows, .int .i64 t.cols, .slice ao2 t.cells.length cap2, .int .i64 t.row, .int .i64 t.col] 24)
  have HD0 : Hid (DiffAt f t ao1 ao2 cap1 cap2 w.heap.size (w.heap.size + 1) ((w.alloc (.cells #[.int .i64 f.rows, .int .i64 f.cols, .slice ao1 f.cells.length cap1, .int .i64 f.row, .int .i64 f.col] 24)).alloc (.cells #[.int .i64 t.rows, .int .i64 t.cols, .slice ao2 t.cells.length cap2, .int .i64 t.row, .int .i64 t.col] 24))) := Lib.hid ⟨hf.later lasts_bytes H2.2.2, ht.later lasts_bytes H2.2.2, H2.1, H2.2.1, h10.later H2.2.2⟩
  have HM0 := Lib.hid (hm.later H2.2.2)
  have HB0 := Lib.hid H2.2.2
  clear hf ht h10 hm H2
  have HDF := Lib.hid (diff_any f t ao1 ao2 cap1 cap2)
  have HDT := Lib.hid (diff_any t t ao2 ao2 cap2 cap2)
  have HAF := Lib.hid (all_any f ao1 cap1)
  have HAT := Lib.hid (all_any t ao2 cap2)
  have HBF := Lib.hid (beyond_any f ao1 cap1)
  have HBT := Lib.hid (beyond_any t ao2 cap2)
  have HCF := Lib.hid (check_any f ao1 cap1)
  have HCT := Lib.hid (check_any t ao2 cap2)
  have HSF := Lib.hid (fun (w0 w : World) (B v : Nat) (u : Tm) (S : Nat → Prop) (h : OneP w0 w B v u S) (s : List UInt8) (hl : u.par.length + s.length ≤ 1000000) (hs : SlOf IsBytes w0 ao1 cap1 f.cells) (hg : (u.feed s).grd = f) => shows_any h s hl f ao1 cap1 hs hg)
  have HST := Lib.hid (fun (w0 w : World) (B v : Nat) (u : Tm) (S : Nat → Prop) (h : OneP w0 w B v u S) (s : List UInt8) (hl : u.par.length + s.length ≤ 1000000) (hs : SlOf IsBytes w0 ao2 cap2 t.cells) (hg : (u.feed s).grd = t) => shows_any h s hl t ao2 cap2 hs hg)
  simp only [gridV] at *
  go_enter Tryz.func3, Tryz.ntmps3
  go_wp2_with fail
  generalize hwa : ((w.alloc (.cells #[.int .i64 f.rows, .int .i64 f.cols, .slice ao1 f.cells.length cap1, .int .i64 f.row, .int .i64 f.col] 24)).alloc (.cells #[.int .i64 t.rows, .int .i64 t.cols, .slice ao2 t.cells.length cap2, .int .i64 t.row, .int .i64 t.col] 24)) = w1 at *
  clear hwa
  refine (HBF.out _ HD0.out.hf).mono ?_
  rintro e w2 ⟨rfl, hb2⟩
  have HD2 := Lib.hid (HD0.out.later hb2)
  have HB2 := Lib.hid hb2
  clear hb2
  cases hbf : beyondB f
  case true =>
    go_wp2_with fail
    refine (lives_any _ HD2.out.h10).mono ?_
    rintro e w3 ⟨rfl, hb3⟩
    have HB3 := Lib.hid (HB0.out.trans ((HB2.out.trans (hb3.mono HB2.out.size)).mono HB0.out.size))
    clear hb3
    go_wp2_with fail
    go_returns
    exact ⟨rfl, HB3.out⟩
  clear hbf
  obtain ⟨d0, d1, d2, d3, d4⟩ := HD2.out.hy.cells
  go_wp2_with fail
  refine (HBT.out _ HD2.out.ht).mono ?_
  rintro e w3 ⟨rfl, hb3⟩
  have HD3 := Lib.hid (HD2.out.later hb3)
  have HB3 := Lib.hid (HB2.out.trans (hb3.mono HB2.out.size))
  clear hb3 d0 d1 d2 d3 d4
  cases hbt : beyondB t
  case true =>
    go_wp2_with fail
    refine (lives_any _ HD3.out.h10).mono ?_
    rintro e w4 ⟨rfl, hb4⟩
    have HB4 := Lib.hid (HB0.out.trans ((HB3.out.trans (hb4.mono HB3.out.size)).mono HB0.out.size))
    clear hb4
    go_wp2_with fail
    go_returns
    exact ⟨rfl, HB4.out⟩
  clear hbt
  by_cases hl : (200 : Int) < (s.length : Int)
  · go_wp2_with fail
    refine (lives_any _ HD3.out.h10).mono ?_
    rintro e w4 ⟨rfl, hb4⟩
    have HB4 := Lib.hid (HB0.out.trans ((HB3.out.trans (hb4.mono HB3.out.size)).mono HB0.out.size))
    clear hb4
    go_wp2_with fail
    go_returns
    exact ⟨rfl, HB4.out⟩
  obtain ⟨d0, d1, d2, d3, d4⟩ := HD3.out.hx.cells
  go_wp2_with fail
  refine (HAF.out _ HD3.out.hf HD3.out.h10).mono ?_
  rintro e w4 ⟨rfl, hb4⟩
  have HD4 := Lib.hid (HD3.out.later hb4)
  have HB4 := Lib.hid (HB3.out.trans (hb4.mono HB3.out.size))
  clear hb4 d0 d1 d2 d3 d4
  obtain ⟨d0, d1, d2, d3, d4⟩ := HD4.out.hx.cells
  obtain ⟨e0, e1, e2, e3, e4⟩ := HD4.out.hy.cells
  go_wp2_with fail
  refine (HDF.out _ HD4.out.hf HD4.out.ht HD4.out.h10).mono ?_
  rintro e w5 ⟨rfl, hb5⟩
  have HD5 := Lib.hid (HD4.out.later hb5)
  have HB5 := Lib.hid (HB4.out.trans (hb5.mono HB4.out.size))
  clear hb5 d0 d1 d2 d3 d4 e0 e1 e2 e3 e4
  obtain ⟨d0, d1, d2, d3, d4⟩ := HD5.out.hx.cells
  obtain ⟨e0, e1, e2, e3, e4⟩ := HD5.out.hy.cells
  go_wp2_with fail
  refine (HCF.out _ HD5.out.hf).mono ?_
  rintro e w6 ⟨rfl, hb6⟩
  have HD6 := Lib.hid (HD5.out.later hb6)
  have HB6 := Lib.hid (HB5.out.trans (hb6.mono HB5.out.size))
  clear hb6 d0 d1 d2 d3 d4 e0 e1 e2 e3 e4
  obtain ⟨d0, d1, d2, d3, d4⟩ := HD6.out.hx.cells
  obtain ⟨e0, e1, e2, e3, e4⟩ := HD6.out.hy.cells
  have hdi := diffOk_iff f t
  cases hof : f.ok
  · rw [hof] at hdi
    simp only [Bool.and_false, Bool.false_and] at hdi
    have hds : diffS f t = [] := by unfold diffS; rw [hdi]; rfl
    have HOF := Lib.hid hof
    rw [hdi, hds]
    clear hdi hds hof
    simp only [okI_false]
    go_wp2_with fail
    refine (HCF.out _ HD6.out.hf).mono ?_
    rintro e w8 ⟨rfl, hb8⟩
    have HD8 := Lib.hid (HD6.out.later hb8)
    have HB8 := Lib.hid (HB6.out.trans (hb8.mono HB6.out.size))
    clear hb8
    rw [HOF.out]
    simp only [okI_false, okI_true]
    go_wp2_with fail
    refine (lives_any _ HD8.out.h10).mono ?_
    rintro e w9 ⟨rfl, hb9⟩
    have HB9 := Lib.hid (HB0.out.trans ((HB8.out.trans (hb9.mono HB8.out.size)).mono HB0.out.size))
    clear hb9
    go_wp2_with fail
    go_returns
    exact ⟨rfl, HB9.out⟩
  have HOF := Lib.hid hof
  simp only [okI_true]
  rw [hof] at hdi
  clear hof
  go_wp2_with fail
  refine (HCT.out _ HD6.out.ht).mono ?_
  rintro e w7 ⟨rfl, hb7⟩
  have HD7 := Lib.hid (HD6.out.later hb7)
  have HB7 := Lib.hid (HB6.out.trans (hb7.mono HB6.out.size))
  clear hb7 d0 d1 d2 d3 d4 e0 e1 e2 e3 e4
  obtain ⟨d0, d1, d2, d3, d4⟩ := HD7.out.hx.cells
  obtain ⟨e0, e1, e2, e3, e4⟩ := HD7.out.hy.cells
  cases hot : t.ok
  · rw [hot] at hdi
    simp only [Bool.and_false, Bool.false_and] at hdi
    have hds : diffS f t = [] := by unfold diffS; rw [hdi]; rfl
    rw [hdi, hds]
    clear hdi hds hot
    simp only [okI_false]
    go_wp2_with fail
    refine (HCF.out _ HD7.out.hf).mono ?_
    rintro e w8 ⟨rfl, hb8⟩
    have HD8 := Lib.hid (HD7.out.later hb8)
    have HB8 := Lib.hid (HB7.out.trans (hb8.mono HB7.out.size))
    clear hb8
    rw [HOF.out]
    simp only [okI_false, okI_true]
    go_wp2_with fail
    refine (lives_any _ HD8.out.h10).mono ?_
    rintro e w9 ⟨rfl, hb9⟩
    have HB9 := Lib.hid (HB0.out.trans ((HB8.out.trans (hb9.mono HB8.out.size)).mono HB0.out.size))
    clear hb9
    go_wp2_with fail
    go_returns
    exact ⟨rfl, HB9.out⟩
  have HOT := Lib.hid hot
  simp only [okI_true]
  rw [hot] at hdi
  clear hot
  by_cases hrr : f.rows = t.rows
  case neg =>
    have hrn : (f.rows == t.rows) = false := by rw [beq_eq_false_iff_ne]; exact hrr
    have hdi' : diffOk f t = false := by rw [hdi]; simp [hrr]
    have hds : diffS f t = [] := by unfold diffS; rw [hdi']; rfl
    rw [hdi', hds]
    clear hdi hds hdi' hrr
    simp only [okI_false]
    go_wp2_with fail
    refine (HCF.out _ HD7.out.hf).mono ?_
    rintro e w8 ⟨rfl, hb8⟩
    have HD8 := Lib.hid (HD7.out.later hb8)
    have HB8 := Lib.hid (HB7.out.trans (hb8.mono HB7.out.size))
    clear hb8
    rw [HOF.out]
    simp only [okI_false, okI_true]
    go_wp2_with fail
    refine (lives_any _ HD8.out.h10).mono ?_
    rintro e w9 ⟨rfl, hb9⟩
    have HB9 := Lib.hid (HB0.out.trans ((HB8.out.trans (hb9.mono HB8.out.size)).mono HB0.out.size))
    clear hb9
    go_wp2_with fail
    go_returns
    exact ⟨rfl, HB9.out⟩
  by_cases hcc : f.cols = t.cols
  case neg =>
    have hrn : (f.cols == t.cols) = false := by rw [beq_eq_false_iff_ne]; exact hcc
    rw [← hrr] at e0
    have hdi' : diffOk f t = false := by rw [hdi]; simp [hcc]
    have hds : diffS f t = [] := by unfold diffS; rw [hdi']; rfl
    rw [hdi', hds]
    clear hdi hds hdi' hcc hrr
    simp only [okI_false]
    go_wp2_with fail
    refine (HCF.out _ HD7.out.hf).mono ?_
    rintro e w8 ⟨rfl, hb8⟩
    have HD8 := Lib.hid (HD7.out.later hb8)
    have HB8 := Lib.hid (HB7.out.trans (hb8.mono HB7.out.size))
    clear hb8
    rw [HOF.out]
    simp only [okI_false, okI_true]
    go_wp2_with fail
    refine (lives_any _ HD8.out.h10).mono ?_
    rintro e w9 ⟨rfl, hb9⟩
    have HB9 := Lib.hid (HB0.out.trans ((HB8.out.trans (hb9.mono HB8.out.size)).mono HB0.out.size))
    clear hb9
    go_wp2_with fail
    go_returns
    exact ⟨rfl, HB9.out⟩
  have hdi' : diffOk f t = true := by rw [hdi]; simp [hrr, hcc]
  have HDI := Lib.hid hdi'
  rw [hdi']
  simp only [okI_true]
  clear hdi hdi'
  obtain ⟨R, C, hR, hC, r1, r2, c1, c2⟩ := ok_nats HOF.out
  have hR2 : t.rows = R := by rw [← hrr]; exact hR
  have hC2 : t.cols = C := by rw [← hcc]; exact hC
  rw [hR] at d0
  rw [hC] at d1
  rw [hR2] at e0
  rw [hC2] at e1
  have HR := Lib.hid hR
  have HC := Lib.hid hC
  have HR2 := Lib.hid hR2
  have HC2 := Lib.hid hC2
  clear hrr hcc hR hC hR2 hC2
  go_wp2_with fail
  refine (vtNew_yes R C _ r1 r2 c1 c2).mono ?_
  rintro e w8 hn8
  obtain ⟨v, S8, rfl, h8, hb8⟩ := OneP.of_new HB7.out (HM0.out.later HB7.out) hn8 ⟨r1, r2⟩ ⟨c1, c2⟩
  have hl' : s.length ≤ 200 := by omega
  have hlaw := all_laws f t HDI.out (Tm.start R C) (start_good ⟨r1, r2⟩ ⟨c1, c2⟩) HR.out.symm HC.out.symm rfl s hl'
  have HW := Lib.hid hlaw
  have H8 := Lib.hid h8
  clear h8 hb8 hn8 hlaw d0 d1 d2 d3 d4 e0 e1 e2 e3 e4
  generalize Tm.start R C = T0 at *
  go_wp2_with fail
  refine (H8.out.feed s HW.out.p0).mono ?_
  rintro e w9 ⟨rfl, S9, hf9⟩
  have H9 := Lib.hid (H8.out.fed hf9)
  have HD9 := Lib.hid (HD0.out.later H9.out.below)
  clear hf9 H8
  obtain ⟨e0, e1, e2, e3, e4⟩ := HD9.out.hy.cells
  go_wp2_with fail
  refine (HDT.out _ HD9.out.ht HD9.out.ht HD9.out.h10).mono ?_
  rintro e w10 ⟨rfl, hb10⟩
  have hdtt : diffOk t t = true := by unfold diffOk; rw [HOT.out]; simp
  rw [diffS_self, hdtt]
  simp only [okI_true]
  have H10 := Lib.hid (H9.out.later hb10)
  have HD10 := Lib.hid (HD9.out.later hb10)
  clear hb10 hdtt H9 HD9 e0 e1 e2 e3 e4
  obtain ⟨e0, e1, e2, e3, e4⟩ := HD10.out.hy.cells
  go_wp2_with fail
  refine (HAT.out _ HD10.out.ht HD10.out.h10).mono ?_
  rintro e w11 ⟨rfl, hb11⟩
  rw [HOT.out]
  simp only [okI_true]
  have H11 := Lib.hid (H10.out.later hb11)
  have HD11 := Lib.hid (HD10.out.later hb11)
  clear hb11 H10 HD10 e0 e1 e2 e3 e4
  obtain ⟨d0, d1, d2, d3, d4⟩ := HD11.out.hx.cells
  go_wp2_with fail
  refine (HSF.out _ _ _ _ _ _ H11.out (allS f) HW.out.p1 HD0.out.hf HW.out.one).mono ?_
  rintro e w12 ⟨rfl, S12, h12⟩
  have H12 := Lib.hid h12
  have HD12 := Lib.hid (HD0.out.later h12.below)
  clear h12 H11 HD11 d0 d1 d2 d3 d4
  obtain ⟨e0, e1, e2, e3, e4⟩ := HD12.out.hy.cells
  go_wp2_with fail
  refine (HST.out _ _ _ _ _ _ H12.out (diffS f t) HW.out.p2 HD0.out.ht HW.out.two).mono ?_
  rintro e w13 ⟨rfl, S13, h13⟩
  have H13 := Lib.hid h13
  clear h13 H12 HD12 e0 e1 e2 e3 e4
  go_wp2_with fail
  refine (H13.out.feed s HW.out.p3).mono ?_
  rintro e w14 ⟨rfl, S14, hf14⟩
  have H14 := Lib.hid (H13.out.fed hf14)
  have HD14 := Lib.hid (HD0.out.later H14.out.below)
  clear hf14 H13
  obtain ⟨e0, e1, e2, e3, e4⟩ := HD14.out.hy.cells
  go_wp2_with fail
  refine (HST.out _ _ _ _ _ _ H14.out (allS t) HW.out.p4 HD0.out.ht HW.out.three).mono ?_
  rintro e w15 ⟨rfl, S15, h15⟩
  have H15 := Lib.hid h15
  have HD15 := Lib.hid (HD0.out.later h15.below)
  clear h15 H14 HD14 e0 e1 e2 e3 e4
  go_wp2_with fail
  refine (lives_any _ HD15.out.h10).mono ?_
  rintro e w16 ⟨rfl, hb16⟩
  have HB16 := Lib.hid (HB0.out.trans ((H15.out.below.trans (hb16.mono H15.out.below.size)).mono HB0.out.size))
  clear hb16
  go_wp2_with fail
  go_returns
  exact ⟨rfl, HB16.out⟩
end Go.Proofs.YtcgaaadcbhkfoaaGreatDoor
