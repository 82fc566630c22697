/- A visual editor (package visual): its block; its line, its lines; a place gone to (chapter 28). -/
import Derived.Test.YthhihondlihebaaGreatDoorCo5
import Derived.Test.YthhihondlihebaaGreatDoorCo1
import Derived.Test.YthhihondlihebaaGreatDoorMv8
import Derived.Deep.RegionHeld3
import Derived.Deep.Cut
import Derived.Test.YthhihondlihebaaGreatDoorCoCur
namespace Go.Proofs.YthhihondlihebaaGreatDoor
open Go Go.Proofs Go.RowKit Go.Ink Go.Sort

/-- What an editor has: its buffer's block, the cursor, the mode, keys, where the text begins, what was inserted, the last change (register, count, name, motion, letter), its text. -/
structure Vis where
  c : Nat
  ln : Int
  col : Int
  mode : Int
  keys : List UInt8
  fl : Int
  fc : Int
  done : List UInt8
  dr : Int
  dc : Int
  dn : Int
  dm : Int
  dl : Int
  text : List UInt8
def visC (v : Vis) : List Value :=
  [.pointer (some ⟨v.c, 0, none⟩), .int .i64 v.ln, .int .i64 v.col, .int .i64 v.mode, .string ⟨v.keys.toArray⟩, .string ⟨#[]⟩, .int .i64 v.fl, .int .i64 v.fc, .string ⟨v.done.toArray⟩, .string ⟨#[]⟩, .int .u8 0, .int .u8 0, .string ⟨#[]⟩, .bool false, .int .u8 v.dr, .int .i64 v.dc, .int .u8 v.dn, .int .u8 v.dm, .int .u8 v.dl, .string ⟨v.text.toArray⟩, .bool false]
def VisB (w : World) (d : Nat) (v : Vis) : Prop := w.heap[d]? = some (.cells (visC v).toArray 74 (0, 0))
section
variable {S : Nat → Prop} {w w' : World} {d : Nat} {v : Vis}
theorem VisB.lt (h : VisB w d v) : d < w.heap.size := lt_of_heap h
theorem VisB.at (h : VisB w d v) (j : Nat) {u : Value} (hj : (visC v)[j]? = some u) : w.cell? ⟨d, j, none⟩ = some u := by
  rw [Lib.cell_of_heap h]
  simpa using hj
theorem VisB.fz (h : VisB w d v) (j : Nat) : w.frozen? ⟨d, j, none⟩ = false := Lib.frozen_of_heap h j
theorem VisB.kept (h : VisB w d v) (hk : KeepT S w w') (hn : ¬ S d) : VisB w' d v := (hk.block d h.lt hn).trans h
theorem VisB.later (h : VisB w d v) (hb : Below w.heap.size w w') : VisB w' d v := (hb.block d h.lt).trans h
theorem VisB.set1 (h : VisB w d v) (k : Int) : VisB (w.setCell ⟨d, 1, none⟩ (.int .i64 k)) d { v with ln := k } := (heap_set h _).trans rfl
theorem VisB.set2 (h : VisB w d v) (k : Int) : VisB (w.setCell ⟨d, 2, none⟩ (.int .i64 k)) d { v with col := k } := (heap_set h _).trans rfl
theorem VisB.set3 (h : VisB w d v) (k : Int) : VisB (w.setCell ⟨d, 3, none⟩ (.int .i64 k)) d { v with mode := k } := (heap_set h _).trans rfl
theorem VisB.set4 (h : VisB w d v) (l : List UInt8) : VisB (w.setCell ⟨d, 4, none⟩ (.string ⟨l.toArray⟩)) d { v with keys := l } := (heap_set h _).trans rfl
theorem VisB.set6 (h : VisB w d v) (k : Int) : VisB (w.setCell ⟨d, 6, none⟩ (.int .i64 k)) d { v with fl := k } := (heap_set h _).trans rfl
theorem VisB.set7 (h : VisB w d v) (k : Int) : VisB (w.setCell ⟨d, 7, none⟩ (.int .i64 k)) d { v with fc := k } := (heap_set h _).trans rfl
theorem VisB.set8 (h : VisB w d v) (l : List UInt8) : VisB (w.setCell ⟨d, 8, none⟩ (.string ⟨l.toArray⟩)) d { v with done := l } := (heap_set h _).trans rfl
theorem VisB.set19 (h : VisB w d v) (l : List UInt8) : VisB (w.setCell ⟨d, 19, none⟩ (.string ⟨l.toArray⟩)) d { v with text := l } := (heap_set h _).trans rfl
theorem visNone (h : VisB w d v) : Calls Tryz.prog 31 #[.pointer (some ⟨d, 0, none⟩)] w fun e w' => e = .returned (.bool false) ∧ w' = w := by
  have h0 := h.at 0 rfl
  clear h
  go_enter Tryz.func31, Tryz.ntmps31
  go_wp2_with fail
  go_returns
  exact ⟨rfl, rfl⟩
theorem visLine {t : Nat} {cur : Int} {ps : List (List Line)} {i : Nat} {x : Line} (h : VisB w d v) (hc : CoreOf S w v.c t cur ps) (hi : v.ln = (i : Int)) (h1 : 1 ≤ i) (hx : ps.flatten[i - 1]? = some x) :
    Calls Tryz.prog 48 #[.pointer (some ⟨d, 0, none⟩)] w fun e w' => e = .returned (.string ⟨x.toArray⟩) ∧ Below w.heap.size w w' := by
  have h0 := h.at 0 rfl
  have e1 := h.at 1 rfl
  rw [hi] at e1
  have HL := Lib.hid (fun (X : World) (hb : Below w.heap.size w X) => coreLine_of (hc.later hb) i x h1 hx)
  have HX := Lib.hid (Below.refl w.heap.size w)
  clear h hc hi hx
  go_enter Tryz.func48, Tryz.ntmps48
  go_wp2_with fail
  go_region_held3 (fun w' => w'.cell? ⟨d, 0, none⟩ = some (.pointer (some ⟨v.c, 0, none⟩)) ∧ w'.cell? ⟨d, 1, none⟩ = some (.int .i64 (i : Int)))
    (first | exact ⟨h0, e1⟩ | exact ⟨p0, p1⟩ | go_keep)
    (first
      | ((with_reducible refine (HL.out _ HX.out.drew).mono ?_); rintro e w1 ⟨rfl, hb1⟩; have HB1 := Lib.hid (HX.out.drew.trans hb1); have p0 := (HB1.out.cell (p := ⟨d, 0, none⟩) (lt_of_cell h0)).trans h0; have p1 := (HB1.out.cell (p := ⟨d, 1, none⟩) (lt_of_cell e1)).trans e1; clear hb1)
      | (fail "no arm"))
  go_wp2_with fail
  go_returns
  exact ⟨rfl, HB1.out⟩
theorem visLines {t : Nat} {cur : Int} {ps : List (List Line)} {F : List Line} (h : VisB w d v) (hc : CoreOf S w v.c t cur ps) (hF : ps.flatten = F) :
    Calls Tryz.prog 76 #[.pointer (some ⟨d, 0, none⟩)] w fun e w' => ∃ ao cap, e = .returned (.slice ao F.length cap) ∧ SlOf IsStr w' ao cap F ∧ Below w.heap.size w w' ∧ OwnStrs w' w.heap.size (.slice ao F.length cap) F := by
  have h0 := h.at 0 rfl
  have HN := Lib.hid (fun (X : World) (hb : Below w.heap.size w X) => coreN_of (hc.later hb))
  have HL := Lib.hid (fun (X : World) (hb : Below w.heap.size w X) => (show Calls Tryz.prog 11 #[.pointer (some ⟨v.c, 0, none⟩), .int .i64 1, .int .i64 (manyS ps : Int)] X fun e' w' => ∃ v, e' = .returned v ∧ OwnStrs w' X.heap.size v ((ps.flatten.drop (1 - 1)).take (manyS ps - (1 - 1))) ∧ Below X.heap.size X w' from coreLinesAll_of (hc.later hb)))
  have hm : manyS ps = F.length := by rw [manyS_flat, hF]
  have HF := Lib.hid (show (ps.flatten.drop (1 - 1)).take (F.length - (1 - 1)) = F by rw [hF, Nat.sub_self, List.drop_zero, Nat.sub_zero, List.take_length])
  rw [hm] at HN HL
  rw [HF.out] at HL
  have HX := Lib.hid (Below.refl w.heap.size w)
  clear h hc hF hm HF
  go_enter Tryz.func76, Tryz.ntmps76
  go_wp2_with fail
  go_region_held3 (fun w' => w'.cell? ⟨d, 0, none⟩ = some (.pointer (some ⟨v.c, 0, none⟩)))
    (first | exact h0 | exact p0 | go_keep)
    (first
      | ((with_reducible refine (HN.out _ HX.out.drew).mono ?_); rintro e w1 ⟨rfl, rfl⟩)
      | ((with_reducible refine (HL.out _ HX.out.drew).mono ?_); rintro e w1 ⟨vv, rfl, ho, hb1⟩; obtain ⟨ao, cap, rfl, hs⟩ := ho.slOf; have HS := Lib.hid hs; have HO := Lib.hid (ownsRow_base ho HX.out.drew.size); have HB1 := Lib.hid (HX.out.drew.trans hb1); have p0 := (HB1.out.cell (p := ⟨d, 0, none⟩) (lt_of_cell h0)).trans h0; clear hb1 ho hs)
      | (fail "no arm"))
  go_wp2_with fail
  go_returns
  exact ⟨ao, cap, rfl, HS.out, HB1.out, HO.out⟩
theorem keepOnly {S : Nat → Prop} {a w' : World} (h : KeepT S a w') (hd : S d) (j : Nat) (u : Value) : KeepT S a (w'.setCell ⟨d, j, none⟩ u) := h.setCell (p := ⟨d, j, none⟩) (.inl hd) u
/-- The buffer and the editor are turned. -/
def TwoV (c d x : Nat) : Prop := x = c ∨ x = d
set_option maxRecDepth 100000 in
set_option maxHeartbeats 1000000 in
/-- A place that is there is gone to. -/
theorem visAt {t : Nat} {cur : Int} {last : List UInt8} {r : Nat} {dirty : Bool} {undo was held : Option Addr} {dn : Value} {ps : List (List Line)} {F : List Line} {p : Pl} (h : VisB w d v) (hc : CoreB w v.c t cur last r dirty undo was held dn) (ht : TabOf S w t ps) (hl : ps.length ≤ 100000) (hm : manyS ps ≤ 1000000) (hF : ps.flatten = F) (hsh : ∀ i, (lnL F i).length ≤ 1000000) (hp : Okp F p) (hcd : v.c ≠ d) (hSd : S d) :
    Calls Tryz.prog 46 #[.pointer (some ⟨d, 0, none⟩), .agg #[.int .i64 ((p.1 : Int) + 1), .int .i64 (p.2 : Int)]] w fun e w' => e = .returned (.tuple #[]) ∧ VisB w' d { v with ln := (p.1 : Int) + 1, col := (p.2 : Int) } ∧ CoreB w' v.c t ((p.1 : Int) + 1) last r dirty undo was held dn ∧ KeepT (TwoV v.c d) w w' := by
  have HV := Lib.hid h
  have HC := Lib.hid hc
  have HT := Lib.hid ht
  have HLI := Lib.hid (fun (X : World) (hb : Below w.heap.size w X) => visLines (v := v) (d := d) (t := t) (cur := cur) (ps := ps) (S := S) (h.later hb) ⟨(hc.later hb).c0, (hc.later hb).c1, ht.later hb, hl, hm⟩ hF)
  have HFT := Lib.hid (fun (X : World) (ao : Option Addr) (cap : Nat) (hs : SlOf IsStr X ao cap F) => by have := fit_any hs hsh ((p.1 : Int) + 1) (p.2 : Int); rw [fit_ok hp] at this; exact this)
  have hmF : manyS ps = F.length := by rw [manyS_flat, hF]
  have hp1 : p.1 + 1 ≤ manyS ps := by rw [hmF]; exact hp.1
  have HGO := Lib.hid (fun (X : World) (h : CoreB X v.c t cur last r dirty undo was held dn) (hT : TabOf S X t ps) => coreGo_of (⟨h.c0, h.c1, hT, hl, hm⟩ : CoreOf S X v.c t cur ps) h (p.1 + 1) hp1)
  have hcv : (((p.1 + 1 : Nat) : Int)) = (p.1 : Int) + 1 := by omega
  rw [hcv] at HGO
  have HPP := Lib.hid (⟨hcd, hSd⟩ : v.c ≠ d ∧ S d)
  clear h hc ht hsh hp hF hmF hp1 hcv hcd hSd
  go_enter Tryz.func46, Tryz.ntmps46
  go_wp2_with fail
  generalize hwA : w.alloc _ = wA
  have HA := Lib.hid (show Below w.heap.size w wA from hwA ▸ below_alloc w _)
  have HBX := Lib.hid (show wA.heap[w.heap.size]? = some (.cells #[.int .i64 ((p.1 : Int) + 1), .int .i64 (p.2 : Int)] 49 (0, 0)) from hwA ▸ heap_alloc_at w _)
  clear hwA
  have HZA := Lib.hid HA.out.size
  have hbd : ¬ Only d w.heap.size := by unfold Only; have := HV.out.lt; omega
  have HPB := Lib.hid (fun (X : World) (hb : KeepT (Only d) wA X) => (show X.cell? ⟨w.heap.size, 0, none⟩ = some (.int .i64 ((p.1 : Int) + 1)) ∧ X.cell? ⟨w.heap.size, 1, none⟩ = some (.int .i64 (p.2 : Int)) from by
    have hx := (hb.block _ (lt_of_heap HBX.out) hbd).trans HBX.out
    exact ⟨by rw [Lib.cell_of_heap hx]; rfl, by rw [Lib.cell_of_heap hx]; rfl⟩))
  have HX := Lib.hid (Below.refl wA.heap.size wA)
  have HDL := Lib.hid HV.out.lt
  go_region_held3 (fun w' => w'.cell? ⟨w.heap.size, 0, none⟩ = some (.int .i64 ((p.1 : Int) + 1)) ∧ w'.cell? ⟨w.heap.size, 1, none⟩ = some (.int .i64 (p.2 : Int)))
    (first | exact HPB.out _ HKS.out | exact HPB.out _ (KeepT.of_below HB2.out) | exact HPB.out _ (KeepT.of_below HB1.out) | exact HPB.out _ (KeepT.of_below HX.out.drew) | exact HPB.out _ (KeepT.of_below HX.out) | go_keep)
    (first
      | ((with_reducible refine (HLI.out _ (HA.out.trans (HX.out.drew.mono HA.out.size))).mono ?_); rintro e w1 ⟨ao, cap, rfl, hs1, hb1, -⟩; have HS1 := Lib.hid hs1; have HB1 := Lib.hid (HX.out.drew.trans hb1); clear hs1 hb1)
      | ((with_reducible refine (HFT.out _ ao cap HS1.out).mono ?_); rintro e w2 ⟨rfl, hb2⟩; have HB2 := Lib.hid (HB1.out.trans (hb2.mono HB1.out.size)); clear hb2
         have HV2 := Lib.hid (HV.out.later (HA.out.trans (HB2.out.mono HA.out.size)))
         have u1 := HV2.out.at 1 rfl
         have g1 := HV2.out.fz 1
         have s1 := HV2.out.set1 ((p.1 : Int) + 1)
         have u2 := s1.at 2 rfl
         have g2 := s1.fz 2
         have HV3 := Lib.hid (s1.set2 (p.2 : Int))
         have HKS := Lib.hid (keepOnly (keepOnly (KeepT.of_below (S := Only d) HB2.out) rfl 1 (.int .i64 ((p.1 : Int) + 1))) rfl 2 (.int .i64 (p.2 : Int)))
         clear s1)
      | (fail "no arm"))
  have hBW := HA.out.trans (HB2.out.mono HA.out.size)
  have HK3 := Lib.hid (keepOnly (keepOnly (KeepT.of_below (S := TwoV v.c d) hBW) (.inr rfl) 1 (.int .i64 ((p.1 : Int) + 1))) (.inr rfl) 2 (.int .i64 (p.2 : Int)))
  have HC3 := Lib.hid (((HC.out.later hBW).kept (keepOnly (keepOnly (KeepT.refl (Only d) w2) rfl 1 (.int .i64 ((p.1 : Int) + 1))) rfl 2 (.int .i64 (p.2 : Int))) (by unfold Only; exact HPP.out.1)))
  have HT3 := Lib.hid (((HT.out.later hBW).kept (keepOnly (keepOnly (KeepT.refl S w2) HPP.out.2 1 (.int .i64 ((p.1 : Int) + 1))) HPP.out.2 2 (.int .i64 (p.2 : Int)))))
  have x0 := HV3.out.at 0 rfl
  have x1 := HV3.out.at 1 rfl
  clear u1 u2 g1 g2 hBW
  generalize hwZ : (w2.setCell _ _).setCell _ _ = wZ at *
  have HGZ := Lib.hid (fun (X : World) (hb : Below wZ.heap.size wZ X) => HGO.out X (HC3.out.later hb) (HT3.out.later hb))
  have HX2 := Lib.hid (Below.refl wZ.heap.size wZ)
  have HCL := Lib.hid HC3.out.lt
  go_wp2_with fail
  go_region_held3 (fun w' => w'.cell? ⟨d, 0, none⟩ = some (.pointer (some ⟨v.c, 0, none⟩)) ∧ w'.cell? ⟨d, 1, none⟩ = some (.int .i64 ((p.1 : Int) + 1)))
    (first | exact ⟨x0, x1⟩ | exact ⟨y0, y1⟩ | go_keep)
    (first
      | ((with_reducible refine (HGZ.out _ HX2.out.drew).mono ?_); rintro e w4 ⟨rfl, hw4⟩
         have HK4 := Lib.hid (show KeepT (Only v.c) wZ w4 from by rw [hw4]; exact keepOnly (S := Only v.c) (KeepT.of_below HX2.out.drew) (show Only v.c v.c from rfl) 1 _)
         have HC4 := Lib.hid (show CoreB w4 v.c t ((p.1 : Int) + 1) last r dirty undo was held dn from by rw [hw4]; exact (HC3.out.later HX2.out.drew).set1 ((p.1 : Int) + 1))
         have HV4 := Lib.hid (HV3.out.kept HK4.out (by unfold Only; exact fun e => HPP.out.1 e.symm))
         have y0 := HV4.out.at 0 rfl
         have y1 := HV4.out.at 1 rfl
         clear hw4)
      | (fail "no arm"))
  go_wp2_with fail
  go_returns
  exact ⟨rfl, HV4.out, HC4.out, HK3.out.trans HK4.out (fun x _ hx => .inl hx)⟩
end
end Go.Proofs.YthhihondlihebaaGreatDoor
/- A visual editor goes to a line's first byte; goes on with a buffer; is made (chapter 28). -/
namespace Go.Proofs.YthhihondlihebaaGreatDoor
open Go Go.Proofs Go.RowKit Go.Ink Go.Sort

section
variable {S : Nat → Prop} {w w' : World} {d : Nat} {v : Vis}
theorem okp_first {F : List Line} {n : Nat} (hn : n < F.length) : Okp F (n, firstP (lnL F n)) := by
  refine ⟨hn, ?_⟩
  show firstP (lnL F n) = 0 ∨ firstP (lnL F n) < (lnL F n).length
  unfold firstP
  omega
set_option maxRecDepth 100000 in
set_option maxHeartbeats 1000000 in
/-- A line's first byte is gone to. -/
theorem visHome {t : Nat} {cur : Int} {last : List UInt8} {r : Nat} {dirty : Bool} {undo was held : Option Addr} {dn : Value} {ps : List (List Line)} {F : List Line} {n : Nat} (h : VisB w d v) (hc : CoreB w v.c t cur last r dirty undo was held dn) (ht : TabOf S w t ps) (hl : ps.length ≤ 100000) (hm : manyS ps ≤ 1000000) (hF : ps.flatten = F) (hsh : ∀ i, (lnL F i).length ≤ 1000000) (hp : n < F.length) (hcd : v.c ≠ d) (hSd : S d) :
    Calls Tryz.prog 63 #[.pointer (some ⟨d, 0, none⟩), .int .i64 ((n : Int) + 1)] w fun e w' => e = .returned (.tuple #[]) ∧ VisB w' d { v with ln := (n : Int) + 1, col := (firstP (lnL F n) : Int) } ∧ CoreB w' v.c t ((n : Int) + 1) last r dirty undo was held dn ∧ KeepT (TwoV v.c d) w w' := by
  have HV := Lib.hid h
  have HC := Lib.hid hc
  have HT := Lib.hid ht
  have HLI := Lib.hid (visLines (v := v) (d := d) (t := t) (cur := cur) (ps := ps) (S := S) h ⟨hc.c0, hc.c1, ht, hl, hm⟩ hF)
  have hok : Okp F (n, 0) := ⟨hp, .inl rfl⟩
  have HFT := Lib.hid (fun (X : World) (ao : Option Addr) (cap : Nat) (hs : SlOf IsStr X ao cap F) => by have := fit_any hs hsh ((n : Int) + 1) 0; rw [show fitI F ((n : Int) + 1) 0 = ((n : Int) + 1, 0) from fit_ok hok] at this; exact this)
  have HFI := Lib.hid (fun (X : World) => first_any (lnL F n) (hsh n) X)
  have hmF : manyS ps = F.length := by rw [manyS_flat, hF]
  have hp1 : n + 1 ≤ manyS ps := by rw [hmF]; exact hp
  have HGO := Lib.hid (fun (X : World) (h : CoreB X v.c t cur last r dirty undo was held dn) (hT : TabOf S X t ps) => coreGo_of (⟨h.c0, h.c1, hT, hl, hm⟩ : CoreOf S X v.c t cur ps) h (n + 1) hp1)
  have hcv : (((n + 1 : Nat) : Int)) = (n : Int) + 1 := by omega
  rw [hcv] at HGO
  have HDL := Lib.hid h.lt
  have HPP := Lib.hid (⟨hcd, hSd⟩ : v.c ≠ d ∧ S d)
  have HN := Lib.hid hp
  have hpos : decide ((n : Int) + 1 > 0) = true := by simp
  have hlnF : F[n]? = some (lnL F n) := by unfold lnL; rw [List.getD_eq_getElem?_getD, List.getElem?_eq_getElem hp]; rfl
  have HLN := Lib.hid hlnF
  have HSZ := Lib.hid (show F.length ≤ 1000000 from hmF ▸ hm)
  clear h hc ht hsh hF hmF hp1 hcv hcd hSd hok hlnF hl hm
  go_enter Tryz.func63, Tryz.ntmps63
  go_wp2_with fail
  refine HLI.out.mono ?_
  rintro e w1 ⟨ao, cap, rfl, hs1, hb1, ho1⟩
  have HS1 := Lib.hid hs1
  have HB1 := Lib.hid hb1
  clear hs1 hb1
  go_wp2_with fail
  refine (HFT.out _ ao cap HS1.out).mono ?_
  rintro e w2 ⟨rfl, hb2⟩
  have HB2 := Lib.hid (HB1.out.trans (hb2.mono HB1.out.size))
  have HO2 := Lib.hid (ho1.later hb2)
  clear hb2 ho1
  have HV2 := Lib.hid (HV.out.later HB2.out)
  have u1 := HV2.out.at 1 rfl
  have g1 := HV2.out.fz 1
  have s1 := HV2.out.set1 ((n : Int) + 1)
  have u2 := s1.at 2 rfl
  have g2 := s1.fz 2
  have HV3 := Lib.hid (s1.set2 0)
  have HO3 := Lib.hid (own_slOfV rfl (ownsRow_setCell_below (ownsRow_setCell_below HO2.out (a := ⟨d, 1, none⟩) HDL.out (.int .i64 ((n : Int) + 1))) (a := ⟨d, 2, none⟩) HDL.out (.int .i64 0)))
  obtain ⟨b, o, uu, rfl, hcl, hst⟩ := HO3.out.2.2.2 n _ HLN.out
  obtain rfl : uu = _ := hst
  have hz0 : wrap64 ((n : Int) + 1 - 1) = (n : Int) := by have := HSZ.out; have := HN.out; unfold wrap64; omega
  have hz1 : wrap64 (n : Int) = (n : Int) := by have := HSZ.out; have := HN.out; unfold wrap64; omega
  have u3 := HV3.out.at 2 rfl
  have g3 := HV3.out.fz 2
  have HV4 := Lib.hid (HV3.out.set2 (firstP (lnL F n) : Int))
  have HK3 := Lib.hid (keepOnly (keepOnly (keepOnly (KeepT.of_below (S := TwoV v.c d) HB2.out) (.inr rfl) 1 (.int .i64 ((n : Int) + 1))) (.inr rfl) 2 (.int .i64 0)) (.inr rfl) 2 (.int .i64 (firstP (lnL F n) : Int)))
  have HC3 := Lib.hid (((HC.out.later HB2.out).kept (keepOnly (keepOnly (keepOnly (KeepT.refl (Only d) w2) rfl 1 (.int .i64 ((n : Int) + 1))) rfl 2 (.int .i64 0)) rfl 2 (.int .i64 (firstP (lnL F n) : Int))) (by unfold Only; exact HPP.out.1)))
  have HT3 := Lib.hid (((HT.out.later HB2.out).kept (keepOnly (keepOnly (keepOnly (KeepT.refl S w2) HPP.out.2 1 (.int .i64 ((n : Int) + 1))) HPP.out.2 2 (.int .i64 0)) HPP.out.2 2 (.int .i64 (firstP (lnL F n) : Int)))))
  clear s1
  go_wp2_with fail
  refine (HFI.out _).mono ?_
  rintro e wx ⟨rfl, rfl⟩
  go_wp2_with fail
  have x0 := HV4.out.at 0 rfl
  have x1 := HV4.out.at 1 rfl
  clear u1 u2 g1 g2 u3 g3 hcl
  generalize ((w2.setCell _ _).setCell _ _).setCell _ _ = wZ at *
  have HGZ := Lib.hid (fun (X : World) (hb : Below wZ.heap.size wZ X) => HGO.out X (HC3.out.later hb) (HT3.out.later hb))
  have HX2 := Lib.hid (Below.refl wZ.heap.size wZ)
  go_wp2_with fail
  go_region_held3 (fun w' => w'.cell? ⟨d, 0, none⟩ = some (.pointer (some ⟨v.c, 0, none⟩)) ∧ w'.cell? ⟨d, 1, none⟩ = some (.int .i64 ((n : Int) + 1)))
    (first | exact ⟨x0, x1⟩ | exact ⟨y0, y1⟩ | go_keep)
    (first
      | ((with_reducible refine (HGZ.out _ HX2.out.drew).mono ?_); rintro e w4 ⟨rfl, hw4⟩
         have HK4 := Lib.hid (show KeepT (Only v.c) wZ w4 from by rw [hw4]; exact keepOnly (S := Only v.c) (KeepT.of_below HX2.out.drew) (show Only v.c v.c from rfl) 1 _)
         have HC4 := Lib.hid (show CoreB w4 v.c t ((n : Int) + 1) last r dirty undo was held dn from by rw [hw4]; exact (HC3.out.later HX2.out.drew).set1 ((n : Int) + 1))
         have HV5 := Lib.hid (HV4.out.kept HK4.out (by unfold Only; exact fun e => HPP.out.1 e.symm))
         have y0 := HV5.out.at 0 rfl
         have y1 := HV5.out.at 1 rfl
         clear hw4)
      | (fail "no arm"))
  go_wp2_with fail
  go_returns
  exact ⟨rfl, HV5.out, HC4.out, HK3.out.trans HK4.out (fun x _ hx => .inl hx)⟩
end
end Go.Proofs.YthhihondlihebaaGreatDoor
/- A visual editor goes on with a buffer; is made (chapter 28). -/
namespace Go.Proofs.YthhihondlihebaaGreatDoor
open Go Go.Proofs Go.RowKit Go.Ink Go.Sort

section
variable {S : Nat → Prop} {w w' : World} {d : Nat}
def v0 (c : Nat) : Vis := ⟨c, 0, 0, 0, [], 0, 0, [], 0, 0, 0, 0, 0, []⟩
def visZ : List Value := (visC (v0 0)).set 0 (.pointer none)
set_option maxRecDepth 100000 in
set_option maxHeartbeats 1000000 in
theorem visTake {c t : Nat} {n : Nat} {last : List UInt8} {r : Nat} {dirty : Bool} {undo was held : Option Addr} {dn : Value} {ps : List (List Line)} {F : List Line} (h : w.heap[d]? = some (.cells visZ.toArray 74 (0, 0))) (hc : CoreB w c t ((n : Int) + 1) last r dirty undo was held dn) (ht : TabOf S w t ps) (hl : ps.length ≤ 100000) (hm : manyS ps ≤ 1000000) (hF : ps.flatten = F) (hsh : ∀ i, (lnL F i).length ≤ 1000000) (hp : n < F.length) (hcd : c ≠ d) (hSd : S d) :
    Calls Tryz.prog 43 #[.pointer (some ⟨d, 0, none⟩), .pointer (some ⟨c, 0, none⟩)] w fun e w' => e = .returned (.int .i64 0) ∧ VisB w' d { v0 c with ln := (n : Int) + 1, col := (firstP (lnL F n) : Int), mode := 1 } ∧ CoreB w' c t ((n : Int) + 1) last r dirty undo was held dn ∧ KeepT (TwoV c d) w w' := by
  have HR := Lib.hid (coreRegs_of hc)
  have u0 : w.cell? ⟨d, 0, none⟩ = some (.pointer none) := by rw [Lib.cell_of_heap h]; rfl
  have g0 : w.frozen? ⟨d, 0, none⟩ = false := Lib.frozen_of_heap h 0
  have s0 : VisB (w.setCell ⟨d, 0, none⟩ (.pointer (some ⟨c, 0, none⟩))) d (v0 c) := (heap_set h _).trans rfl
  have u1 := s0.at 3 rfl
  have g1 := s0.fz 3
  have s1 := s0.set3 1
  have u2 := s1.at 4 rfl
  have g2 := s1.fz 4
  have s2 := s1.set4 []
  have u3 := s2.at 5 rfl
  have g3 := s2.fz 5
  have HV := Lib.hid (show VisB _ d { v0 c with mode := 1 } from (heap_set (j := 5) s2 (.string ⟨#[]⟩)).trans rfl)
  have hk : ∀ (T : Nat → Prop), T d → KeepT T w (((((w.setCell ⟨d, 0, none⟩ (.pointer (some ⟨c, 0, none⟩))).setCell ⟨d, 3, none⟩ (.int .i64 1)).setCell ⟨d, 4, none⟩ (.string ⟨([] : List UInt8).toArray⟩))).setCell ⟨d, 5, none⟩ (.string ⟨#[]⟩)) := fun T hT => keepOnly (keepOnly (keepOnly (keepOnly (KeepT.refl T w) hT 0 _) hT 3 _) hT 4 _) hT 5 _
  have HK := Lib.hid (hk (TwoV c d) (.inr rfl))
  have HC := Lib.hid (hc.kept (hk (Only d) rfl) (by unfold Only; exact hcd))
  have HT := Lib.hid (ht.kept (hk S hSd))
  have HCU := Lib.hid (coreCur_of (⟨HC.out.c0, HC.out.c1, HT.out, hl, hm⟩ : CoreOf S _ c t _ ps))
  have HH := Lib.hid (visHome HV.out HC.out HT.out hl hm hF hsh hp hcd hSd)
  clear s0 s1 s2 hk h hc ht
  go_enter Tryz.func43, Tryz.ntmps43
  go_wp2_with fail
  refine HR.out.mono ?_
  rintro e _ ⟨rfl, rfl⟩
  go_wp2_with fail
  refine HCU.out.mono ?_
  rintro e _ ⟨rfl, rfl⟩
  go_wp2_with fail
  refine HH.out.mono ?_
  rintro e w1 ⟨rfl, hv, hcb, hkt⟩
  have HV1 := Lib.hid hv
  have HC1 := Lib.hid hcb
  have HK1 := Lib.hid hkt
  clear hv hcb hkt
  go_wp2_with fail
  go_returns
  exact ⟨rfl, HV1.out, HC1.out, HK.out.trans HK1.out (fun x _ hx => hx)⟩
set_option maxRecDepth 100000 in
set_option maxHeartbeats 1000000 in
theorem visNew {c t : Nat} {n : Nat} {last : List UInt8} {r : Nat} {dirty : Bool} {undo was held : Option Addr} {dn : Value} {ps : List (List Line)} {F : List Line} (hc : CoreB w c t ((n : Int) + 1) last r dirty undo was held dn) (ht : TabOf S w t ps) (hl : ps.length ≤ 100000) (hm : manyS ps ≤ 1000000) (hF : ps.flatten = F) (hsh : ∀ i, (lnL F i).length ≤ 1000000) (hp : n < F.length) (hSc : S c) :
    Calls Tryz.prog 25 #[.pointer (some ⟨c, 0, none⟩)] w fun e w' => ∃ d, e = .returned (.tuple #[.pointer (some ⟨d, 0, none⟩), .int .i64 0]) ∧ w.heap.size ≤ d ∧ VisB w' d { v0 c with ln := (n : Int) + 1, col := (firstP (lnL F n) : Int), mode := 1 } ∧ CoreB w' c t ((n : Int) + 1) last r dirty undo was held dn ∧ TabOf (fun x => S x ∨ x = d) w' t ps ∧ KeepT (Only c) w w' := by
  have hba := below_alloc w (.cells visZ.toArray 74)
  have hcw := hc.lt
  have HT := Lib.hid (visTake (d := w.heap.size) (S := fun x => S x ∨ x = w.heap.size) (heap_alloc_at w _) (hc.later hba) ((ht.apart (S' := fun x => S x ∨ x = w.heap.size) (fun j hj => hj.imp_right (fun e => Nat.le_of_eq e.symm))).later hba) hl hm hF hsh hp (by omega) (.inr rfl))
  have HTT := Lib.hid (fun (X : World) (hSc : S c) (hk : KeepT (TwoV c w.heap.size) (w.alloc (.cells visZ.toArray 74)) X) => ((ht.apart (S' := fun x => S x ∨ x = w.heap.size) (fun j hj => hj.imp_right (fun e => Nat.le_of_eq e.symm))).later hba).kept (hk.mono (fun x _ hx => hx.elim (fun e => .inl (e ▸ hSc)) .inr)))
  have HBA := Lib.hid hba
  clear hba
  go_enter Tryz.func25, Tryz.ntmps25
  go_wp2_with fail
  refine HT.out.mono ?_
  rintro e w1 ⟨rfl, hv, hcb, hkt⟩
  have HV1 := Lib.hid hv
  have HC1 := Lib.hid hcb
  have HK1 := Lib.hid hkt
  clear hv hcb hkt
  go_wp2_with fail
  go_returns
  exact ⟨w.heap.size, rfl, Nat.le_refl _, HV1.out, HC1.out, HTT.out _ hSc HK1.out, (KeepT.of_below (S := Only c) HBA.out).trans HK1.out (fun x hx h => h.elim id (fun e => by omega))⟩
end
end Go.Proofs.YthhihondlihebaaGreatDoor
/- A buffer of one line, and a visual editor of it (chapter 28). -/
namespace Go.Proofs.YthhihondlihebaaGreatDoor
open Go Go.Proofs Go.RowKit Go.Ink Go.Sort

/-- What an editor's table stands apart from. -/
def VSt (B c d : Nat) (y : Nat) : Prop := y < B ∨ y = c ∨ y = d
theorem core_not_regs {w : World} {c t : Nat} {cur : Int} {last : List UInt8} {r : Nat} {dirty : Bool} {undo was held : Option Addr} {dn : Value} (h : CoreB w c t cur last r dirty undo was held dn) : ∀ k, Only c k → k < w.heap.size → ∃ cs T fr, w.heap[k]? = some (.cells cs T fr) ∧ T ≠ 98 := fun k hk _ => by
  obtain rfl : k = c := hk
  exact ⟨_, _, _, h, by decide⟩
theorem vis_not_regs {w : World} {c d t : Nat} {cur : Int} {last : List UInt8} {r : Nat} {dirty : Bool} {undo was held : Option Addr} {dn : Value} {v : Vis} (h : CoreB w c t cur last r dirty undo was held dn) (hv : VisB w d v) : ∀ k, TwoV c d k → k < w.heap.size → ∃ cs T fr, w.heap[k]? = some (.cells cs T fr) ∧ T ≠ 98 := fun k hk _ => by
  rcases hk with rfl | rfl
  · exact ⟨_, _, _, h, by decide⟩
  · exact ⟨_, _, _, hv, by decide⟩
theorem ofS_sing (l : List Line) : (ofS [l]).flatten = l := by rw [ofS_flat]; simp
section
variable {w w' : World}
set_option maxRecDepth 100000 in
set_option maxHeartbeats 1000000 in
theorem visBegun (x : Line) (ao : Option Addr) (cap : Nat) (hl : SlOf IsStr w ao cap [x]) (h0 : checkL [x] = 0) (hx : x.length ≤ 1000000) :
    Calls Tryz.prog 8 #[.slice ao 1 cap] w fun e w' => ∃ c d t r, e = .returned (.tuple #[.pointer (some ⟨c, 0, none⟩), .pointer (some ⟨d, 0, none⟩)]) ∧
      VisB w' d { v0 c with ln := 1, col := (firstP x : Int), mode := 1 } ∧ CoreB w' c t 1 [] r false none none none (.slice none 0 0) ∧ TabOf (VSt w.heap.size c d) w' t (ofS [[x]]) ∧ NewRegs w' r ∧ w.heap.size ≤ c ∧ c < d ∧ Below w.heap.size w w' := by
  have HNW := Lib.hid (coreNew_apartB [x] ao cap w hl (by simp) h0)
  have HF := Lib.hid (ofS_sing [x])
  have HML := Lib.hid (show manyS (ofS [[x]]) = 1 by rw [manyS_flat, ofS_sing]; rfl)
  have HPL := Lib.hid (show (ofS [[x]]).length ≤ 100000 from Nat.le_trans (ofS_len _) (by simp))
  have HSH := Lib.hid (show ∀ i, (lnL [x] i).length ≤ 1000000 from fun i => by
    cases i with
    | zero => exact hx
    | succ i => simp [lnL])
  clear hl h0 hx
  go_enter Tryz.func8, Tryz.ntmps8
  go_wp2_with fail
  refine HNW.out.mono ?_
  rintro e w1 ⟨c, t, r, rfl, ht, hc, hr, hcl, hb1⟩
  have hr' := hr.kept (S := fun _ => False) (KeepT.refl _ _) (fun _ h => h.elim)
  have HG := Lib.hid (coreGo_of (⟨hc.c0, hc.c1, ht, HPL.out, by rw [HML.out]; omega⟩ : CoreOf _ w1 c t _ _) hc 1 (by rw [HML.out]; omega))
  have hkc : KeepT (Only c) w1 (w1.setCell ⟨c, 1, none⟩ (.int .i64 ((1 : Nat) : Int))) := keepOnly (S := Only c) (KeepT.refl _ _) (show Only c c from rfl) 1 _
  have HC := Lib.hid (hc.set1 ((1 : Nat) : Int))
  have HT := Lib.hid (ht.kept (hkc.mono (fun y _ hy => Or.inr hy)))
  have HR := Lib.hid (hr'.kept hkc (core_not_regs hc))
  have HB := Lib.hid (show Below w.heap.size w (w1.setCell ⟨c, 1, none⟩ (.int .i64 ((1 : Nat) : Int))) from hb1.trans (hkc.below hb1.size (fun i hi => by have : i = c := hi; omega)))
  have HCL := Lib.hid hcl
  have HN := Lib.hid (visNew (n := 0) HC.out HT.out HPL.out (by rw [HML.out]; omega) HF.out HSH.out (by simp) (.inr rfl))
  clear ht hc hr hr' hkc hcl hb1
  generalize w1.setCell _ _ = w2 at *
  go_wp2_with fail
  refine HG.out.mono ?_
  rintro e w3 ⟨rfl, h3⟩
  obtain rfl : w3 = w2 := h3
  go_wp2_with fail
  refine HN.out.mono ?_
  rintro e w4 ⟨d, rfl, hd, hv, hc, ht, hk⟩
  have HV := Lib.hid hv
  have HC4 := Lib.hid hc
  have HT4 := Lib.hid (show TabOf (VSt w.heap.size c d) w4 t (ofS [[x]]) from ht.apart (fun y hy => .inl (by rcases hy with h | h | h; exact .inl (.inl h); exact .inl (.inr h); exact .inr h)))
  have HR4 := Lib.hid (HR.out.kept hk (core_not_regs HC.out))
  have HB4 := Lib.hid (HB.out.trans (hk.below HB.out.size (fun i hi => by have : i = c := hi; have := HCL.out; omega)))
  have hcd : c < d := Nat.lt_of_lt_of_le HC.out.lt hd
  clear hv hc ht hk
  go_wp2_with fail
  go_returns
  exact ⟨c, d, t, r, rfl, HV.out, HC4.out, HT4.out, HR4.out, HCL.out, hcd, HB4.out⟩
end
end Go.Proofs.YthhihondlihebaaGreatDoor
