/- The walks of the laws' made, shown and does. -/
import Derived.Test.YtgfcnafhfgncoaaDoorVtP0
import Derived.Test.YtgfcnafhfgncoaaDoorText
import Derived.Deep.RegionHeld3
namespace Go.Proofs.YtgfcnafhfgncoaaDoor
open Go Go.Proofs Go.RowKit Go.Ink

set_option maxRecDepth 100000 in
theorem made_any (m n : UInt8) (w : World) :
    Calls Tryd.prog 18 #[.int .u8 (m.toNat : Int), .int .u8 (n.toNat : Int)] w (VtNew w (2 + m.toNat % 59) (8 + n.toNat % 125)) := by
  have h1 : (2 : Int) + ((m.toNat : Int) % 59) = ((2 + m.toNat % 59 : Nat) : Int) := by omega
  have h2 : (8 : Int) + ((n.toNat : Int) % 125) = ((8 + n.toNat % 125 : Nat) : Int) := by omega
  have HN := Lib.hid (vtNew_yes (2 + m.toNat % 59) (8 + n.toNat % 125) w (by omega) (by omega) (by omega) (by omega))
  have hm := m.toNat_lt
  have hn := n.toNat_lt
  have H1 := Lib.hid h1
  have H2 := Lib.hid h2
  clear h1 h2
  have hm0 : (0 : Int) ≤ (m.toNat : Int) := by omega
  have hn0 : (0 : Int) ≤ (n.toNat : Int) := by omega
  go_enter Tryd.func18, Tryd.ntmps18
  go_wp2_with fail
  rw [H1.out, H2.out]
  refine HN.out.mono ?_
  rintro e w1 ⟨v, gr, cap, ga, os, rfl, hv, hb⟩
  have HV := Lib.hid hv
  have HB := Lib.hid hb
  clear hv hb HN
  go_wp2_with fail
  go_returns
  exact ⟨v, gr, cap, ga, os, rfl, HV.out, HB.out⟩
set_option maxRecDepth 100000 in
set_option maxHeartbeats 1000000 in
/-- What a terminal shows behind what is written. -/
theorem shown_any (rows cols : Nat) (s : List UInt8) (w : World) (h1 : 2 ≤ rows ∧ rows ≤ 60) (h2 : 8 ≤ cols ∧ cols ≤ 132) (hs : s.length ≤ 1000000) (hm : MaxAt w) :
    Calls Tryd.prog 27 #[.int .i64 rows, .int .i64 cols, .string ⟨s.toArray⟩] w fun e w' => ∃ v, e = .returned (.tuple #[v, .agg #[.int .i64 (((Tm.start rows cols).feed s).row : Int), .int .i64 (((Tm.start rows cols).feed s).col : Int)]]) ∧ OwnStrs w' w.heap.size v ((Tm.start rows cols).feed s).cells ∧ Below w.heap.size w w' := by
  have hg0 := start_good h1 h2
  have HG := Lib.hid (hg0.feed s)
  have HG0 := Lib.hid hg0
  have HM := Lib.hid hm
  have hpar : (Tm.start rows cols).par.length + s.length ≤ 1000000 := by simpa [Tm.start] using hs
  have HP := Lib.hid hpar
  have HN := Lib.hid (fun W => vtNew_yes rows cols W h1.1 h1.2 h2.1 h2.2)
  obtain ⟨T, hT⟩ : ∃ T, (Tm.start rows cols).feed s = T := ⟨_, rfl⟩
  rw [hT] at HG ⊢
  clear hm hpar hg0
  have HT := Lib.hid hT
  clear hT
  go_enter Tryd.func27, Tryd.ntmps27
  go_wp2_with fail
  refine (HN.out _).mono ?_
  rintro e w1 ⟨v, gr, cap, ga, os, rfl, hv, hb⟩
  have hb0 : Below w.heap.size w (w.alloc (.cells #[.int .i64 0, .int .i64 0] 62)) := (Below.refl _ _).alloc (Nat.le_refl _) _
  have HR1 : Hid (w1.heap[w.heap.size]? = some (.cells #[.int .i64 0, .int .i64 0] 62 (0, 0))) := Lib.hid ((hb.block _ (by simp)).trans (heap_alloc_new _ _))
  have HB1 : Hid (Below w.heap.size w w1) := Lib.hid (hb0.trans (hb.mono (by simp)))
  have HF := Lib.hid (feed_any hv HG0.out s HP.out (HM.out.later HB1.out) (by have := max_lt HM.out; simp <;> omega))
  have HV := Lib.hid hv
  clear hv hb hb0 HN
  go_wp2_with fail
  refine HF.out.mono ?_
  rintro e w2 ⟨rfl, hst⟩
  have hb2 := hst.below HV.out
  rw [HT.out] at hst
  obtain ⟨os2, pv2, hv2, hk2, _⟩ := hst
  have HR2 : Hid (w2.heap[w.heap.size]? = some (.cells #[.int .i64 0, .int .i64 0] 62 (0, 0))) := Lib.hid ((hb2.block _ (by simp)).trans HR1.out)
  have HB2 : Hid (Below w.heap.size w w2) := Lib.hid (HB1.out.trans (hb2.mono (by simp)))
  have HGR := Lib.hid (grid_any hv2 HG.out)
  clear hv2 hk2 hb2 HF HV HR1 HB1
  go_wp2_with fail
  refine HGR.out.mono ?_
  rintro e w3 ⟨g3, bs, rfl, hg3, hO, hb3⟩
  have HR3 : Hid (w3.heap[w.heap.size]? = some (.cells #[.int .i64 0, .int .i64 0] 62 (0, 0))) := Lib.hid ((hb3.block _ (lt_of_heap HR2.out)).trans HR2.out)
  have HB3 : Hid (Below w.heap.size w w3) := Lib.hid (HB2.out.trans (hb3.mono HB2.out.size))
  have HS3 := Lib.hid hO.sl
  clear hO hb3 hg3 HGR HB2 HR2
  have HGN := Lib.hid (show T.grd.cells.length ≤ 1000000 by show T.cells.length ≤ _; have := HG.out.many; have := HG.out.rows; omega)
  have HTX := Lib.hid (fun W (h : Below w3.heap.size w3 W) => text_any T.grd _ _ W (HS3.out.later lasts_bytes h) HGN.out)
  have HTE := Lib.hid (show T.grd.row = (T.row : Int) ∧ T.grd.col = (T.col : Int) ∧ T.grd.cells = T.cells from ⟨rfl, rfl, rfl⟩)
  generalize T.grd = g at *
  unfold gridV at HTX ⊢
  go_wp2_with fail
  have hbx : BoxAt (w3.alloc (.cells #[.int .i64 g.rows, .int .i64 g.cols, .slice (some ⟨g3, 0, none⟩) g.cells.length g.cells.length, .int .i64 g.row, .int .i64 g.col] 34 (0, 0))) w3.heap.size g (some ⟨g3, 0, none⟩) g.cells.length := heap_alloc_new w3 _
  have hb4 : Below w3.heap.size w3 (w3.alloc (.cells #[.int .i64 g.rows, .int .i64 g.cols, .slice (some ⟨g3, 0, none⟩) g.cells.length g.cells.length, .int .i64 g.row, .int .i64 g.col] 34 (0, 0))) := (Below.refl _ _).alloc (Nat.le_refl _) _
  obtain ⟨w4, hw4⟩ : ∃ w4, w3.alloc (.cells #[.int .i64 g.rows, .int .i64 g.cols, .slice (some ⟨g3, 0, none⟩) g.cells.length g.cells.length, .int .i64 g.row, .int .i64 g.col] 34) = w4 := ⟨_, rfl⟩
  rw [hw4] at hbx hb4 ⊢
  have HX4 := Lib.hid hbx
  have HB4 := Lib.hid hb4
  have HR4 : Hid (w4.heap[w.heap.size]? = some (.cells #[.int .i64 0, .int .i64 0] 62 (0, 0))) := Lib.hid ((hb4.block _ (lt_of_heap HR3.out)).trans HR3.out)
  have HBB4 : Hid (Below w.heap.size w w4) := Lib.hid (HB3.out.trans (hb4.mono HB3.out.size))
  have HTX4 := Lib.hid (HTX.out w4.drew hb4.drew)
  obtain ⟨x, hx⟩ : ∃ x, w3.heap.size = x := ⟨_, rfl⟩
  rw [hx] at HX4 ⊢
  have hxne : ¬ x = w.heap.size := by have := lt_of_heap HR3.out; omega
  have hxne' : ¬ w.heap.size = x := by omega
  obtain ⟨b0, b1, b2, b3, b4⟩ := HX4.out.cells
  have HX4d : Hid (BoxAt w4.drew x g (some ⟨g3, 0, none⟩) g.cells.length) := HX4
  clear hbx hb4 hw4 HTX HR3 HB3 hx HB4
  go_region_held3 (fun w' => w'.cell? ⟨x, 0, none⟩ = some (.int .i64 g.rows) ∧ w'.cell? ⟨x, 1, none⟩ = some (.int .i64 g.cols) ∧ w'.cell? ⟨x, 2, none⟩ = some (.slice (some ⟨g3, 0, none⟩) g.cells.length g.cells.length) ∧ w'.cell? ⟨x, 3, none⟩ = some (.int .i64 g.row) ∧ w'.cell? ⟨x, 4, none⟩ = some (.int .i64 g.col))
    (first | exact ⟨b0, b1, b2, b3, b4⟩ | exact ⟨b0', b1', b2', b3', b4'⟩ | go_keep)
    (first | (go_at_call 43; refine HTX4.out.mono ?_; rintro e w5 ⟨v5, rfl, ho5, hb5⟩; obtain ⟨a5, c5, hv5⟩ := ownsRow_shape ho5; subst hv5; obtain ⟨b0', b1', b2', b3', b4'⟩ := (HX4d.out.later hb5).cells; have HR5 := Lib.hid ((hb5.block w.heap.size (lt_of_heap HR4.out)).trans HR4.out); have d0 := Lib.cell_of_heap HR5.out 0; have d1 := Lib.cell_of_heap HR5.out 1; simp only [List.getElem?_toArray, List.getElem?_cons_succ, List.getElem?_cons_zero] at d0 d1; have f0 := Lib.frozen_of_heap HR5.out 0; have f1 := Lib.frozen_of_heap HR5.out 1; have HO5 := Lib.hid ho5; have HB5 := Lib.hid hb5; clear ho5 hb5) | (fail "no arm"))
  go_wp2_with fail
  have z1 := heap_set (j := 1) (heap_set (j := 0) HR5.out (.int .i64 g.row)) (.int .i64 g.col)
  have s0 := Lib.cell_of_heap z1 0
  have s1 := Lib.cell_of_heap z1 1
  simp only [List.setIfInBounds_toArray, List.set_cons_zero, List.set_cons_succ, List.getElem?_toArray, List.getElem?_cons_zero, List.getElem?_cons_succ] at s0 s1
  have HK : Hid (KeepT (fun i => i = w.heap.size) w5 ((w5.setCell ⟨w.heap.size, 0, none⟩ (.int .i64 g.row)).setCell ⟨w.heap.size, 1, none⟩ (.int .i64 g.col))) :=
    Lib.hid (((KeepT.refl (fun i => i = w.heap.size) w5).setCell (p := ⟨w.heap.size, 0, none⟩) (.inl rfl) _).setCell (p := ⟨w.heap.size, 1, none⟩) (.inl rfl) _)
  have hsz4 : w.heap.size < w4.heap.size := lt_of_heap HR4.out
  refine bodyPost_ret (v := .tuple #[.slice a5 g.cells.length c5, .agg #[.int .i64 g.row, .int .i64 g.col]]) (by simp [results, Tryd.results27, go_sem, s0, s1]) rfl ?_
  obtain ⟨e1, e2, e3⟩ := HTE.out
  rw [← e1, ← e2, ← e3]
  have hB5 : Below w.heap.size w w5 := HBB4.out.drew.trans (HB5.out.mono (Nat.le_of_lt hsz4))
  refine ⟨_, rfl, ?_, hB5.trans (HK.out.below hB5.size (fun i e => by omega))⟩
  have ho : OwnStrs w5 w4.heap.size (.slice a5 g.cells.length c5) g.cells := HO5.out
  exact ownsRow_base (ownsRow_kept HK.out ho (fun b e e' => by have := (World.ownsRow.lt ho b e).1; omega)) (by omega)
/-- Two texts that are written down. -/
theorem lit2 (w : World) (a b : List UInt8) : SlOf IsStr (w.alloc (.cells #[.string ⟨a.toArray⟩, .string ⟨b.toArray⟩] 9 (0, 0))) (some ⟨w.heap.size, 0, none⟩) 2 [a, b] := by
  have hh : (w.alloc (.cells #[.string ⟨a.toArray⟩, .string ⟨b.toArray⟩] 9 (0, 0))).heap[w.heap.size]? = _ := heap_alloc_new w _
  refine ⟨by simp, by simp [maxLen], by simp, fun k x hk => ⟨w.heap.size, 0, .string ⟨x.toArray⟩, rfl, ?_, rfl⟩⟩
  rw [Lib.cell_of_heap hh, Nat.zero_add]
  match k, hk with
  | 0, hk => injection hk with hk; subst hk; rfl
  | 1, hk => injection hk with hk; subst hk; rfl
theorem shown_lit (s : List UInt8) (cs : List (List UInt8)) (r c : Int) (w : World) (hs : s.length ≤ 1000000) (hm : MaxAt w) (h : ((Tm.start 2 8).feed s).cells = cs ∧ (((Tm.start 2 8).feed s).row : Int) = r ∧ (((Tm.start 2 8).feed s).col : Int) = c) :
    Calls Tryd.prog 27 #[.int .i64 2, .int .i64 8, .string ⟨s.toArray⟩] w fun e w' => ∃ ao cap, e = .returned (.tuple #[.slice ao cs.length cap, .agg #[.int .i64 r, .int .i64 c]]) ∧ SlOf IsStr w' ao cap cs ∧ Below w.heap.size w w' := by
  have h0 := shown_any 2 8 s w (by decide) (by decide) hs hm
  rw [h.1, h.2.1, h.2.2] at h0
  refine h0.mono ?_
  rintro e w' ⟨v, rfl, ho, hb⟩
  obtain ⟨ao, cap, rfl, hsl⟩ := ho.slOf
  exact ⟨ao, cap, rfl, hsl, hb⟩
theorem same_lit (cs : List (List UInt8)) (ao1 ao2 : Option Addr) (c1 c2 : Nat) (w : World) (h1 : SlOf IsStr w ao1 c1 cs) (h2 : SlOf IsStr w ao2 c2 cs) :
    Calls Tryd.prog 28 #[.slice ao1 cs.length c1, .slice ao2 cs.length c2] w fun e w' => e = .returned (.bool true) ∧ Below w.heap.size w w' := by
  have h := same_any cs cs ao1 ao2 c1 c2 w h1 h2
  rw [sameS_self] at h
  refine h.mono ?_
  rintro e w' ⟨he, n, rfl⟩
  exact ⟨he, below_drewN (Below.refl _ _) n⟩
theorem vex1 : ((Tm.start 2 8).feed [97, 10, 98, 10, 99]).cells = [[32, 98, 32, 32, 32, 32, 32, 32], [32, 32, 99, 32, 32, 32, 32, 32]] ∧ (((Tm.start 2 8).feed [97, 10, 98, 10, 99]).row : Int) = 1 ∧ (((Tm.start 2 8).feed [97, 10, 98, 10, 99]).col : Int) = 3 := by decide +kernel
theorem vex2 : ((Tm.start 2 8).feed [27, 91, 50, 59, 51, 72, 120, 27, 91, 65, 27, 91, 68, 121]).cells = [[32, 32, 121, 32, 32, 32, 32, 32], [32, 32, 120, 32, 32, 32, 32, 32]] ∧ (((Tm.start 2 8).feed [27, 91, 50, 59, 51, 72, 120, 27, 91, 65, 27, 91, 68, 121]).row : Int) = 0 ∧ (((Tm.start 2 8).feed [27, 91, 50, 59, 51, 72, 120, 27, 91, 65, 27, 91, 68, 121]).col : Int) = 3 := by decide +kernel
theorem vex3 : ((Tm.start 2 8).feed [49, 50, 51, 52, 53, 54, 55, 56, 57]).cells = [[49, 50, 51, 52, 53, 54, 55, 57], [32, 32, 32, 32, 32, 32, 32, 32]] ∧ (((Tm.start 2 8).feed [49, 50, 51, 52, 53, 54, 55, 56, 57]).row : Int) = 0 ∧ (((Tm.start 2 8).feed [49, 50, 51, 52, 53, 54, 55, 56, 57]).col : Int) = 7 := by decide +kernel
theorem vex4 : ((Tm.start 2 8).feed [97, 98, 27, 91, 68, 27, 91, 75, 27, 91, 63, 49, 74, 122]).cells = [[97, 122, 32, 32, 32, 32, 32, 32], [32, 32, 32, 32, 32, 32, 32, 32]] ∧ (((Tm.start 2 8).feed [97, 98, 27, 91, 68, 27, 91, 75, 27, 91, 63, 49, 74, 122]).row : Int) = 0 ∧ (((Tm.start 2 8).feed [97, 98, 27, 91, 68, 27, 91, 75, 27, 91, 63, 49, 74, 122]).col : Int) = 2 := by decide +kernel
def pairV (r c : Int) : Array Value := #[.int .i64 r, .int .i64 c]
/-- A pair's box stands. -/
def PairAt (w : World) (b : Nat) (r c : Int) : Prop := w.heap[b]? = some (.cells #[.int .i64 r, .int .i64 c] 62 (0, 0))
theorem PairAt.later {w w' : World} {b : Nat} {r c : Int} (h : PairAt w b r c) (hb : Below w.heap.size w w') : PairAt w' b r c := (hb.block b (lt_of_heap h)).trans h
theorem PairAt.cells {w : World} {b : Nat} {r c : Int} (h : PairAt w b r c) : w.cell? ⟨b, 0, none⟩ = some (.int .i64 r) ∧ w.cell? ⟨b, 1, none⟩ = some (.int .i64 c) := by
  refine ⟨?_, ?_⟩ <;> rw [Lib.cell_of_heap h] <;> rfl
theorem pair_eq13 (w : World) : Sem.run Tryd.prog (Op.equalIn 10000 62 (.agg #[.int .i64 1, .int .i64 3]) (.agg #[.int .i64 1, .int .i64 3])) w = .ok true w := by kernel_rfl
theorem pair_eq03 (w : World) : Sem.run Tryd.prog (Op.equalIn 10000 62 (.agg #[.int .i64 0, .int .i64 3]) (.agg #[.int .i64 0, .int .i64 3])) w = .ok true w := by kernel_rfl
theorem pair_eq07 (w : World) : Sem.run Tryd.prog (Op.equalIn 10000 62 (.agg #[.int .i64 0, .int .i64 7]) (.agg #[.int .i64 0, .int .i64 7])) w = .ok true w := by kernel_rfl
theorem pair_eq02 (w : World) : Sem.run Tryd.prog (Op.equalIn 10000 62 (.agg #[.int .i64 0, .int .i64 2]) (.agg #[.int .i64 0, .int .i64 2])) w = .ok true w := by kernel_rfl
theorem lit2' (w : World) (n : Nat) (hn : w.heap.size = n) (a b : List UInt8) : SlOf IsStr (w.alloc (.cells #[.string ⟨a.toArray⟩, .string ⟨b.toArray⟩] 9 (0, 0))) (some ⟨n, 0, none⟩) 2 [a, b] := by
  subst hn; exact lit2 w a b
set_option maxRecDepth 100000 in
set_option maxHeartbeats 2000000 in
/-- The chapter's examples come out. -/
theorem does_any (w : World) (hm : MaxAt w) : Calls Tryd.prog 13 #[] w fun e w' => e = .returned (.bool true) ∧ Below w.heap.size w w' := by
  have HM := Lib.hid hm; clear hm
  have HB0 := Lib.hid (Below.refl w.heap.size w)
  go_enter Tryd.func13, Tryd.ntmps13
  go_wp2_with fail
  refine (shown_lit _ _ _ _ _ (by decide) (HM.out.later HB0.out) vex1).mono ?_
  rintro e w1 ⟨ao1, cap1, rfl, hs1, hb1⟩
  have HS1 := Lib.hid (hs1.later lasts_str ((Below.refl w1.heap.size w1).alloc (Nat.le_refl _) (.cells #[.int .i64 1, .int .i64 3] 62 (0, 0))))
  have HP1 := Lib.hid (show PairAt (w1.alloc (.cells #[.int .i64 1, .int .i64 3] 62 (0, 0))) w1.heap.size 1 3 from heap_alloc_new w1 _)
  have HB1' := Lib.hid (HB0.out.trans (hb1.mono HB0.out.size))
  have HB1 := Lib.hid (HB1'.out.alloc HB1'.out.size (.cells #[.int .i64 1, .int .i64 3] 62 (0, 0)))
  clear hs1 hb1
  go_wp2_with fail
  refine (shown_lit _ _ _ _ _ (by decide) (HM.out.later HB1.out) vex2).mono ?_
  rintro e w2 ⟨ao2, cap2, rfl, hs2, hb2⟩
  have HS2 := Lib.hid (hs2.later lasts_str ((Below.refl w2.heap.size w2).alloc (Nat.le_refl _) (.cells #[.int .i64 0, .int .i64 3] 62 (0, 0))))
  have HP2 := Lib.hid (show PairAt (w2.alloc (.cells #[.int .i64 0, .int .i64 3] 62 (0, 0))) w2.heap.size 0 3 from heap_alloc_new w2 _)
  have HB2' := Lib.hid (HB1.out.trans (hb2.mono HB1.out.size))
  have HB2 := Lib.hid (HB2'.out.alloc HB2'.out.size (.cells #[.int .i64 0, .int .i64 3] 62 (0, 0)))
  have HS1 := Lib.hid ((HS1.out.later lasts_str hb2).later lasts_str ((Below.refl w2.heap.size w2).alloc (Nat.le_refl _) (.cells #[.int .i64 0, .int .i64 3] 62 (0, 0))))
  have HP1 := Lib.hid ((HP1.out.later hb2).later ((Below.refl w2.heap.size w2).alloc (Nat.le_refl _) (.cells #[.int .i64 0, .int .i64 3] 62 (0, 0))))
  clear hs2 hb2
  go_wp2_with fail
  refine (shown_lit _ _ _ _ _ (by decide) (HM.out.later HB2.out) vex3).mono ?_
  rintro e w3 ⟨ao3, cap3, rfl, hs3, hb3⟩
  have HS3 := Lib.hid (hs3.later lasts_str ((Below.refl w3.heap.size w3).alloc (Nat.le_refl _) (.cells #[.int .i64 0, .int .i64 7] 62 (0, 0))))
  have HP3 := Lib.hid (show PairAt (w3.alloc (.cells #[.int .i64 0, .int .i64 7] 62 (0, 0))) w3.heap.size 0 7 from heap_alloc_new w3 _)
  have HB3' := Lib.hid (HB2.out.trans (hb3.mono HB2.out.size))
  have HB3 := Lib.hid (HB3'.out.alloc HB3'.out.size (.cells #[.int .i64 0, .int .i64 7] 62 (0, 0)))
  have HS1 := Lib.hid ((HS1.out.later lasts_str hb3).later lasts_str ((Below.refl w3.heap.size w3).alloc (Nat.le_refl _) (.cells #[.int .i64 0, .int .i64 7] 62 (0, 0))))
  have HP1 := Lib.hid ((HP1.out.later hb3).later ((Below.refl w3.heap.size w3).alloc (Nat.le_refl _) (.cells #[.int .i64 0, .int .i64 7] 62 (0, 0))))
  have HS2 := Lib.hid ((HS2.out.later lasts_str hb3).later lasts_str ((Below.refl w3.heap.size w3).alloc (Nat.le_refl _) (.cells #[.int .i64 0, .int .i64 7] 62 (0, 0))))
  have HP2 := Lib.hid ((HP2.out.later hb3).later ((Below.refl w3.heap.size w3).alloc (Nat.le_refl _) (.cells #[.int .i64 0, .int .i64 7] 62 (0, 0))))
  clear hs3 hb3
  go_wp2_with fail
  refine (shown_lit _ _ _ _ _ (by decide) (HM.out.later HB3.out) vex4).mono ?_
  rintro e w4 ⟨ao4, cap4, rfl, hs4, hb4⟩
  have HS4 := Lib.hid (hs4.later lasts_str ((Below.refl w4.heap.size w4).alloc (Nat.le_refl _) (.cells #[.int .i64 0, .int .i64 2] 62 (0, 0))))
  have HP4 := Lib.hid (show PairAt (w4.alloc (.cells #[.int .i64 0, .int .i64 2] 62 (0, 0))) w4.heap.size 0 2 from heap_alloc_new w4 _)
  have HB4' := Lib.hid (HB3.out.trans (hb4.mono HB3.out.size))
  have HB4 := Lib.hid (HB4'.out.alloc HB4'.out.size (.cells #[.int .i64 0, .int .i64 2] 62 (0, 0)))
  have HS1 := Lib.hid ((HS1.out.later lasts_str hb4).later lasts_str ((Below.refl w4.heap.size w4).alloc (Nat.le_refl _) (.cells #[.int .i64 0, .int .i64 2] 62 (0, 0))))
  have HP1 := Lib.hid ((HP1.out.later hb4).later ((Below.refl w4.heap.size w4).alloc (Nat.le_refl _) (.cells #[.int .i64 0, .int .i64 2] 62 (0, 0))))
  have HS2 := Lib.hid ((HS2.out.later lasts_str hb4).later lasts_str ((Below.refl w4.heap.size w4).alloc (Nat.le_refl _) (.cells #[.int .i64 0, .int .i64 2] 62 (0, 0))))
  have HP2 := Lib.hid ((HP2.out.later hb4).later ((Below.refl w4.heap.size w4).alloc (Nat.le_refl _) (.cells #[.int .i64 0, .int .i64 2] 62 (0, 0))))
  have HS3 := Lib.hid ((HS3.out.later lasts_str hb4).later lasts_str ((Below.refl w4.heap.size w4).alloc (Nat.le_refl _) (.cells #[.int .i64 0, .int .i64 2] 62 (0, 0))))
  have HP3 := Lib.hid ((HP3.out.later hb4).later ((Below.refl w4.heap.size w4).alloc (Nat.le_refl _) (.cells #[.int .i64 0, .int .i64 2] 62 (0, 0))))
  clear hs4 hb4
  go_wp2_with fail
  have hal1 := (Below.refl (w4.alloc (.cells #[.int .i64 0, .int .i64 2] 62 (0, 0))).heap.size (w4.alloc (.cells #[.int .i64 0, .int .i64 2] 62 (0, 0)))).alloc (Nat.le_refl _) (.cells #[.string ⟨#[32, 98, 32, 32, 32, 32, 32, 32]⟩, .string ⟨#[32, 32, 99, 32, 32, 32, 32, 32]⟩] 9 (0, 0))
  refine (same_lit [[32, 98, 32, 32, 32, 32, 32, 32], [32, 32, 99, 32, 32, 32, 32, 32]] _ _ _ _ _ (HS1.out.later lasts_str hal1) (lit2' (w4.alloc (.cells #[.int .i64 0, .int .i64 2] 62 (0, 0))) _ (by first | rfl | simp) [32, 98, 32, 32, 32, 32, 32, 32] [32, 32, 99, 32, 32, 32, 32, 32])).mono ?_
  rintro e x1 ⟨rfl, hx1⟩
  have hbx1 := hal1.trans (hx1.mono (by first | exact Nat.le_refl _ | simp))
  have HC1 := Lib.hid (HB4.out.trans (hbx1.mono HB4.out.size))
  have HP1 := Lib.hid (HP1.out.later hbx1)
  have HP2 := Lib.hid (HP2.out.later hbx1)
  have HP3 := Lib.hid (HP3.out.later hbx1)
  have HP4 := Lib.hid (HP4.out.later hbx1)
  have HS2 := Lib.hid (HS2.out.later lasts_str hbx1)
  have HS3 := Lib.hid (HS3.out.later lasts_str hbx1)
  have HS4 := Lib.hid (HS4.out.later lasts_str hbx1)
  obtain ⟨p0, p1⟩ := HP1.out.cells
  have hq1 := pair_eq13 x1
  clear hal1 hx1 hbx1
  go_wp2_with fail
  clear p0 p1
  have hal2 := (Below.refl x1.heap.size x1).alloc (Nat.le_refl _) (.cells #[.string ⟨#[32, 32, 121, 32, 32, 32, 32, 32]⟩, .string ⟨#[32, 32, 120, 32, 32, 32, 32, 32]⟩] 9 (0, 0))
  refine (same_lit [[32, 32, 121, 32, 32, 32, 32, 32], [32, 32, 120, 32, 32, 32, 32, 32]] _ _ _ _ _ (HS2.out.later lasts_str hal2) (lit2' x1 _ (by first | rfl | simp) [32, 32, 121, 32, 32, 32, 32, 32] [32, 32, 120, 32, 32, 32, 32, 32])).mono ?_
  rintro e x2 ⟨rfl, hx2⟩
  have hbx2 := hal2.trans (hx2.mono (by first | exact Nat.le_refl _ | simp))
  have HC2 := Lib.hid (HC1.out.trans (hbx2.mono HC1.out.size))
  have HP2 := Lib.hid (HP2.out.later hbx2)
  have HP3 := Lib.hid (HP3.out.later hbx2)
  have HP4 := Lib.hid (HP4.out.later hbx2)
  have HS3 := Lib.hid (HS3.out.later lasts_str hbx2)
  have HS4 := Lib.hid (HS4.out.later lasts_str hbx2)
  obtain ⟨p0, p1⟩ := HP2.out.cells
  have hq2 := pair_eq03 x2
  clear hal2 hx2 hbx2
  go_wp2_with fail
  clear p0 p1
  have hal3 := (Below.refl x2.heap.size x2).alloc (Nat.le_refl _) (.cells #[.string ⟨#[49, 50, 51, 52, 53, 54, 55, 57]⟩, .string ⟨#[32, 32, 32, 32, 32, 32, 32, 32]⟩] 9 (0, 0))
  refine (same_lit [[49, 50, 51, 52, 53, 54, 55, 57], [32, 32, 32, 32, 32, 32, 32, 32]] _ _ _ _ _ (HS3.out.later lasts_str hal3) (lit2' x2 _ (by first | rfl | simp) [49, 50, 51, 52, 53, 54, 55, 57] [32, 32, 32, 32, 32, 32, 32, 32])).mono ?_
  rintro e x3 ⟨rfl, hx3⟩
  have hbx3 := hal3.trans (hx3.mono (by first | exact Nat.le_refl _ | simp))
  have HC3 := Lib.hid (HC2.out.trans (hbx3.mono HC2.out.size))
  have HP3 := Lib.hid (HP3.out.later hbx3)
  have HP4 := Lib.hid (HP4.out.later hbx3)
  have HS4 := Lib.hid (HS4.out.later lasts_str hbx3)
  obtain ⟨p0, p1⟩ := HP3.out.cells
  have hq3 := pair_eq07 x3
  clear hal3 hx3 hbx3
  go_wp2_with fail
  clear p0 p1
  have hal4 := (Below.refl x3.heap.size x3).alloc (Nat.le_refl _) (.cells #[.string ⟨#[97, 122, 32, 32, 32, 32, 32, 32]⟩, .string ⟨#[32, 32, 32, 32, 32, 32, 32, 32]⟩] 9 (0, 0))
  refine (same_lit [[97, 122, 32, 32, 32, 32, 32, 32], [32, 32, 32, 32, 32, 32, 32, 32]] _ _ _ _ _ (HS4.out.later lasts_str hal4) (lit2' x3 _ (by first | rfl | simp) [97, 122, 32, 32, 32, 32, 32, 32] [32, 32, 32, 32, 32, 32, 32, 32])).mono ?_
  rintro e x4 ⟨rfl, hx4⟩
  have hbx4 := hal4.trans (hx4.mono (by first | exact Nat.le_refl _ | simp))
  have HC4 := Lib.hid (HC3.out.trans (hbx4.mono HC3.out.size))
  have HP4 := Lib.hid (HP4.out.later hbx4)
  obtain ⟨p0, p1⟩ := HP4.out.cells
  have hq4 := pair_eq02 x4
  clear hal4 hx4 hbx4
  go_wp2_with fail
  clear p0 p1
  go_returns
  exact ⟨rfl, HC4.out⟩
end Go.Proofs.YtgfcnafhfgncoaaDoor
