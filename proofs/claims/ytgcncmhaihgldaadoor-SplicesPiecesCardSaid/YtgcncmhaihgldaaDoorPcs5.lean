/- The walk of Table.Splice. -/
import Derived.Test.YtgcncmhaihgldaaDoorPcs4
import Derived.Test.YtgcncmhaihgldaaDoorSpl14
import Derived.Deep.RegionHeld3
namespace Go.Proofs.YtgcncmhaihgldaaDoor
open Go Go.Proofs Go.RowKit Go.Ink

/-- A table and an error, as they are handed back. -/
def SpliceTab (w : World) (ps : List (List Line)) (s : Spl) (e : Ending) (w' : World) : Prop :=
  if tabErr (manyS ps) s = 0 then ∃ b, e = .returned (.tuple #[.pointer (some ⟨b, 0, none⟩), .int .i64 0]) ∧ TabOf w' b (tabSpl ps s) ∧ Below w.heap.size w w' else e = .returned (.tuple #[.pointer none, .int .i64 (tabErr (manyS ps) s)]) ∧ w = w'
theorem SpliceTab.err {w : World} {ps : List (List Line)} {s : Spl} {c : Int} (h : tabErr (manyS ps) s = c) (hc : c ≠ 0) : SpliceTab w ps s (.returned (.tuple #[.pointer none, .int .i64 c])) w := by
  subst h
  unfold SpliceTab
  rw [if_neg hc]
  exact ⟨rfl, rfl⟩

theorem partsS_many (ps : List (List Line)) (fr to : Int) : manyS (partsS ps fr to 0) ≤ manyS ps := by
  rw [manyS_flat, manyS_flat, partsS_flat, List.length_take, List.length_drop]; omega
theorem one_pcs {w : World} {g : Nat} {a : Option Addr} {c : Nat} {p : List Line} {T : TypeId} {fr : Nat × Nat} (h : w.heap[g]? = some (.cells #[.slice a p.length c] T fr)) (hp : SlOf IsStr w a c p) : SlOf IsStrs w (some ⟨g, 0, none⟩) 1 [p] := by
  refine ⟨by simp, by unfold maxLen; omega, by simp, fun k x hk => ?_⟩
  have hk0 : k = 0 := by have := (List.getElem?_eq_some_iff.1 hk).1; simp at this; exact this
  subst hk0
  simp only [List.getElem?_cons_zero, Option.some.injEq] at hk
  subst hk
  exact ⟨g, 0, _, rfl, by rw [Lib.cell_of_heap h]; rfl, _, _, rfl, hp⟩
theorem three_pcs {w : World} {g : Nat} {A B C : List (List Line)} {a b c : Option Addr} {x y z : Nat} {T : TypeId} {fr : Nat × Nat} (h : w.heap[g]? = some (.cells #[.slice a A.length x, .slice b B.length y, .slice c C.length z] T fr))
    (h1 : SlOf IsStrs w a x A) (h2 : SlOf IsStrs w b y B) (h3 : SlOf IsStrs w c z C) : SlOf IsPcs w (some ⟨g, 0, none⟩) 3 [A, B, C] := by
  refine ⟨by simp, by unfold maxLen; omega, by simp, fun k x hk => ?_⟩
  match k, hk with
  | 0, hk => simp at hk; subst hk; exact ⟨g, 0, _, rfl, by rw [Lib.cell_of_heap h]; rfl, _, _, rfl, h1⟩
  | 1, hk => simp at hk; subst hk; exact ⟨g, 0, _, rfl, by rw [Lib.cell_of_heap h]; rfl, _, _, rfl, h2⟩
  | 2, hk => simp at hk; subst hk; exact ⟨g, 0, _, rfl, by rw [Lib.cell_of_heap h]; rfl, _, _, rfl, h3⟩
theorem pcConcat3 (A C : List (List Line)) (p : List Line) (ao : Option Addr) (cap : Nat) (w : World) (hs : SlOf IsPcs w ao cap [A, [p], C]) (hA : A.length ≤ 100000) (hC : C.length ≤ 100000) :
    Calls Tryd.prog 36 #[.slice ao 3 cap] w fun e w' => ∃ v, e = .returned v ∧ OwnPcs w w.heap.size w' v (A ++ [p] ++ C) ∧ Below w.heap.size w w' := by
  have h := pcConcat_any [A, [p], C] ao cap w hs (by simp; omega)
  have e : [A, [p], C].flatten = A ++ [p] ++ C := by simp
  rw [e] at h
  exact h
/-- The three rows that Splice joins, where the middle one was laid ahead of the last. -/
theorem pcsA {w2 w3 w4 : World} {A C : List (List Line)} {p : List Line} {a b c : Option Addr} {x y z : Nat} {T1 T2 : TypeId} (h1 : SlOf IsStrs w2 a x A) (h12 : Below w2.heap.size w2 w3) (h2 : SlOf IsStr w3 b y p)
    (h34 : Below (w3.alloc (.cells #[.slice b p.length y] T1 (0, 0))).heap.size (w3.alloc (.cells #[.slice b p.length y] T1 (0, 0))) w4) (h3 : SlOf IsStrs w4 c z C) :
    SlOf IsPcs (w4.alloc (.cells #[.slice a A.length x, .slice (some ⟨w3.heap.size, 0, none⟩) 1 1, .slice c C.length z] T2 (0, 0))) (some ⟨w4.heap.size, 0, none⟩) 3 [A, [p], C] := by
  have hx := below_alloc w3 (.cells #[.slice b p.length y] T1 (0, 0))
  have h34' := hx.trans (h34.mono hx.size)
  have hy := below_alloc w4 (.cells #[.slice a A.length x, .slice (some ⟨w3.heap.size, 0, none⟩) 1 1, .slice c C.length z] T2 (0, 0))
  have hone := (h34.block _ (lt_of_heap (heap_alloc_at w3 (.cells #[.slice b p.length y] T1 (0, 0))))).trans (heap_alloc_at w3 _)
  exact three_pcs (B := [p]) (heap_alloc_at w4 _) (((h1.later lasts_strs h12).later lasts_strs h34').later lasts_strs hy) ((one_pcs hone (h2.later lasts_str h34')).later lasts_strs hy) (h3.later lasts_strs hy)
theorem pcsB {w2 w3 w4 : World} {A C : List (List Line)} {p : List Line} {a b c : Option Addr} {x y z : Nat} {T1 T2 : TypeId} (h1 : SlOf IsStrs w2 a x A) (h12 : Below w2.heap.size w2 w3) (h2 : SlOf IsStr w3 b y p)
    (h34 : Below w3.heap.size w3 w4) (h3 : SlOf IsStrs w4 c z C) :
    SlOf IsPcs ((w4.alloc (.cells #[.slice b p.length y] T1 (0, 0))).alloc (.cells #[.slice a A.length x, .slice (some ⟨w4.heap.size, 0, none⟩) 1 1, .slice c C.length z] T2 (0, 0))) (some ⟨w4.heap.size + 1, 0, none⟩) 3 [A, [p], C] := by
  have hx := below_alloc w4 (.cells #[.slice b p.length y] T1 (0, 0))
  have hone := one_pcs (heap_alloc_at w4 (.cells #[.slice b p.length y] T1 (0, 0))) ((h2.later lasts_str h34).later lasts_str hx)
  have hy := below_alloc (w4.alloc (.cells #[.slice b p.length y] T1 (0, 0))) (.cells #[.slice a A.length x, .slice (some ⟨w4.heap.size, 0, none⟩) 1 1, .slice c C.length z] T2 (0, 0))
  have hz := heap_alloc_at (w4.alloc (.cells #[.slice b p.length y] T1 (0, 0))) (.cells #[.slice a A.length x, .slice (some ⟨w4.heap.size, 0, none⟩) 1 1, .slice c C.length z] T2 (0, 0))
  rw [show (w4.alloc (.cells #[.slice b p.length y] T1 (0, 0))).heap.size = w4.heap.size + 1 by simp] at hz
  exact three_pcs (B := [p]) hz ((((h1.later lasts_strs h12).later lasts_strs h34).later lasts_strs hx).later lasts_strs hy) (hone.later lasts_strs hy) ((h3.later lasts_strs hx).later lasts_strs hy)

theorem step2 {w w1 w2 : World} (h : Below w.heap.size w w1) (hb : Below w1.heap.size w1 w2) : Below w.heap.size w w2 := h.trans (hb.mono h.size)
set_option maxRecDepth 100000 in
set_option maxHeartbeats 1000000 in
theorem tabSplice_any (b : Nat) (ps : List (List Line)) (s : Spl) (ai : Option Addr) (ci : Nat) (w : World) (ht : TabOf w b ps) (hi : SlOf IsStr w ai ci s.ins) (hl : ps.length ≤ 40000) (hm : manyS ps ≤ 400000) :
    Calls Tryd.prog 25 #[.pointer (some ⟨b, 0, none⟩), .int .i64 s.pos, .int .i64 s.del, .slice ai s.ins.length ci] w (SpliceTab w ps s) := by
  obtain ⟨ap, cp, fz, hh, hsp⟩ := ht
  have c1 : w.cell? ⟨b, 1, none⟩ = some (.int .i64 (manyS ps)) := by rw [Lib.cell_of_heap hh]; rfl
  have HT := Lib.hid (show TabOf w b ps from ⟨ap, cp, fz, hh, hsp⟩)
  have HI := Lib.hid hi
  clear hh hsp hi
  have hin : s.ins.length ≤ 9223372036854775807 := Nat.le_trans HI.out.1 HI.out.2.1
  have HK := Lib.hid (check_any _ _ s.ins w HI.out)
  have HVS := Lib.hid (fun c (h : tabErr (manyS ps) s = c) hc => SpliceTab.err (w := w) (ps := ps) (s := s) h hc)
  have HTE := Lib.hid (show tabErr (manyS ps) s = _ from by unfold tabErr; rfl)
  obtain ⟨M, hM⟩ : ∃ M, M = manyS ps := ⟨_, rfl⟩
  rw [← hM] at c1 HTE hm HVS
  by_cases h1 : s.pos < 0
  · have HV := Lib.hid (HVS.out 2 (by rw [HTE.out, if_pos (by omega)]) (by omega))
    clear HVS HTE
    go_enter Tryd.func25, Tryd.ntmps25
    go_wp2_with fail
    refine (HK.out).mono ?_
    rintro e w1 ⟨rfl, rfl⟩
    go_wp2_with fail
    all_goals (
      go_returns
      exact HV.out)
  by_cases h2 : s.del < 0
  · have HV := Lib.hid (HVS.out 2 (by rw [HTE.out, if_pos (by omega)]) (by omega))
    clear HVS HTE
    go_enter Tryd.func25, Tryd.ntmps25
    go_wp2_with fail
    refine (HK.out).mono ?_
    rintro e w1 ⟨rfl, rfl⟩
    go_wp2_with fail
    all_goals (
      go_returns
      exact HV.out)
  by_cases h3 : (M : Int) < s.pos
  · have HV := Lib.hid (HVS.out 2 (by rw [HTE.out, if_pos (by omega)]) (by omega))
    clear HVS HTE
    go_enter Tryd.func25, Tryd.ntmps25
    go_wp2_with fail
    refine (HK.out).mono ?_
    rintro e w1 ⟨rfl, rfl⟩
    go_wp2_with fail
    all_goals (
      go_returns
      exact HV.out)
  by_cases h4 : (M : Int) - s.pos < s.del
  · have HV := Lib.hid (HVS.out 2 (by rw [HTE.out, if_pos (by omega)]) (by omega))
    clear HVS HTE
    go_enter Tryd.func25, Tryd.ntmps25
    go_wp2_with fail
    refine (HK.out).mono ?_
    rintro e w1 ⟨rfl, rfl⟩
    go_wp2_with fail
    all_goals (
      go_returns
      exact HV.out)
  by_cases h5 : checkL s.ins = 2
  · have HV := Lib.hid (HVS.out 2 (by rw [HTE.out, if_pos (by omega)]) (by omega))
    rw [h5] at HK
    clear HVS HTE
    go_enter Tryd.func25, Tryd.ntmps25
    go_wp2_with fail
    refine (HK.out).mono ?_
    rintro e w1 ⟨rfl, rfl⟩
    go_wp2_with fail
    all_goals (
      go_returns
      exact HV.out)
  by_cases h6 : checkL s.ins ≠ 0
  · have HV := Lib.hid (HVS.out 3 (by rw [HTE.out, if_neg (by omega), if_pos (by omega)]) (by omega))
    have h8 : checkL s.ins = 3 := by have := checkL_cases s.ins; omega
    rw [h8] at HK
    clear HVS HTE h5
    go_enter Tryd.func25, Tryd.ntmps25
    go_wp2_with fail
    refine (HK.out).mono ?_
    rintro e w1 ⟨rfl, rfl⟩
    go_wp2_with fail
    all_goals (
      go_returns
      exact HV.out)
  by_cases h7 : 2000 < (M : Int) - s.del + s.ins.length
  · have HV := Lib.hid (HVS.out 3 (by rw [HTE.out, if_neg (by omega), if_pos (by omega)]) (by omega))
    have h8 : checkL s.ins = 0 := by omega
    have hil : s.ins.length ≤ 2000 := (checkL_ok.1 h8).2.1
    rw [h8] at HK
    clear HVS HTE h5 h6
    go_enter Tryd.func25, Tryd.ntmps25
    go_wp2_with fail
    refine (HK.out).mono ?_
    rintro e w1 ⟨rfl, rfl⟩
    go_wp2_with fail
    all_goals (
      go_returns
      exact HV.out)
  have hc0 : checkL s.ins = 0 := by omega
  have hil : s.ins.length ≤ 2000 := (checkL_ok.1 hc0).2.1
  rw [hc0] at HK
  have HV := Lib.hid (show tabErr M s = 0 by rw [HTE.out, if_neg (by omega), if_neg (by omega)])
  clear HVS HTE h5 h6
  obtain ⟨pos, del, ins⟩ := s
  simp only at *
  obtain ⟨p, hp⟩ := Int.eq_ofNat_of_zero_le (show 0 ≤ pos by omega)
  obtain ⟨d, hd⟩ := Int.eq_ofNat_of_zero_le (show 0 ≤ del by omega)
  subst hp hd
  have hpd : p + d ≤ M := by omega
  have hs1 : IntKind.i64.wrap ((p : Int) + (d : Int)) = (p : Int) + (d : Int) := IntWalk.i64_in _ (by omega)
  have HB0 := Lib.hid (Below.refl w.heap.size w)
  have hm' := hm
  rw [hM] at hm'
  have HP1 := Lib.hid (fun w2 (h : Below w.heap.size w w2) => parts_any b ps 0 p w2 (HT.out.later h) (by omega) (by omega) (by omega) (by omega) (by omega) (by omega))
  have HCL := Lib.hid (fun w2 (h : Below w.heap.size w w2) => clone_any ins ai ci w2 (HI.out.later lasts_str h) (by omega))
  have HP2 := Lib.hid (fun w2 (h : Below w.heap.size w w2) => parts_any b ps ((p : Int) + (d : Int)) M w2 (HT.out.later h) (by omega) (by omega) (by omega) (by omega) (by omega) (by omega))
  have hA1 := partsS_len ps 0 p 0
  have hA2 := partsS_many ps 0 p
  have hC1 := partsS_len ps ((p : Int) + (d : Int)) M 0
  have hC2 := partsS_many ps ((p : Int) + (d : Int)) M
  have HSP := Lib.hid (show ofS (partsS ps 0 p 0 ++ [ins] ++ partsS ps ((p : Int) + (d : Int)) M 0) = tabSpl ps ⟨p, d, ins⟩ by unfold tabSpl; rw [hM])
  have HM := Lib.hid hM
  clear hM
  generalize partsS ps 0 p 0 = PA at *
  generalize partsS ps ((p : Int) + (d : Int)) M 0 = PC at *
  have HCC := Lib.hid (fun ao cap w hs => pcConcat3 PA PC ins ao cap w hs (by omega) (by omega))
  have HLL := Lib.hid (show (PA ++ [ins] ++ PC).length ≤ 100000 by simp; omega)
  have HMM := Lib.hid (show manyS (PA ++ [ins] ++ PC) ≤ 1000000 by rw [manyS_append, manyS_append]; simp only [manyS]; omega)
  clear hA1 hA2 hC1 hC2 hm'
  obtain ⟨R, hR⟩ : ∃ R, R = PA ++ [ins] ++ PC := ⟨_, rfl⟩
  rw [← hR] at HCC HLL HMM HSP
  clear hR
  have HOF := Lib.hid (fun ao cap w hs => of_any R ao cap w hs HLL.out HMM.out)
  go_enter Tryd.func25, Tryd.ntmps25
  go_wp2_with fail
  refine (HK.out).mono ?_
  rintro e w ⟨rfl, rfl⟩
  go_wp2_with fail
  go_region_held3 (fun w' => w'.cell? ⟨b, 1, none⟩ = some (.int .i64 M))
    (first | exact c1 | exact c1' | exact c1'' | exact c1a | exact c1b | exact c1c | go_keep)
    (first
      | ((with_reducible refine (HP1.out _ ((Below.refl _ _).drew)).mono ?_); rintro e w2 ⟨v1, rfl, ho1, hb1⟩; obtain ⟨a1, k1, hv1⟩ := ho1.shape; subst hv1; have c1' := (hb1.cell (p := ⟨b, 1, none⟩) (lt_of_cell c1)).trans c1; have HS1 := Lib.hid (ho1.slOfV rfl hb1); have HB1 := Lib.hid (((Below.refl w.heap.size w).drew).trans hb1); clear ho1 hb1)
      | ((with_reducible refine (HCL.out _ HB1.out).mono ?_); rintro e w3 ⟨v2, rfl, ho2, hb2⟩; obtain ⟨a2, k2, hv2⟩ := ownsRow_shape ho2; subst hv2; have c1'' := (hb2.cell (p := ⟨b, 1, none⟩) (lt_of_cell c1')).trans c1'; have HS2 := Lib.hid (own_slOfV rfl ho2); have HB23 := Lib.hid hb2; have HB2 := Lib.hid (HB1.out.trans (hb2.mono HB1.out.size)); clear ho2 hb2)
      | ((with_reducible refine (HP2.out _ (by first | exact HB2.out | exact HB2.out.trans ((below_alloc _ _).mono HB2.out.size))).mono ?_); rintro e w4 ⟨v3, rfl, ho3, hb3⟩; obtain ⟨a3, k3, hv3⟩ := ho3.shape; subst hv3; have c1a := (hb3.cell (p := ⟨b, 1, none⟩) (by first | exact lt_of_cell c1'' | (have := lt_of_cell c1''; simp; omega))).trans (by first | exact c1'' | exact ((below_alloc _ _).cell (lt_of_cell c1'')).trans c1''); have HS3 := Lib.hid (ho3.slOfV rfl hb3); have HB34 := Lib.hid hb3; clear ho3 hb3)
      | ((with_reducible refine (HCC.out _ 3 _ (pcsA HS1.out HB23.out HS2.out HB34.out HS3.out)).mono ?_); rintro e w6 ⟨v6, rfl, ho6, hb6⟩; obtain ⟨a6, k6, hv6⟩ := ho6.shape; subst hv6; have HS6 := Lib.hid (ho6.slOfV rfl hb6); have HB6 := Lib.hid (step2 (step2 (step2 (step2 HB2.out (below_alloc _ _)) HB34.out) (below_alloc _ _)) hb6); have c1b := (HB6.out.cell (p := ⟨b, 1, none⟩) (lt_of_cell c1)).trans c1; clear ho6 hb6)
      | ((with_reducible refine (HCC.out _ 3 _ (pcsB HS1.out HB23.out HS2.out HB34.out HS3.out)).mono ?_); rintro e w6 ⟨v6, rfl, ho6, hb6⟩; obtain ⟨a6, k6, hv6⟩ := ho6.shape; subst hv6; have HS6 := Lib.hid (ho6.slOfV rfl hb6); have HB6 := Lib.hid (step2 (step2 (step2 (step2 HB2.out HB34.out) (below_alloc _ _)) (below_alloc _ _)) hb6); have c1b := (HB6.out.cell (p := ⟨b, 1, none⟩) (lt_of_cell c1)).trans c1; clear ho6 hb6)
      | ((with_reducible refine (HOF.out _ _ _ HS6.out).mono ?_); rintro e w7 ⟨b7, rfl, ht7, hb7⟩; have HT7 := Lib.hid ht7; have HB7 := Lib.hid (step2 HB6.out hb7); have c1c := (HB7.out.cell (p := ⟨b, 1, none⟩) (lt_of_cell c1)).trans c1; clear ht7 hb7)
      | (fail "no arm"))
  all_goals (
    go_wp2_with fail
    go_returns
    unfold SpliceTab
    rw [← HM.out, if_pos HV.out, ← HSP.out]
    exact ⟨b7, rfl, HT7.out, HB7.out⟩)
end Go.Proofs.YtgcncmhaihgldaaDoor
