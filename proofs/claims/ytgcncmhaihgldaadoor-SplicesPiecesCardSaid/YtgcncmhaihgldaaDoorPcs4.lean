/- The walk of Table.Lines, and Concat of pieces. -/
import Derived.Test.YtgcncmhaihgldaaDoorPcs3
namespace Go.Proofs.YtgcncmhaihgldaaDoor
open Go Go.Proofs Go.RowKit Go.Ink

theorem wpList_append_run1 {P : Program} {w w' : World} {ops : Array Oper} {rest : List Oper} {o : Oper} {a : Act} {Q : Exit → Act → World → Prop} (hgd : o.guard = none) (s x : Operand) (ts : Array TypeId)
    (ho : o.op = .call { callee := .builtin .append, args := #[s, x], argTypes := ts }) (v u v' : Value) (hs : a.eval s = v) (hx : a.eval x = u)
    (hrun : (Builtin.append_ ts o.type #[v, u]).run P w = .ok v' w') (h : wpList P ops Q rest (a.put o.dst v') w') : wpList P ops Q (o :: rest) a w := by
  refine wpList_plain hgd fun K hK => ?_
  unfold Oper.wp
  simp [execOp, ho, resolve, invoke, builtin, hs, hx, hrun, Result.andThen]
  exact hK _ _ h

/-- append of a piece that lies somewhere to texts of the call's own. -/
theorem wpList_append_srcp {w : World} {ops : Array Oper} {rest : List Oper} {o : Oper} {a : Act} {Q : Exit → Act → World → Prop} (hgd : o.guard = none) (s x : Operand)
    (ho : o.op = .call { callee := .builtin .append, args := #[s, x], argTypes := #[22, 60] })
    (base : Nat) (va : Option Addr) (vn vc : Nat) (xs : List Line) (hs : a.eval s = .slice va vn vc) (hvn : xs.length = vn) (hown : OwnStrs w base (.slice va vn vc) xs) (ao : Option Addr) (n c : Nat) (l : List Line) (hn : l.length = n) (hx : a.eval x = .slice ao n c) (hl : SlOf IsStr w ao c l)
    (hb : base ≤ w.heap.size) (hsz : xs.length + l.length ≤ 1000000)
    (h : ∀ v' w', OwnStrs w' base v' (xs ++ l) → Below base w w' → wpList Tryd.prog ops Q rest (a.put o.dst v') w') : wpList Tryd.prog ops Q (o :: rest) a w := by
  subst hn hvn
  obtain ⟨i0, hi, hz0, hz1, hz2⟩ := info_parts str_info
  cases ao with
  | none =>
    have hc : c = 0 := hl.2.2.1 rfl
    have h0 : l = [] := List.eq_nil_of_length_eq_zero (by have := hl.1; omega)
    subst hc h0
    have hrun := run_append_owned_none (P := Tryd.prog) (w := w) base 22 o.type 9 i0 1 Tryd.underlying22 hi _ _ _ hown
    exact wpList_append_run1 hgd s x _ ho _ _ _ hs hx (by rw [run_append_pc]; exact hrun) (h _ w (by rw [List.append_nil]; exact hown) (Below.refl _ _))
  | some ad =>
    obtain ⟨v', w', hrun, h2, h3, _⟩ := run_append_own (P := Tryd.prog) w base 22 o.type 9 i0 (.string ⟨#[]⟩) 1 16 Tryd.underlying22 hi hz0 hz1 hz2 rfl (by decide) _ _ _ hown ad l.length c (strVs l) (by simp [strVs]) (SlOf.strVs hl) (strVs_one l) (by unfold maxLen; omega) (by omega) hb
    exact wpList_append_run1 hgd s x _ ho _ _ _ hs hx (by rw [run_append_pc]; exact hrun) (h v' w' (by simpa [OwnStrs, strVs] using h2) ((Below.refl _ _).grown h3 hb (fun k hk => (hown.lt k hk).1)))

theorem OwnPcs.below {w0 w : World} {B : Nat} {v : Value} {ps : List (List Line)} (h : OwnPcs w0 B w v ps) (hb : Below w0.heap.size w0 w) {n c : Nat} {a : Option Addr} (hv : v = .slice a n c) : SlOf IsStrs w a c ps := by
  subst hv
  obtain ⟨ao, cap, e, h⟩ := h.slOf hb
  simp only [Value.slice.injEq] at e
  obtain ⟨rfl, _, rfl⟩ := e
  exact h

set_option maxRecDepth 100000 in
set_option maxHeartbeats 1000000 in
theorem tabLines_any (b : Nat) (ps : List (List Line)) (w : World) (ht : TabOf w b ps) (hl : ps.length ≤ 100000) (hm : manyS ps ≤ 1000000) :
    Calls Tryd.prog 26 #[.pointer (some ⟨b, 0, none⟩), .int .i64 1, .int .i64 (manyS ps)] w fun e w' => ∃ v, e = .returned v ∧ OwnStrs w' w.heap.size v ps.flatten ∧ Below w.heap.size w w' := by
  have HT := Lib.hid ht; clear ht
  obtain ⟨M, hM⟩ : ∃ M, M = manyS ps := ⟨_, rfl⟩
  have HLEN := Lib.hid (tabLen_any b ps w HT.out)
  have HPA := Lib.hid (parts_any b ps 0 M w HT.out hl hm (by omega) (by omega) (by omega) (by omega))
  have HFL := Lib.hid (show (partsS ps 0 M 0).flatten = ps.flatten by rw [hM]; exact parts_all ps)
  have HML := Lib.hid (show M = ps.flatten.length by rw [hM]; exact manyS_flat ps)
  rw [← hM] at HLEN hm
  rw [← hM]
  clear hM
  by_cases h0 : M = 0
  · subst h0
    have HE := Lib.hid (show ps.flatten = [] from List.eq_nil_of_length_eq_zero (by have := HML.out; omega))
    go_enter Tryd.func26, Tryd.ntmps26
    go_wp2_with fail
    refine HLEN.out.mono ?_
    rintro e w1 ⟨rfl, rfl⟩
    go_wp2_with fail
    go_returns
    rw [HE.out]
    exact ⟨_, rfl, OwnStrs.nil _ _, Below.refl _ _⟩
  · have hm1 : 1 ≤ M := by omega
    go_enter Tryd.func26, Tryd.ntmps26
    go_wp2_with fail
    refine HLEN.out.mono ?_
    rintro e w1 ⟨rfl, rfl⟩
    go_wp2_with fail
    refine HPA.out.mono ?_
    rintro e w1 ⟨v1, rfl, ho1, hb1⟩
    obtain ⟨a1, c1, hv1⟩ := ho1.shape
    subst hv1
    have HS := Lib.hid (ho1.slOfV rfl hb1)
    have HB1 := Lib.hid hb1
    have hfl : (partsS ps 0 M 0).flatten.length ≤ 1000000 := by rw [HFL.out, ← HML.out]; exact hm
    clear ho1 hb1 HPA HLEN
    generalize partsS ps 0 M 0 = Q at *
    have hQ : Q.length ≤ 9223372036854775807 := Nat.le_trans HS.out.1 HS.out.2.1
    go_wp2_with fail
    go_loopw [7, 25] (fun ov i wr => ∃ (k : Nat), i = .int .i64 k ∧ k ≤ Q.length ∧ Hid (OwnStrs wr w1.heap.size ov (Q.take k).flatten) ∧ Hid (Below w1.heap.size w1 wr)) (fun _ i _ => Q.length - (intOf i).toNat)
    case atStart => exact ⟨0, rfl, by omega, Lib.hid (OwnStrs.nil _ _), Lib.hid (Below.refl _ _)⟩
    case round =>
      obtain ⟨k, rfl, hk, HO, HB⟩ := hrel
      by_cases hlt : k < Q.length
      · obtain ⟨l, hkl⟩ : ∃ l, Q[k]? = some l := ⟨_, List.getElem?_eq_getElem hlt⟩
        obtain ⟨b', off, u, hao, hcell, a2, c2, hu, hrow⟩ := HS.out.2.2.2 k l hkl
        subst hao hu
        have hcell' := ((HB.out.cell (p := ⟨b', off + k, none⟩) (lt_of_cell hcell))).trans hcell
        have HR := Lib.hid (hrow.later lasts_str HB.out)
        have HF := Lib.hid (flat_next hkl)
        have hle := flat_le Q (k + 1)
        rw [HF.out, List.length_append] at hle
        clear hkl hrow hcell
        generalize (Q.take k).flatten = F at *
        obtain ⟨ao, cp, hv⟩ := ownsRow_shape HO.out
        subst hv
        go_wp2_with (at_builtin; refine wpList_append_srcp rfl _ _ rfl w1.heap.size ao F.length cp F rfl rfl HO.out a2 l.length c2 l rfl rfl HR.out HB.out.size (by omega) ?_)
        intro v' w5 ho5 hb5
        have HO5 := Lib.hid ho5
        have HB5 := Lib.hid (HB.out.trans hb5)
        clear ho5 hb5
        go_wp2_with fail
        go_roundw
        case rel => exact ⟨k + 1, by go_num, by omega, by rw [HF.out]; exact HO5, HB5⟩
        case measure => simp [intOf]; omega
      · have hkl : k = Q.length := by omega
        subst hkl
        rw [List.take_length] at HO
        have HBZ := Lib.hid (HB1.out.trans (HB.out.mono HB1.out.size))
        go_wp2_with fail
        go_returns
        rw [← HFL.out]
        exact ⟨_, rfl, ownsRow_base HO.out HB1.out.size, HBZ.out⟩

/-! ### Concat of pieces -/

set_option maxRecDepth 100000 in
set_option maxHeartbeats 1000000 in
theorem pcGrow_nil (w0 : World) (n : Nat) (w : World) (hn : n ≤ 1000000) :
    Calls Tryd.prog 48 #[.slice none 0 0, .int .i64 n] w fun e w' => ∃ v, e = .returned v ∧ OwnPcs w0 w.heap.size w' v [] ∧ Below w.heap.size w w' := by
  obtain ⟨i0, hi, hz0, hz1, hz2⟩ := info_parts pc_info
  by_cases h0 : n = 0
  · subst h0
    go_enter Tryd.func48, Tryd.ntmps48
    go_wp2_with fail
    go_ret
    exact ⟨_, rfl, OwnPcs.nil _ _ _, Below.refl _ _⟩
  · have hpos : (0 : Int) < (n : Int) := by omega
    have hrz : ∀ ty, (Builtin.append_ #[56, 3] ty #[.slice none 0 0, .int .i64 (n : Int)]).run Tryd.prog w =
        .ok (.slice (some ⟨w.heap.size, 0, none⟩) n (grownCap w n 0 60)) (w.drew.alloc (.cells (Builtin.zeroCells (Value.slice none 0 0).cells n ++ Builtin.zeroCells (Value.slice none 0 0).cells (grownCap w n 0 60 - n)) 60)) := fun ty => by
      have h := Lib.run_append_grow_zeros w 56 3 ty 60 i0 (.slice none 0 0) .i64 .i64 Tryd.underlying56 Tryd.underlying3 hi hz0 none 0 0 [] (run_firstCells_none w.drew i0.size 0 0 0) n (by omega) (by rw [hz1]; omega) (by omega) (by omega) (by rw [hz2]; omega)
        (growslice_fits (by omega) (by rw [hz2]; omega))
      simpa using h
    have hG := grownCap_ge w n 0 60
    have hG2 := grownCap_le_maxLen w n 0 60 (by unfold maxLen; omega)
    have hsz : (Builtin.zeroCells (Value.slice none 0 0).cells n ++ Builtin.zeroCells (Value.slice none 0 0).cells (grownCap w n 0 60 - n)).size = grownCap w n 0 60 := by
      rw [Array.size_append, size_zeroCells, size_zeroCells]
      show n * 1 + (_ - n) * 1 = _
      omega
    generalize grownCap w n 0 60 = G at *
    generalize Builtin.zeroCells (Value.slice none 0 0).cells n ++ Builtin.zeroCells (Value.slice none 0 0).cells (G - n) = C at *
    have HSZ := Lib.hid hsz; clear hsz
    have hnG : n ≤ G := hG
    have hw1 := Lib.hid (below_alloc w (.cells C 60 (0, 0))).drew
    unfold maxLen at hG2
    go_enter Tryd.func48, Tryd.ntmps48
    have HRZ := Lib.hid hrz; clear hrz
    go_wp2_with (at_builtin; refine wpList_append_run rfl _ _ #[56, 3] rfl _ _ _ rfl rfl HRZ.out ?_)
    go_ret
    refine ⟨_, rfl, ⟨[], ⟨by simp, .inr ⟨w.heap.size, G, C, rfl, Nat.le_refl _, ?_, by simp, by unfold maxLen; omega, by rw [HSZ.out]; omega, by simp⟩⟩, by simp⟩, hw1.out⟩
    exact heap_alloc_at w _

/-- A slice value of rows of pieces. -/
def IsPcs (w : World) (u : Value) (l : List (List Line)) : Prop := ∃ ao cap, u = .slice ao l.length cap ∧ SlOf IsStrs w ao cap l
theorem flatP_next {ls : List (List (List Line))} {k : Nat} {l : List (List Line)} (h : ls[k]? = some l) : (ls.take (k + 1)).flatten = (ls.take k).flatten ++ l := by
  obtain ⟨hk, rfl⟩ := List.getElem?_eq_some_iff.1 h
  rw [List.take_succ_eq_append_getElem hk, List.flatten_append]; simp
theorem flatP_le (ls : List (List (List Line))) (k : Nat) : (ls.take k).flatten.length ≤ ls.flatten.length := by
  have h : ls.flatten = (ls.take k).flatten ++ (ls.drop k).flatten := by rw [← List.flatten_append, List.take_append_drop]
  rw [h, List.length_append]; omega

set_option maxRecDepth 100000 in
set_option maxHeartbeats 1000000 in
theorem pcConcat_any (ls : List (List (List Line))) (ao : Option Addr) (cap : Nat) (w : World) (hs : SlOf IsPcs w ao cap ls) (hl : ls.flatten.length ≤ 1000000) :
    Calls Tryd.prog 36 #[.slice ao ls.length cap] w fun e w' => ∃ v, e = .returned v ∧ OwnPcs w w.heap.size w' v ls.flatten ∧ Below w.heap.size w w' := by
  have HS := Lib.hid hs
  have hc : ls.length ≤ 9223372036854775807 := Nat.le_trans hs.1 hs.2.1
  clear hs
  go_enter Tryd.func36, Tryd.ntmps36
  go_wp2_with fail
  go_loop [3, 11] (fun sv i => ∃ (k n : Nat), sv = .int .i64 n ∧ i = .int .i64 k ∧ k ≤ ls.length ∧ n ≤ ls.flatten.length ∧ Hid (n = (ls.take k).flatten.length)) (fun _ i => ls.length - (intOf i).toNat)
  case atStart => exact ⟨0, 0, rfl, rfl, by omega, by omega, Lib.hid rfl⟩
  case round =>
    obtain ⟨k, n, rfl, rfl, hk, hn, HN⟩ := hrel
    by_cases hlt : k < ls.length
    · obtain ⟨l, hkl⟩ : ∃ l, ls[k]? = some l := ⟨_, List.getElem?_eq_getElem hlt⟩
      obtain ⟨b, off, u, hao, hcell, a2, c2, hu, hrow⟩ := HS.out.2.2.2 k l hkl
      subst hao hu
      have HF := Lib.hid (flatP_next hkl)
      have hle := flatP_le ls (k + 1)
      rw [HF.out, List.length_append, ← HN.out] at hle
      clear hkl hrow
      go_wp2_with fail
      go_round
      case rel => exact ⟨k + 1, n + l.length, by go_num, by go_num, by omega, hle, Lib.hid (by rw [HF.out, List.length_append, HN.out])⟩
      case measure => simp [intOf]; omega
    · have hkl : k = ls.length := by omega
      subst hkl
      clear HN
      go_wp2_with fail
      refine (pcGrow_nil w n _ (by omega)).mono ?_
      rintro e w1 ⟨v0, rfl, ho, hb⟩
      have HO1 := Lib.hid ho
      have HB1 := Lib.hid hb; clear ho hb
      go_wp2_with fail
      go_loopw [6, 27] (fun v i wr => ∃ k : Nat, i = .int .i64 k ∧ k ≤ ls.length ∧ Hid (OwnPcs w w.heap.size wr v (ls.take k).flatten) ∧ Hid (Below w.heap.size w wr)) (fun _ i _ => ls.length - (intOf i).toNat)
      case atStart => exact ⟨0, rfl, by omega, Lib.hid (by simpa using HO1.out), HB1⟩
      case round =>
        obtain ⟨k, rfl, hk, HO, HB⟩ := hrel
        by_cases hlt : k < ls.length
        · obtain ⟨l, hkl⟩ : ∃ l, ls[k]? = some l := ⟨_, List.getElem?_eq_getElem hlt⟩
          obtain ⟨b, off, u, hao, hcell, a2, c2, hu, hrow⟩ := HS.out.2.2.2 k l hkl
          subst hao hu
          have hcell' := ((HB.out.cell (p := ⟨b, off + k, none⟩) (lt_of_cell hcell))).trans hcell
          have HQ := Lib.hid (SrcPcs.of hrow HB.out)
          have HF := Lib.hid (flatP_next hkl)
          have hle := flatP_le ls (k + 1)
          rw [HF.out, List.length_append] at hle
          clear hkl hrow hcell
          generalize (ls.take k).flatten = F at *
          obtain ⟨ao, cp, hv⟩ := HO.out.shape
          subst hv
          go_wp2_with (at_builtin; refine wpList_append_pcs (w0 := w) rfl _ _ rfl w.heap.size _ F rfl HO.out a2 l.length c2 l rfl rfl HQ.out HB.out.size (by omega) ?_)
          intro v' w5 ho5 hb5 hbl5 hz5
          have HO5 := Lib.hid ho5
          have HB5 := Lib.hid (HB.out.trans hb5)
          clear ho5 hb5 hbl5 hz5
          go_wp2_with fail
          go_roundw
          case rel => exact ⟨k + 1, by go_num, by omega, by rw [HF.out]; exact HO5, HB5⟩
          case measure => simp [intOf]; omega
        · have hkl : k = ls.length := by omega
          subst hkl
          rw [List.take_length] at HO
          go_wp2_with fail
          go_returns
          exact ⟨_, rfl, HO.out, HB.out⟩
end Go.Proofs.YtgcncmhaihgldaaDoor
