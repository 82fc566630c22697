/- The walks of pieces.New, Table.parts and Table.Lines. -/
import Derived.Test.YtgcncmhaihgldaaDoorPcs2
namespace Go.Proofs.YtgcncmhaihgldaaDoor
open Go Go.Proofs Go.RowKit Go.Ink

/-- A table, or none. -/
def NewTab (w : World) (l : List Line) (e : Ending) (w' : World) : Prop :=
  if checkL l = 0 then ∃ b, e = .returned (.pointer (some ⟨b, 0, none⟩)) ∧ TabOf w' b (ofS [l]) ∧ Below w.heap.size w w' else e = .returned (.pointer none) ∧ w = w'

theorem tabNew_any (l : List Line) (ao : Option Addr) (cap : Nat) (w : World) (hl : SlOf IsStr w ao cap l) (hlen : l.length ≤ 100000) :
    Calls Tryd.prog 24 #[.slice ao l.length cap] w (NewTab w l) := by
  have HL := Lib.hid hl; clear hl
  by_cases h : checkL l = 0
  · have HC := Lib.hid h; clear h
    go_enter Tryd.func24, Tryd.ntmps24
    go_wp2_with fail
    refine (check_any _ _ l _ HL.out).mono ?_
    rintro e w1 ⟨rfl, rfl⟩
    rw [HC.out]
    go_wp2_with fail
    refine (clone_any l _ _ _ HL.out (by omega)).mono ?_
    rintro e w2 ⟨v, rfl, ho, hb⟩
    obtain ⟨a2, k2, hv⟩ := ownsRow_shape ho
    subst hv
    have HB := Lib.hid hb
    have HA := Lib.hid (below_alloc w2 (.cells #[.slice a2 l.length k2] 60 (0, 0)))
    have hone : SlOf IsStrs (w2.alloc (.cells #[.slice a2 l.length k2] 60 (0, 0))) (some ⟨w2.heap.size, 0, none⟩) 1 [l] := by
      refine ⟨by simp, by unfold maxLen; omega, by simp, fun k x hk => ?_⟩
      have hk0 : k = 0 := by have := (List.getElem?_eq_some_iff.1 hk).1; simp at this; exact this
      subst hk0
      simp only [List.getElem?_cons_zero, Option.some.injEq] at hk
      subst hk
      exact ⟨w2.heap.size, 0, _, rfl, by rw [Lib.cell_of_heap (heap_alloc_at w2 _)]; rfl, _, _, rfl, (own_slOfV rfl ho).later lasts_str HA.out⟩
    have HO := Lib.hid hone
    clear ho hb hone
    have HOF := Lib.hid (of_any [l] _ 1 _ HO.out (by simp) (by simp [manyS]; omega))
    simp only [List.length_cons, List.length_nil, Nat.zero_add] at HOF
    go_wp2_with fail
    refine HOF.out.mono ?_
    rintro e w3 ⟨b, rfl, ht, hb⟩
    have HTB := Lib.hid ht
    have HB3 := Lib.hid (HB.out.trans ((HA.out.trans (hb.mono HA.out.size)).mono HB.out.size))
    clear ht hb
    go_wp2_with fail
    go_returns
    unfold NewTab
    rw [if_pos HC.out]
    exact ⟨b, rfl, HTB.out, HB3.out⟩
  · have hq : (checkL l == 0) = false := by simpa using h
    have HC := Lib.hid h
    clear h
    go_enter Tryd.func24, Tryd.ntmps24
    go_wp2_with fail
    refine (check_any _ _ l _ HL.out).mono ?_
    rintro e w1 ⟨rfl, rfl⟩
    go_wp2_with fail
    go_returns
    unfold NewTab
    rw [if_neg HC.out]
    exact ⟨rfl, rfl⟩

theorem partsS_append : ∀ (a b : List (List Line)) (fr to pos : Int), partsS (a ++ b) fr to pos = partsS a fr to pos ++ partsS b fr to (pos + manyS a)
  | [], b, fr, to, pos => by simp [partsS, manyS]
  | p :: a, b, fr, to, pos => by
    simp only [List.cons_append, partsS, manyS, partsS_append a b, List.append_assoc]
    rw [show pos + ((p.length + manyS a : Nat) : Int) = pos + (p.length : Int) + (manyS a : Int) by omega]
theorem partsS_take {l : List (List Line)} {k : Nat} {p : List Line} (h : l[k]? = some p) (fr to : Int) :
    partsS (l.take (k + 1)) fr to 0 = partsS (l.take k) fr to 0 ++ (if max (fr - (manyS (l.take k) : Int)) 0 < min (to - (manyS (l.take k) : Int)) (p.length : Int) then [(p.drop (max (fr - (manyS (l.take k) : Int)) 0).toNat).take ((min (to - (manyS (l.take k) : Int)) (p.length : Int)).toNat - (max (fr - (manyS (l.take k) : Int)) 0).toNat)] else []) := by
  obtain ⟨hk, rfl⟩ := List.getElem?_eq_some_iff.1 h
  rw [List.take_succ_eq_append_getElem hk, partsS_append]
  simp only [partsS, List.append_nil, Int.zero_add]
theorem manyS_next {l : List (List Line)} {k : Nat} {p : List Line} (h : l[k]? = some p) : manyS (l.take (k + 1)) = manyS (l.take k) + p.length := by
  obtain ⟨hk, rfl⟩ := List.getElem?_eq_some_iff.1 h
  rw [List.take_succ_eq_append_getElem hk, manyS_append]
  simp [manyS]
theorem partsS_len : ∀ (l : List (List Line)) (fr to pos : Int), (partsS l fr to pos).length ≤ l.length
  | [], _, _, _ => by simp [partsS]
  | p :: l, fr, to, pos => by
    have := partsS_len l fr to (pos + p.length)
    unfold partsS
    rw [List.length_append]
    split <;> simp <;> omega

set_option maxRecDepth 100000 in
set_option maxHeartbeats 1000000 in
theorem parts_any (b : Nat) (ps : List (List Line)) (fr to : Int) (w : World) (ht : TabOf w b ps) (hl : ps.length ≤ 100000) (hm : manyS ps ≤ 1000000) (h1 : 0 ≤ fr) (h2 : fr ≤ 1000000) (h3 : 0 ≤ to) (h4 : to ≤ 1000000) :
    Calls Tryd.prog 37 #[.pointer (some ⟨b, 0, none⟩), .int .i64 fr, .int .i64 to] w fun e w' => ∃ v, e = .returned v ∧ OwnPcs w w.heap.size w' v (partsS ps fr to 0) ∧ Below w.heap.size w w' := by
  obtain ⟨ap, cp, fz, hh, hs⟩ := ht
  have c0 : w.cell? ⟨b, 0, none⟩ = some (.slice ap ps.length cp) := by rw [Lib.cell_of_heap hh]; rfl
  have HS := Lib.hid hs
  clear hh hs
  go_enter Tryd.func37, Tryd.ntmps37
  go_wp2_with fail
  go_loopw [7, 8, 18] (fun ov av i wr => ∃ (k M : Nat), av = .int .i64 M ∧ i = .int .i64 k ∧ k ≤ ps.length ∧ M ≤ 1000000 ∧ Hid (M = manyS (ps.take k)) ∧ Hid (OwnPcs w w.heap.size wr ov (partsS (ps.take k) fr to 0)) ∧ Hid (Below w.heap.size w wr)) (fun _ _ i _ => ps.length - (intOf i).toNat)
  case atStart => exact ⟨0, 0, rfl, rfl, by omega, by omega, Lib.hid rfl, Lib.hid (OwnPcs.nil _ _ _), Lib.hid (Below.refl _ _)⟩
  case round =>
    obtain ⟨k, M, rfl, rfl, hk, hM, HM, HO, HB⟩ := hrel
    by_cases hlt : k < ps.length
    · obtain ⟨p, hkp⟩ : ∃ p, ps[k]? = some p := ⟨_, List.getElem?_eq_getElem hlt⟩
      obtain ⟨bp, op, u, hao, hcell, a2, c2, hu, hrow⟩ := HS.out.2.2.2 k p hkp
      subst hao hu
      have hcell' := ((HB.out.cell (p := ⟨bp, op + k, none⟩) (lt_of_cell hcell))).trans hcell
      have HR := Lib.hid hrow
      have hnx := partsS_take hkp fr to
      have hmn := manyS_next hkp
      rw [← HM.out] at hnx hmn
      have hM2 : M + p.length ≤ 1000000 := by have := manyS_take ps (k + 1); omega
      have HMN := Lib.hid hmn
      have hpl : (partsS (ps.take k) fr to 0).length ≤ 100000 := Nat.le_trans (partsS_len _ _ _ _) (by rw [List.length_take]; omega)
      clear hcell hrow hkp hmn HM
      generalize partsS (ps.take k) fr to 0 = P at *
      obtain ⟨ao, co, hv⟩ := HO.out.shape
      subst hv
      by_cases hab : max (fr - (M : Int)) 0 < min (to - (M : Int)) (p.length : Int)
      · rw [if_pos hab] at hnx
        obtain ⟨A, hA⟩ : ∃ A : Nat, max (fr - (M : Int)) 0 = (A : Int) := ⟨(max (fr - (M : Int)) 0).toNat, by omega⟩
        obtain ⟨D, hD⟩ : ∃ D : Nat, min (to - (M : Int)) (p.length : Int) = (D : Int) := ⟨(min (to - (M : Int)) (p.length : Int)).toNat, by omega⟩
        rw [hA, hD] at hnx hab
        simp only [Int.toNat_natCast] at hnx
        have HNX := Lib.hid hnx
        have hAD : A < D := by omega
        have hDp : D ≤ p.length := by omega
        clear hnx hab
        obtain ⟨t0, ht0⟩ : ∃ t, p[0]? = some t := ⟨_, List.getElem?_eq_getElem (by omega)⟩
        obtain ⟨b2, o2, u2, ha2, _, _⟩ := HR.out.2.2.2 0 t0 ht0
        subst ha2
        have hDc : D ≤ c2 := Nat.le_trans hDp HR.out.1
        clear ht0
        go_wp2_with fail
        refine (cut_any p.length b2 o2 c2 A D _ hAD hDc HR.out.2.1).mono ?_
        rintro e w1 ⟨rfl, rfl⟩
        have hlen : ((p.drop A).take (D - A)).length = D - A := by rw [List.length_take, List.length_drop]; omega
        have hcr := cut_row hAD hDp HR.out
        have hq := heap_alloc_at wr (.cells #[.slice (some ⟨b2, o2 + A, none⟩) (D - A) (D - A)] 60 (0, 0))
        have HQ : Hid (SrcPcs w (wr.alloc (.cells #[.slice (some ⟨b2, o2 + A, none⟩) (D - A) (D - A)] 60 (0, 0))) (some ⟨wr.heap.size, 0, none⟩) 1 [(p.drop A).take (D - A)]) := by
          have h := SrcPcs.one (w0 := w) (p := (p.drop A).take (D - A)) (a := some ⟨b2, o2 + A, none⟩) (c := D - A) (by rw [hlen]; exact hq) hcr
          exact Lib.hid h
        have HA := Lib.hid (below_alloc wr (.cells #[.slice (some ⟨b2, o2 + A, none⟩) (D - A) (D - A)] 60 (0, 0)))
        clear hq hcr hlen
        generalize (p.drop A).take (D - A) = q at *
        go_wp2_with (at_builtin; refine wpList_append_pcs (w0 := w) rfl _ _ rfl w.heap.size _ P rfl (HO.out.later HA.out) (some ⟨wr.heap.size, 0, none⟩) 1 1 [q] rfl rfl HQ.out (by have := HB.out.size; simp; omega) (by simp; omega) ?_)
        intro v' w5 ho5 hb5 hbl5 hz5
        have HO5 := Lib.hid ho5
        have HB5 := Lib.hid (HB.out.trans ((HA.out.mono HB.out.size).trans hb5))
        clear hbl5 hz5 hb5 ho5
        go_wp2_with fail
        go_roundw
        case rel => exact ⟨k + 1, M + p.length, by go_num, by go_num, by omega, hM2, Lib.hid HMN.out.symm, by rw [HNX.out]; exact HO5, HB5⟩
        case measure => simp [intOf]; omega
      · rw [if_neg hab, List.append_nil] at hnx
        have HNX := Lib.hid hnx
        clear hnx
        go_wp2_with fail
        go_roundw
        case rel => exact ⟨k + 1, M + p.length, by go_num, by go_num, by omega, hM2, Lib.hid HMN.out.symm, by rw [HNX.out]; exact HO, HB⟩
        case measure => simp [intOf]; omega
    · have hkl : k = ps.length := by omega
      subst hkl
      rw [List.take_length] at HO
      go_wp2_with fail
      go_returns
      exact ⟨_, rfl, HO.out, HB.out⟩

/-- append takes a piece as it takes a slice of texts. -/
theorem run_append_pc (ty : TypeId) (b : Option Addr) (n c : Nat) (x : Value) (w : World) : (Builtin.append_ #[22, 60] ty #[.slice b n c, x]).run Tryd.prog w = (Builtin.append_ #[22, 22] ty #[.slice b n c, x]).run Tryd.prog w := by
  simp [Builtin.append_, run_underlying Tryd.underlying22, run_underlying Tryd.underlying60]
end Go.Proofs.YtgcncmhaihgldaaDoor
