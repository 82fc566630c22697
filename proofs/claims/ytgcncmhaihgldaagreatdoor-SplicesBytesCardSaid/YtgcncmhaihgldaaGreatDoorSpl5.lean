/- The walks of splices.fold, All, Apply and Inverse. -/
import Derived.Test.YtgcncmhaihgldaaGreatDoorSpl4
namespace Go.Proofs.YtgcncmhaihgldaaGreatDoor
open Go Go.Proofs Go.RowKit Go.Ink

theorem foldS_take {l : List Line} {list : List Spl} {k : Nat} {s : Spl} (h : list[k]? = some s) (hok : (foldS l (list.take k)).2 = 0) : foldS l (list.take (k + 1)) = doneS (foldS l (list.take k)).1 s := by
  obtain ⟨hk, rfl⟩ := List.getElem?_eq_some_iff.1 h
  rw [List.take_succ_eq_append_getElem hk, foldS_snoc, if_neg (by rw [hok]; simp)]
theorem foldS_stop {l : List Line} {list : List Spl} {k : Nat} (h : (foldS l (list.take k)).2 ≠ 0) : foldS l list = ([], (foldS l (list.take k)).2) := by
  have e := foldS_append (list.take k) (list.drop k) l
  rw [List.take_append_drop, if_pos h] at e
  exact e
theorem foldS_len : ∀ (list : List Spl) (l : List Line) (n : Nat), l.length ≤ n → 2000 ≤ n → (foldS l list).1.length ≤ n
  | [], l, n, h, _ => h
  | s :: r, l, n, h, hn => by
    unfold foldS
    split
    · simp
    · rename_i hd
      rw [Decidable.not_not] at hd
      obtain ⟨_, _, _, h4, h5, h6⟩ := doneS_ok hd
      refine foldS_len r _ n ?_ hn
      rw [h6]; simp only [List.length_append, List.length_take, List.length_drop]; omega

set_option maxRecDepth 100000 in
set_option maxHeartbeats 2000000 in
theorem fold_any (l : List Line) (v : Value) (list : List Spl) (ao : Option Addr) (cap : Nat) (w0 w : World) (hv : OwnStrs w w0.heap.size v l) (hs : SplOf w ao cap list) (hlen : l.length ≤ 100000) (hw : w0.heap.size ≤ w.heap.size) :
    Calls Tryz.prog 51 #[v, .slice ao list.length cap, .func (.func 52) #[] #[]] w
      fun e w' => ∃ v', e = .returned (.tuple #[v', .int .i64 (foldS l list).2]) ∧ OwnStrs w' w0.heap.size v' (foldS l list).1 ∧ Below w.heap.size w w' := by
  have HS := Lib.hid hs
  have hc : list.length ≤ 9223372036854775807 := Nat.le_trans hs.1 hs.2.1
  clear hs
  have HV := Lib.hid hv; clear hv
  have HW := Lib.hid hw; clear hw
  go_enter Tryz.func51, Tryz.ntmps51
  go_wp2_with fail
  go_loopw [0, 15] (fun x i wr => ∃ (k : Nat) (m : List Line), i = .int .i64 k ∧ k ≤ list.length ∧ Hid (foldS l (list.take k) = (m, 0)) ∧ Hid (OwnStrs wr w0.heap.size x m) ∧ Hid (Below w.heap.size w wr)) (fun _ i _ => list.length - (intOf i).toNat)
  case atStart => exact ⟨0, l, rfl, by omega, Lib.hid rfl, HV, Below.refl _ _⟩
  case round =>
    obtain ⟨k, m, rfl, hk, HF, HO, HB⟩ := hrel
    obtain ⟨ax, cx, hx, hsx⟩ := HO.out.slOf
    subst hx
    have HX := Lib.hid hsx; clear hsx
    have HLEN := Lib.hid (show m.length ≤ 100000 by have := foldS_len (list.take k) l 100000 hlen (by omega); rw [HF.out] at this; exact this)
    by_cases hlt : k < list.length
    · obtain ⟨s, hks⟩ : ∃ s, list[k]? = some s := ⟨_, List.getElem?_eq_getElem hlt⟩
      obtain ⟨b, off, ai, ci, hao, c0, c1, c2, hins⟩ := HS.out.2.2.2 k s hks
      subst hao
      have HI := Lib.hid (hins.later lasts_str HB.out)
      have d0 := ((HB.out.cell (p := ⟨b, off + k * 3, none⟩) (lt_of_cell c0))).trans c0
      have d1 := ((HB.out.cell (p := ⟨b, off + k * 3 + 1, none⟩) (lt_of_cell c1))).trans c1
      have d2 := ((HB.out.cell (p := ⟨b, off + k * 3 + 2, none⟩) (lt_of_cell c2))).trans c2
      have HT := Lib.hid (foldS_take hks (by rw [HF.out])); rw [HF.out] at HT
      clear c0 c1 c2 hins hks
      have HNX := Lib.hid (fun w hl hi hlen => done_any m ax cx s ai ci w hl hi hlen)
      simp only [splV] at HNX
      have HA1 := Lib.hid (below_alloc wr (.cells #[.int .i64 s.pos, .int .i64 s.del, .slice ai s.ins.length ci] 24 (0, 0)))
      have HSZ := Lib.hid (show w0.heap.size ≤ (wr.alloc (.cells #[.int .i64 s.pos, .int .i64 s.del, .slice ai s.ins.length ci] 24 (0, 0))).heap.size from by have h1 := HW.out; have h2 := HB.out.size; simp; omega)
      by_cases hd : (doneS m s).2 = 0
      · have HD := Lib.hid hd; clear hd
        go_wp2_with fail
        refine (HNX.out _ (HX.out.later lasts_str HA1.out) (HI.out.later lasts_str HA1.out) HLEN.out).mono ?_
        rintro e w2 ⟨v2, rfl, ho, hb⟩
        rw [HD.out]
        have HO2 := Lib.hid (show OwnStrs w2 w0.heap.size v2 (doneS m s).1 from ownsRow_base ho HSZ.out)
        have HB2 := Lib.hid (HB.out.trans ((HA1.out.trans (hb.mono HA1.out.size)).mono HB.out.size))
        clear ho hb d0 d1 d2
        go_wp2_with fail
        go_roundw
        case rel => exact ⟨k + 1, (doneS m s).1, by go_num, by omega, Lib.hid (by rw [HT.out]; exact Prod.ext rfl HD.out), HO2, HB2⟩
        case measure => simp [intOf]; omega
      · have hq : ((doneS m s).2 == 0) = false := by simpa using hd
        have HST := Lib.hid (foldS_stop (l := l) (list := list) (k := k + 1) (by rw [HT.out]; exact hd))
        rw [HT.out] at HST
        clear hd
        go_wp2_with fail
        refine (HNX.out _ (HX.out.later lasts_str HA1.out) (HI.out.later lasts_str HA1.out) HLEN.out).mono ?_
        rintro e w2 ⟨v2, rfl, ho, hb⟩
        have HB2 := Lib.hid (HB.out.trans ((HA1.out.trans (hb.mono HA1.out.size)).mono HB.out.size))
        clear ho hb d0 d1 d2
        generalize (doneS m s).2 = E at *
        go_wp2_with fail
        go_returns
        rw [HST.out]
        exact ⟨_, rfl, OwnStrs.nil _ _, HB2.out⟩
    · have hkl : k = list.length := by omega
      subst hkl
      have HF' := HF.out
      rw [List.take_length] at HF'
      have HF' := Lib.hid HF'
      go_wp2_with fail
      go_returns
      rw [HF'.out]
      exact ⟨_, rfl, HO.out, HB.out⟩

theorem LinesPost.base {w w1 w' : World} {r : List Line × Int} {e : Ending} (h : LinesPost w1 r e w') (hb : Below w.heap.size w w1) : LinesPost w r e w' := by
  obtain ⟨v, rfl, ho, hb'⟩ := h
  exact ⟨v, rfl, ownsRow_base ho hb.size, hb.trans (hb'.mono hb.size)⟩

theorem all_any (l : List Line) (ao : Option Addr) (cap : Nat) (list : List Spl) (al : Option Addr) (cl : Nat) (w : World) (hl : SlOf IsStr w ao cap l) (hs : SplOf w al cl list) (hlen : l.length ≤ 100000) :
    Calls Tryz.prog 37 #[.slice ao l.length cap, .slice al list.length cl] w (LinesPost w (allS l list)) := by
  have HL := Lib.hid hl; clear hl
  have HS := Lib.hid hs; clear hs
  by_cases h : checkL l = 0
  · have HC := Lib.hid h
    have HV := Lib.hid (show allS l list = foldS l list by unfold allS; rw [if_neg (by rw [h]; simp)]); clear h
    go_enter Tryz.func37, Tryz.ntmps37
    go_wp2_with fail
    refine (check_any _ _ l _ HL.out).mono ?_
    rintro e w1 ⟨rfl, rfl⟩
    rw [HC.out]
    go_wp2_with fail
    refine (clone_any l _ _ _ HL.out (by omega)).mono ?_
    rintro e w2 ⟨v, rfl, ho, hb⟩
    have HO := Lib.hid ho
    have HB := Lib.hid hb; clear ho hb
    go_wp2_with fail
    refine (fold_any l v list _ _ w1 _ HO.out (HS.out.later HB.out) hlen HB.out.size).mono ?_
    rintro e w3 ⟨v3, rfl, ho, hb⟩
    have HO3 := Lib.hid ho
    have HB3 := Lib.hid (HB.out.trans (hb.mono HB.out.size)); clear ho hb
    go_wp2_with fail
    go_returns
    rw [HV.out]
    exact ⟨_, rfl, HO3.out, HB3.out⟩
  · have HV := Lib.hid (show allS l list = ([], checkL l) by unfold allS; rw [if_pos h])
    have hq : (checkL l == 0) = false := by simpa using h
    clear h
    go_enter Tryz.func37, Tryz.ntmps37
    go_wp2_with fail
    refine (check_any _ _ l _ HL.out).mono ?_
    rintro e w1 ⟨rfl, rfl⟩
    go_wp2_with fail
    go_returns
    rw [HV.out]
    exact .mk (OwnStrs.nil _ _) (Below.refl _ _)

theorem apply_any (l : List Line) (ao : Option Addr) (cap : Nat) (s : Spl) (ai : Option Addr) (ci : Nat) (w : World) (hl : SlOf IsStr w ao cap l) (hi : SlOf IsStr w ai ci s.ins) (hlen : l.length ≤ 100000) :
    Calls Tryz.prog 23 #[.slice ao l.length cap, splV s ai ci] w (LinesPost w (applyS l s)) := by
  have HL := Lib.hid hl; clear hl
  have HI := Lib.hid hi; clear hi
  rw [applyS_all]
  simp only [splV]
  have HA1 := Lib.hid (below_alloc w (.cells #[.int .i64 s.pos, .int .i64 s.del, .slice ai s.ins.length ci] 24 (0, 0)))
  have HA2 := Lib.hid (HA1.out.trans ((below_alloc (w.alloc (.cells #[.int .i64 s.pos, .int .i64 s.del, .slice ai s.ins.length ci] 24 (0, 0))) (.cells #[.int .i64 s.pos, .int .i64 s.del, .slice ai s.ins.length ci] 24 (0, 0))).mono HA1.out.size))
  have hsp := one_spl s ai ci (HI.out.later lasts_str HA1.out) 24
  rw [show (w.alloc (.cells #[.int .i64 s.pos, .int .i64 s.del, .slice ai s.ins.length ci] 24 (0, 0))).heap.size = w.heap.size + 1 by simp] at hsp
  have HSP := Lib.hid hsp; clear hsp
  go_enter Tryz.func23, Tryz.ntmps23
  go_wp2_with fail
  refine (all_any l _ _ [s] _ 1 _ (HL.out.later lasts_str HA2.out) HSP.out hlen).mono ?_
  rintro e w1 hp
  have HP := Lib.hid (hp.base HA2.out); clear hp
  obtain ⟨v, rfl, ho, hb⟩ := HP.out
  clear HP
  have HO := Lib.hid ho
  have HB := Lib.hid hb; clear ho hb
  go_wp2_with fail
  go_returns
  exact ⟨_, rfl, HO.out, HB.out⟩

/-- A splice and an error, as they are handed back. -/
def SplPost (w : World) (r : Spl × Int) (e : Ending) (w' : World) : Prop :=
  ∃ v, e = .returned (.tuple #[.agg #[.int .i64 r.1.pos, .int .i64 r.1.del, v], .int .i64 r.2]) ∧ OwnStrs w' w.heap.size v r.1.ins ∧ Below w.heap.size w w'
theorem two_blocks (w : World) (o1 o2 : Obj) : ((w.alloc o1).alloc o2).heap[w.heap.size]? = some o1 ∧ ((w.alloc o1).alloc o2).heap[w.heap.size + 1]? = some o2 ∧ Below w.heap.size w ((w.alloc o1).alloc o2) ∧ ((w.alloc o1).alloc o2).heap.size = w.heap.size + 2 := by
  refine ⟨?_, ?_, ((Below.refl _ _).alloc (Nat.le_refl _) _).alloc (by simp) _, by simp⟩
  · show ((w.heap.push o1).push o2)[w.heap.size]? = _
    rw [Array.getElem?_push, if_neg (by simp), Array.getElem?_push, if_pos rfl]
  · show ((w.heap.push o1).push o2)[w.heap.size + 1]? = _
    rw [Array.getElem?_push, if_pos (by simp)]

end Go.Proofs.YtgcncmhaihgldaaGreatDoor
