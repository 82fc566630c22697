/- The walk of the law VtNone. -/
import Derived.Test.YtgfcnafhfgncoaaDoorVtL
import Derived.Test.YtgfcnafhfgncoaaDoorSameG
namespace Go.Proofs.YtgfcnafhfgncoaaDoor
open Go Go.Proofs Go.RowKit Go.Ink

def noGrd : Grd := ⟨0, 0, [], 0, 0⟩
/-- A terminal of nothing. -/
def ZeroAt (w : World) (v : Nat) : Prop := w.heap[v]? = some (.cells #[.int .i64 0, .int .i64 0, .slice none 0 0, .int .i64 0, .int .i64 0, .slice none 0 0, .nilFunc] 43 (0, 0))
set_option maxRecDepth 100000 in
theorem none_zero (v : Nat) (w : World) (h : ZeroAt w v) :
    Calls Tryd.prog 29 #[.pointer (some ⟨v, 0, none⟩)] w fun x w' => x = .returned (.bool true) ∧ w' = w := by
  have h6 : w.cell? ⟨v, 6, none⟩ = some .nilFunc := by rw [Lib.cell_of_heap h]; rfl
  have hrun : Sem.run Tryd.prog (binOp BinOp.eql 41 Value.nilFunc Value.nilFunc) w = .ok (.bool true) w := by kernel_rfl
  clear h
  go_enter Tryd.func29, Tryd.ntmps29
  go_wp2_with fail
  go_returns
  exact ⟨rfl, rfl⟩
/-- A terminal that is none: no pointer, or one of nothing. -/
def NoVt (w : World) (p : Value) : Prop := p = .pointer none ∨ ∃ v, p = .pointer (some ⟨v, 0, none⟩) ∧ ZeroAt w v
theorem NoVt.later {w w' : World} {p : Value} (h : NoVt w p) (hb : Below w.heap.size w w') : NoVt w' p := by
  rcases h with h | ⟨v, h, hz⟩
  · exact .inl h
  · exact .inr ⟨v, h, (hb.block v (lt_of_heap hz)).trans hz⟩
theorem none_no (p : Value) (w : World) (h : NoVt w p) : Calls Tryd.prog 29 #[p] w fun x w' => x = .returned (.bool true) ∧ w' = w := by
  rcases h with rfl | ⟨v, rfl, hz⟩
  · exact none_nil w
  · exact none_zero v w hz
set_option maxRecDepth 100000 in
theorem feed_no (p : Value) (s : ByteArray) (w : World) (h : NoVt w p) : Calls Tryd.prog 14 #[p, .string s] w fun x w' => x = .returned (.int .i64 1) ∧ w' = w := by
  have HN := Lib.hid (none_no p w h)
  clear h
  go_enter Tryd.func14, Tryd.ntmps14
  go_wp2_with fail
  refine HN.out.mono ?_
  rintro e w1 ⟨rfl, hw1⟩
  subst hw1
  go_wp2_with fail
  go_returns
  exact ⟨rfl, rfl⟩
set_option maxRecDepth 100000 in
theorem grid_no (p : Value) (w : World) (h : NoVt w p) : Calls Tryd.prog 16 #[p] w fun x w' => x = .returned (gridV noGrd none 0) ∧ Below w.heap.size w w' := by
  have HN := Lib.hid (fun o => none_no p (w.alloc o) (h.later ((Below.refl _ _).alloc (Nat.le_refl _) _)))
  clear h
  go_enter Tryd.func16, Tryd.ntmps16
  go_wp2_with fail
  refine (HN.out _).mono ?_
  rintro e w1 ⟨rfl, hw1⟩
  have hb : Below w.heap.size w w1 := by rw [hw1]; exact (Below.refl _ _).alloc (Nat.le_refl _) _
  have hres : w1.heap[w.heap.size]? = some (.cells #[.int .i64 0, .int .i64 0, .slice none 0 0, .int .i64 0, .int .i64 0] 34 (0, 0)) := by rw [hw1]; exact heap_alloc_new _ _
  have HB := Lib.hid hb
  have hrs := Lib.cell_of_heap hres
  have s0 := hrs 0; have s1 := hrs 1; have s2 := hrs 2; have s3 := hrs 3; have s4 := hrs 4
  have hrf := Lib.frozen_of_heap hres
  have f0 := hrf 0; have f1 := hrf 1; have f2 := hrf 2; have f3 := hrf 3; have f4 := hrf 4
  simp at s0 s1 s2 s3 s4
  obtain ⟨t0, t1, t2, t3, t4⟩ := five_cells hres (.int .i64 0) (.int .i64 0) (.slice none 0 0) (.int .i64 0) (.int .i64 0)
  have HK := Lib.hid (five_keep w1 w.heap.size (.int .i64 0) (.int .i64 0) (.slice none 0 0) (.int .i64 0) (.int .i64 0))
  clear hrs hrf hres hb hw1 HN
  go_wp2_with fail
  refine bodyPost_ret (v := .agg #[.int .i64 0, .int .i64 0, .slice none 0 0, .int .i64 0, .int .i64 0]) (by simp [results, Tryd.results16, go_sem, t0, t1, t2, t3, t4]) rfl ?_
  exact ⟨rfl, HB.out.trans (HK.out.below HB.out.size (fun i e => by omega))⟩
set_option maxRecDepth 100000 in
set_option maxHeartbeats 1000000 in
theorem vtNone_any (s : List UInt8) (w : World) (hm : MaxAt w) (hs : s.length ≤ maxLen) :
    Calls Tryd.prog 4 #[.string ⟨s.toArray⟩] w fun e w' => e = .returned (.bool true) ∧ Below w.heap.size w w' := by
  unfold maxLen at hs
  have HSZ := size_mk s
  have HM := Lib.hid hm; clear hm
  by_cases hl : (3000 : Int) < (s.length : Int)
  · go_enter Tryd.func4, Tryd.ntmps4
    go_wp2_with fail
    go_returns
    exact ⟨rfl, Below.refl _ _⟩
  · go_enter Tryd.func4, Tryd.ntmps4
    go_wp2_with fail
    go_loopw [3, 4] (fun p i wr => ∃ k : Nat, i = .int .i64 k ∧ k ≤ 2 ∧ Hid (NoVt wr p) ∧ Hid (Below w.heap.size w wr)) (fun _ i _ => 2 - (intOf i).toNat)
    case atStart => exact ⟨0, rfl, by omega, Lib.hid (.inl rfl), Lib.hid (Below.refl _ _)⟩
    case round =>
      obtain ⟨k, rfl, hk, HN, HB⟩ := hrel
      by_cases hlt : k < 2
      · have hlti : (k : Int) < 2 := by omega
        go_wp2_with fail
        refine (feed_no _ _ _ HN.out).mono ?_
        rintro e w1 ⟨rfl, hw1⟩
        subst hw1
        go_wp2_with fail
        refine (grid_no _ _ HN.out).mono ?_
        rintro e w2 ⟨rfl, hb2⟩
        have HB2 := Lib.hid (HB.out.trans (hb2.mono HB.out.size))
        clear hb2
        go_wp2_with fail
        refine (refSame_self noGrd none none 0 0 _ ?c1 ?c2 (by decide)).mono ?_
        case c1 => exact ⟨by simp [noGrd], by simp [maxLen], fun _ => rfl, fun k x h => by simp [noGrd] at h⟩
        case c2 => exact ⟨by simp [noGrd], by simp [maxLen], fun _ => rfl, fun k x h => by simp [noGrd] at h⟩
        rintro e w3 ⟨rfl, hb3⟩
        have HB3 := Lib.hid (HB2.out.trans (hb3.mono HB2.out.size))
        clear hb3
        have HB4 := Lib.hid (HB3.out.alloc HB3.out.size (.cells #[.int .i64 0, .int .i64 0, .slice none 0 0, .int .i64 0, .int .i64 0, .slice none 0 0, .nilFunc] 43 (0, 0)))
        have HN4 : Hid (NoVt (w3.alloc (.cells #[.int .i64 0, .int .i64 0, .slice none 0 0, .int .i64 0, .int .i64 0, .slice none 0 0, .nilFunc] 43 (0, 0))) (.pointer (some ⟨w3.heap.size, 0, none⟩))) := Lib.hid (.inr ⟨_, rfl, heap_alloc_new w3 _⟩)
        go_wp2_with fail
        go_roundw
        case rel => exact ⟨k + 1, by go_num, by omega, HN4, HB4⟩
        case measure => simp [intOf]; omega
      · obtain rfl : k = 2 := by omega
        go_wp2_with fail
        refine (vtNew_no 1 80 _ (by decide)).mono ?_
        rintro e w1 ⟨rfl, hb1⟩
        have HB1 := Lib.hid (HB.out.trans (hb1.mono HB.out.size))
        clear hb1
        go_wp2_with fail
        refine (vtNew_no 24 7 _ (by decide)).mono ?_
        rintro e w2 ⟨rfl, hb2⟩
        have HB2 := Lib.hid (HB1.out.trans (hb2.mono HB1.out.size))
        clear hb2
        go_wp2_with fail
        refine (does_any _ (HM.out.later HB2.out)).mono ?_
        rintro e w3 ⟨rfl, hb3⟩
        have HB3 := Lib.hid (HB2.out.trans (hb3.mono HB2.out.size))
        clear hb3
        go_wp2_with fail
        go_returns
        exact ⟨rfl, HB3.out⟩
end Go.Proofs.YtgfcnafhfgncoaaDoor
