/- The reference's plain and blank. -/
import Derived.Test.YtgfcnafhfgncoaaDoorRtA
import Derived.Test.YtgfcnafhfgncoaaDoorVt5
import Derived.Test.YtgfcnafhfgncoaaDoorVtG
import Derived.Test.YtgfcnafhfgncoaaDoorVtF
namespace Go.Proofs.YtgfcnafhfgncoaaDoor
open Go Go.Proofs Go.RowKit Go.Ink

theorem refPlain_any {w : World} {r lo g cap : Nat} {bs : List (Nat × Nat)} {t : Tm} (c : UInt8) (h : RtAt w r lo g cap bs t) (hg : t.Good) :
    Calls Tryd.prog 45 #[.pointer (some ⟨r, 0, none⟩), .int .u8 (c.toNat : Int)] w fun e w' => e = .returned (.tuple #[]) ∧ RtStep w r lo g cap t.cells.length bs (t.plain c) w' := by
  by_cases h13 : c = 13
  · subst h13; exact refPlain_cr h
  by_cases h8 : c = 8
  · subst h8; exact refPlain_bs h hg
  by_cases h10 : c = 10
  · subst h10
    by_cases hr : t.row + 1 < t.rows
    · exact refPlain_more h hg hr
    · exact refPlain_last h hg hr
  by_cases hp : 32 ≤ c ∧ c ≤ 126
  · exact refPlain_put c h hg h13 h8 h10 hp
  · exact refPlain_no c h h13 h8 h10 hp
theorem wipeF_0 (cells : List (List UInt8)) (cols a : Nat) : wipeF cells (inR cols a a) = cells := wipeF_none cells _ (fun i j => by unfold inR; rw [Bool.eq_false_iff]; simp)
set_option maxRecDepth 100000 in
set_option maxHeartbeats 1000000 in
theorem refBlank_any {w : World} {r lo g cap : Nat} {bs : List (Nat × Nat)} {t : Tm} (h : RtAt w r lo g cap bs t) (hg : t.Good) (a b : Nat) (hab : a ≤ b) (hb : b ≤ t.rows * t.cols) :
    Calls Tryd.prog 55 #[.pointer (some ⟨r, 0, none⟩), .int .i64 (a : Int), .int .i64 (b : Int)] w fun e w' => e = .returned (.tuple #[]) ∧ RtStep w r lo g cap t.cells.length bs { t with cells := wipeF t.cells (inR t.cols a b) } w' := by
  have hmax : b ≤ 60 * 132 := Nat.le_trans hb (Nat.mul_le_mul hg.rows.2 hg.cols.2)
  have HMX := Lib.hid hb
  have HG := Lib.hid hg
  have H := Lib.hid h
  clear hb hg h
  go_enter Tryd.func55, Tryd.ntmps55
  go_wp2_with fail
  go_loopw [6] (fun i wr => ∃ k : Nat, i = .int .i64 k ∧ a ≤ k ∧ k ≤ b ∧ Hid (RtAt wr r lo g cap bs { t with cells := wipeF t.cells (inR t.cols a k) }) ∧ Hid (KeepT (RtS r g cap t.cells.length bs) w wr)) (fun i _ => b - (intOf i).toNat)
  case atStart => exact ⟨a, rfl, Nat.le_refl _, hab, Lib.hid (by rw [wipeF_0]; exact H.out), Lib.hid (KeepT.refl _ _)⟩
  case round =>
    obtain ⟨k, rfl, hak, hkb, HR, HK⟩ := hrel
    by_cases hlt : k < b
    · have hlti : (k : Int) < (b : Int) := by omega
      have hc0 : 0 < t.cols := by have := HG.out.cols.1; omega
      have hkr : k < t.rows * t.cols := Nat.lt_of_lt_of_le hlt HMX.out
      obtain ⟨x, hx⟩ : ∃ x, k / t.cols = x := ⟨_, rfl⟩
      obtain ⟨y, hy⟩ : ∃ y, k % t.cols = y := ⟨_, rfl⟩
      have hxr : x < t.rows := by rw [← hx]; exact Nat.div_lt_of_lt_mul (by rw [Nat.mul_comm]; exact hkr)
      have hyc : y < t.cols := by rw [← hy]; exact Nat.mod_lt _ hc0
      have hq : (k : Int).tdiv (t.cols : Int) = (x : Int) := by rw [Int.tdiv_eq_ediv_of_nonneg (by omega), ← hx]; simp
      have hm : (k : Int).tmod (t.cols : Int) = (y : Int) := by rw [Int.tmod_eq_emod_of_nonneg (by omega), ← hy]; simp
      have hcz : ¬ t.cols = 0 := by omega
      have hx60 : x ≤ 7919 := by have := HG.out.rows; omega
      have hwx : IntKind.i64.wrap (x : Int) = (x : Int) := IntWalk.i64_in _ (by omega)
      have hwl : (wipeF t.cells (inR t.cols a k)).length = t.rows := by rw [wipeF_len]; exact HG.out.many
      obtain ⟨br, l, hbr, hl⟩ := HR.out.rows.at (k := x) (by show x < (wipeF t.cells (inR t.cols a k)).length; rw [hwl]; exact hxr)
      have hl' : (wipeF t.cells (inR t.cols a k))[x]? = some l := hl
      have hll : l.length = t.cols := by
        unfold wipeF at hl'
        rw [List.getElem?_mapIdx] at hl'
        cases hcx : t.cells[x]? with
        | none => rw [hcx] at hl'; cases hl'
        | some l0 =>
          rw [hcx] at hl'
          injection hl' with hl'
          rw [← hl', List.length_mapIdx]
          exact HG.out.each l0 (List.mem_of_getElem? hcx)
      obtain ⟨r7, z7⟩ := HR.out.rows.row hbr hl
      obtain ⟨u, hu⟩ : ∃ u, l[y]? = some u := ⟨_, List.getElem?_eq_getElem (by omega)⟩
      obtain ⟨q7, y7⟩ := HR.out.rows.byte hbr hl hu
      unfold rowVal at r7
      obtain ⟨-, c1, c2, -, -, -, -⟩ := HR.out.cells
      have hlx : (x : Int) < (((wipeF t.cells (inR t.cols a k)).length : Nat) : Int) := by rw [hwl]; omega
      have hly : (y : Int) < (l.length : Int) := by omega
      have hmem : RtS r g cap t.cells.length bs br.1 := .inr (.inr (List.mem_map.2 ⟨br, List.mem_of_getElem? hbr, rfl⟩))
      have hnx : wipeF t.cells (inR t.cols a (k + 1)) = (wipeF t.cells (inR t.cols a k)).set x (l.set y 32) := by
        rw [wipeF_next t.cells t.cols a k HG.out.each hc0 (by rw [HG.out.many]; exact hkr) hak, hx, hy, List.getD_eq_getElem?_getD, hl']; rfl
      have HN : Hid (∀ n, RtAt ((wr.drewN n).setCell ⟨br.1, y, none⟩ (.int .u8 32)) r lo g cap bs { t with cells := wipeF t.cells (inR t.cols a (k + 1)) }) := Lib.hid (fun n => by
        rw [hnx]
        exact (HR.out.later (below_drewN (Below.refl _ _) n)).put hbr hl (by omega) 32)
      have HK2 : Hid (∀ n, KeepT (RtS r g cap t.cells.length bs) w ((wr.drewN n).setCell ⟨br.1, y, none⟩ (.int .u8 32))) := Lib.hid (fun n => (HK.out.drewN n).setCell (.inl hmem) _)
      have hk4 : k ≤ 7919 := by omega
      clear hx hy hxr hyc hwl hbr hl hl' hll hu hmem hnx hkr hc0
      go_wp2_with fail
      go_still_tail 22, (by kernel_rfl)
      go_wp2_with fail
      go_roundw
      case rel => exact ⟨k + 1, by go_num, by omega, by omega, Lib.hid ((HN.out 0).later ((Below.refl _ _).drew)), Lib.hid ((HK2.out 0).drew)⟩
      case measure => simp [intOf]; omega
    · obtain rfl : k = b := by omega
      go_wp2_with fail
      go_returns
      exact ⟨rfl, RtStep.same HR.out (by simpa [wipeF_len] using HK.out)⟩
end Go.Proofs.YtgfcnafhfgncoaaDoor
/- The reference's numbers. -/
namespace Go.Proofs.YtgfcnafhfgncoaaDoor
open Go Go.Proofs Go.RowKit Go.Ink

theorem intVs_len (l : List Int) : (intVs l).length = l.length := by unfold intVs; simp
theorem intVs_set (l : List Int) (k : Nat) (x : Int) : intVs (l.set k x) = (intVs l).set k (.int .i64 x) := by unfold intVs; rw [List.map_set]
/-- A number of a row of the call's own, as it is read. -/
theorem ownInts_at {w : World} {lo g n cp : Nat} {l : List Int} (h : w.ownsRow lo 3 1 (.slice (some ⟨g, 0, none⟩) n cp) n (intVs l)) {k : Nat} {x : Int} (hx : l[k]? = some x) :
    w.cell? ⟨g, k, none⟩ = some (.int .i64 x) ∧ w.frozen? ⟨g, k, none⟩ = false := by
  obtain ⟨h0, h⟩ := h
  rw [intVs_len] at h0
  rcases h with ⟨e, _⟩ | ⟨g', cap', cur, hv, _, hg, h1, _, h3, h4⟩
  · cases e
  · injection hv with e1 e2 e3
    injection e1 with e1; injection e1 with e1
    subst e1
    refine ⟨?_, Lib.frozen_of_heap hg k⟩
    have hk := (List.getElem?_eq_some_iff.1 hx).1
    rw [Lib.cell_of_heap hg]
    have h5 : (cur.toList.take (n * 1))[k]? = (intVs l)[k]? := by rw [h4]
    rw [List.getElem?_take, if_pos (by omega)] at h5
    have h6 : (intVs l)[k]? = some (.int .i64 x) := by unfold intVs; rw [List.getElem?_map, hx]; rfl
    rw [h6] at h5
    simpa using h5
theorem ownInts_set {w : World} {lo g n cp : Nat} {l : List Int} (h : w.ownsRow lo 3 1 (.slice (some ⟨g, 0, none⟩) n cp) n (intVs l)) (k : Nat) (x : Int) :
    (w.setCell ⟨g, k, none⟩ (.int .i64 x)).ownsRow lo 3 1 (.slice (some ⟨g, 0, none⟩) n cp) n (intVs (l.set k x)) := by
  obtain ⟨h0, h⟩ := h
  refine ⟨by rw [intVs_len] at h0 ⊢; simpa using h0, ?_⟩
  rcases h with ⟨e, _⟩ | ⟨g', cap', cur, hv, hlo, hg, h1, h2, h3, h4⟩
  · cases e
  · injection hv with e1 e2 e3
    injection e1 with e1; injection e1 with e1
    subst e1 e3
    refine .inr ⟨g, cp, _, rfl, hlo, heap_set hg _, h1, h2, by simpa using h3, ?_⟩
    rw [intVs_set, ← h4]
    simp [List.take_set]
set_option maxRecDepth 100000 in
set_option maxHeartbeats 1000000 in
theorem refNumbers_any (s : List UInt8) (w : World) (hs : s.length ≤ 1000000) :
    Calls Tryd.prog 54 #[.string ⟨s.toArray⟩] w (NumsPost w (numsT s (-1))) := by
  obtain ⟨i0, hi, hz0, hz1, hz2⟩ := info_parts int_info
  have HSZ := size_mk s
  have hs63 : s.length ≤ 9223372036854775807 := by omega
  go_enter Tryd.func54, Tryd.ntmps54
  go_wp2_with fail
  go_loopw [4, 5] (fun lv iv wr => ∃ (i gl cp : Nat) (pre : List Int) (cur : Int), iv = .int .i64 i ∧ i ≤ s.length ∧ lv = .slice (some ⟨gl, 0, none⟩) (pre.length + 1) cp ∧ pre.length ≤ i ∧ -1 ≤ cur ∧ cur ≤ 9999 ∧ Hid (wr.ownsRow w.heap.size 3 1 (.slice (some ⟨gl, 0, none⟩) (pre.length + 1) cp) (pre.length + 1) (intVs (pre ++ [cur]))) ∧ Hid (numsT s (-1) = (numsT (s.drop i) cur).map (pre ++ ·)) ∧ Hid (Below w.heap.size w wr)) (fun _ iv _ => s.length - (intOf iv).toNat)
  case atStart =>
    refine ⟨0, w.heap.size, 1, [], -1, rfl, by omega, rfl, by simp, by omega, by omega, Lib.hid ⟨rfl, .inr ⟨w.heap.size, 1, #[.int .i64 (-1)], rfl, Nat.le_refl _, heap_alloc_new w _, Nat.le_refl _, by unfold maxLen; omega, rfl, rfl⟩⟩, Lib.hid (by simp), Lib.hid ((Below.refl _ _).alloc (Nat.le_refl _) _)⟩
  case round =>
    obtain ⟨i, gl, cp, pre, cur, rfl, hi', rfl, hpre, hc1, hc2, HO, HN, HB⟩ := hrel
    by_cases hlt : i < s.length
    · have hlti : (i : Int) < (s.length : Int) := by omega
      obtain ⟨c, hc⟩ : ∃ c, s[i]? = some c := ⟨_, List.getElem?_eq_getElem hlt⟩
      have hby : ∀ h, (⟨s.toArray⟩ : ByteArray)[i]'h = c := fun h => by
        obtain ⟨_, h2⟩ := List.getElem?_eq_some_iff.1 hc
        rw [← h2]; rfl
      have hdr : s.drop i = c :: s.drop (i + 1) := by rw [List.drop_eq_getElem_cons hlt]; congr 1; exact (List.getElem?_eq_some_iff.1 hc).2
      have HDR := Lib.hid hdr
      have hpl : (pre.length : Int) < (pre.length : Int) + 1 := by omega
      obtain ⟨q7, y7⟩ := ownInts_at HO.out (k := pre.length) (x := cur) (by simp)
      clear hc hdr
      by_cases h59 : c = 59
      · subst h59
        go_wp2_with (at_builtin; refine wpList_append_own _ rfl (.tmp 21) (.tmp 22) 82 rfl w.heap.size 3 i0 (.int .i64 0) 1 8 Tryd.underlying82 hi hz0 hz1 hz2 rfl (by decide) _ (pre.length + 1) (intVs (pre ++ [cur])) rfl (HO.out.alloc _) ⟨wr.heap.size, 0, none⟩ 1 1 [.int .i64 (-1)] rfl rfl (news_one _ _ _) (news_ok rfl) (by unfold maxLen; omega) (by omega) (by have := HB.out.size; simp; omega) ?_)
        intro v5 w5 hown5 hgrow5 hnn5
        obtain ⟨-, hr5⟩ := id hown5
        rcases hr5 with ⟨e, -⟩ | ⟨g5, cp5, cur5, rfl, -, -, -, -, -, -⟩
        · exact absurd e hnn5
        have HB5 : Hid (Below w.heap.size w w5) := Lib.hid ((HB.out.alloc HB.out.size _).grown hgrow5 (by have := HB.out.size; simp; omega) (fun j hj => (HO.out.lt j hj).1))
        have HO5 : Hid (w5.ownsRow w.heap.size 3 1 (.slice (some ⟨g5, 0, none⟩) ((pre ++ [cur]).length + 1) cp5) ((pre ++ [cur]).length + 1) (intVs ((pre ++ [cur]) ++ [-1]))) := Lib.hid (by
          have e1 : (pre ++ [cur]).length + 1 = pre.length + 1 + 1 := by simp
          have e2 : intVs ((pre ++ [cur]) ++ [-1]) = intVs (pre ++ [cur]) ++ [.int .i64 (-1)] := by unfold intVs; rw [List.map_append (l₂ := [-1])]; rfl
          rw [e1, e2]; exact hown5)
        have HN5 : Hid (numsT s (-1) = (numsT (s.drop (i + 1)) (-1)).map ((pre ++ [cur]) ++ ·)) := Lib.hid (by
          rw [HN.out, HDR.out, numsT, if_pos rfl]
          cases numsT (s.drop (i + 1)) (-1) with
          | none => rfl
          | some l => simp)
        clear hown5 hgrow5 hnn5
        go_wp2_with fail
        go_roundw
        case rel => exact ⟨i + 1, g5, cp5, pre ++ [cur], -1, by go_num, by omega, by simp, by simp; omega, by omega, by omega, HO5, HN5, HB5⟩
        case measure => simp [intOf]; omega
      · have e59 : ((c.toNat : Int) == 59) = false := byte_ne 59 h59
        by_cases hd : 48 ≤ c ∧ c ≤ 57
        · have hlo : (48 : Int) ≤ (c.toNat : Int) := byte_le 48 hd.1
          have hhi : (c.toNat : Int) ≤ 57 := by have := UInt8.le_iff_toNat_le.1 hd.2; have e : (57 : UInt8).toNat = 57 := rfl; omega
          have HST : Hid (∀ x, x = min (max cur 0 * 10 + ((c.toNat : Int) - 48)) 9999 → (-1 ≤ x ∧ x ≤ 9999) ∧ (wr.setCell ⟨gl, pre.length, none⟩ (.int .i64 x)).drew.ownsRow w.heap.size 3 1 (.slice (some ⟨gl, 0, none⟩) (pre.length + 1) cp) (pre.length + 1) (intVs (pre ++ [x])) ∧ numsT s (-1) = (numsT (s.drop (i + 1)) x).map (pre ++ ·) ∧ Below w.heap.size w (wr.setCell ⟨gl, pre.length, none⟩ (.int .i64 x)).drew) := Lib.hid (by
            rintro x rfl
            refine ⟨by omega, ?_, ?_, ?_⟩
            · have h := ownInts_set HO.out pre.length (min (max cur 0 * 10 + ((c.toNat : Int) - 48)) 9999)
              rw [List.set_append_right _ _ (Nat.le_refl _), Nat.sub_self] at h
              exact h
            · rw [HN.out, HDR.out, numsT, if_neg h59, if_pos hd]
            · exact (HB.out.setCell (p := ⟨gl, pre.length, none⟩) (HO.out.lt gl rfl).1 _).drew)
          clear hd h59
          go_wp2_with fail
          go_still_tail 16, (by kernel_rfl)
          go_wp2_with fail
          go_roundw
          case rel =>
            obtain ⟨k1, k2, k3, k4⟩ := HST.out _ rfl
            exact ⟨i + 1, gl, cp, pre, _, by go_num, by omega, rfl, by omega, k1.1, k1.2, Lib.hid k2, Lib.hid k3, Lib.hid k4⟩
          case measure => simp [intOf]; omega
        · have HNO : Hid (numsT s (-1) = none) := Lib.hid (by rw [HN.out, HDR.out, numsT, if_neg h59, if_neg hd]; rfl)
          by_cases hlo : (48 : Int) ≤ (c.toNat : Int)
          · have hhi : ¬ (c.toNat : Int) ≤ 57 := fun e => hd ⟨UInt8.le_iff_toNat_le.2 (by show 48 ≤ c.toNat; omega), UInt8.le_iff_toNat_le.2 (by show c.toNat ≤ 57; omega)⟩
            clear hd h59
            go_wp2_with fail
            go_returns
            exact ⟨HB.out, fun _ => rfl, fun l h => by rw [HNO.out] at h; cases h⟩
          · clear hd h59
            go_wp2_with fail
            go_returns
            exact ⟨HB.out, fun _ => rfl, fun l h => by rw [HNO.out] at h; cases h⟩
    · obtain rfl : i = s.length := by omega
      go_wp2_with fail
      go_returns
      have hn := HN.out
      rw [List.drop_length] at hn
      refine ⟨HB.out, fun h => ?_, fun l h => ?_⟩
      · rw [hn] at h; cases h
      · rw [hn] at h
        injection h with h
        subst h
        exact ⟨gl, cp, by simp, by simpa using HO.out⟩
end Go.Proofs.YtgfcnafhfgncoaaDoor
/- The reference's command. -/
namespace Go.Proofs.YtgfcnafhfgncoaaDoor
open Go Go.Proofs Go.RowKit Go.Ink

theorem numsT_in : ∀ (s : List UInt8) (cur : Int) (l : List Int), -1 ≤ cur ∧ cur ≤ 9999 → numsT s cur = some l → ∀ a ∈ l, -1 ≤ a ∧ a ≤ 9999
  | [], cur, l, hc, h => by
    simp only [numsT, Option.some.injEq] at h
    subst h
    intro a ha
    simp only [List.mem_singleton] at ha
    subst ha; exact hc
  | c :: s, cur, l, hc, h => by
    rw [numsT] at h
    by_cases h59 : c = 59
    · rw [if_pos h59] at h
      cases hn : numsT s (-1) with
      | none => rw [hn] at h; cases h
      | some l' =>
        rw [hn] at h
        injection h with h
        subst h
        intro a ha
        rcases List.mem_cons.1 ha with e | e
        · subst e; exact hc
        · exact numsT_in s (-1) l' (by omega) hn a e
    · rw [if_neg h59] at h
      by_cases hd : 48 ≤ c ∧ c ≤ 57
      · rw [if_pos hd] at h
        have e1 := UInt8.le_iff_toNat_le.1 hd.1
        have e2 := UInt8.le_iff_toNat_le.1 hd.2
        have e3 : (48 : UInt8).toNat = 48 := rfl
        have e4 : (57 : UInt8).toNat = 57 := rfl
        exact numsT_in s _ l (by omega) h
      · rw [if_neg hd] at h; cases h
theorem numsT_ne : ∀ (s : List UInt8) (cur : Int) (l : List Int), numsT s cur = some l → l ≠ []
  | [], cur, l, h => by simp only [numsT, Option.some.injEq] at h; subst h; simp
  | c :: s, cur, l, h => by
    rw [numsT] at h
    by_cases h59 : c = 59
    · rw [if_pos h59] at h
      cases hn : numsT s (-1) with
      | none => rw [hn] at h; cases h
      | some l' => rw [hn] at h; injection h with h; subst h; simp
    · rw [if_neg h59] at h
      by_cases hd : 48 ≤ c ∧ c ≤ 57
      · rw [if_pos hd] at h; exact numsT_ne s _ l h
      · rw [if_neg hd] at h; cases h
/-- A word is turned in a later world: the step. -/
theorem RtAt.after {w w1 : World} {r lo g cap : Nat} {bs : List (Nat × Nat)} {t t' : Tm} {j : Nat} {u : Value} (h : RtAt w1 r lo g cap bs t) (hk : KeepT (RtS r g cap t.cells.length bs) w w1) (n : Nat) (hc : t'.cells = t.cells)
    (hb : (#[.int .i64 (t.rows : Int), .int .i64 (t.cols : Int), .slice (some ⟨g, 0, none⟩) t.cells.length cap, .int .i64 (t.row : Int), .int .i64 (t.col : Int), .int .i64 (t.esc : Int), .string ⟨t.par.toArray⟩] : Array Value).setIfInBounds j u = #[.int .i64 (t'.rows : Int), .int .i64 (t'.cols : Int), .slice (some ⟨g, 0, none⟩) t.cells.length cap, .int .i64 (t'.row : Int), .int .i64 (t'.col : Int), .int .i64 (t'.esc : Int), .string ⟨t'.par.toArray⟩]) :
    RtStep w r lo g cap t.cells.length bs t' ((w1.drewN n).setCell ⟨r, j, none⟩ u) :=
  RtStep.same ((h.later (below_drewN (Below.refl _ _) n)).word hc hb) ((hk.drewN n).setCell (.inl (.inl rfl)) _)
set_option maxRecDepth 100000 in
set_option maxHeartbeats 1000000 in
theorem refCommand_A {w : World} {r lo g cap : Nat} {bs : List (Nat × Nat)} {t : Tm} (h : RtAt w r lo g cap bs t) (hg : t.Good) (hpl : t.par.length ≤ 1000000) (a : Int) (hn : numsT t.par (-1) = some [a]) :
    Calls Tryd.prog 46 #[.pointer (some ⟨r, 0, none⟩), .int .u8 65] w fun e w' => e = .returned (.tuple #[]) ∧ RtStep w r lo g cap t.cells.length bs (t.command 65 [a]) w' := by
  have ha := numsT_in t.par (-1) [a] (by omega) hn a (by simp)
  obtain ⟨-, -, -, -, -, -, c6⟩ := h.cells
  have H := Lib.hid h
  have HG := Lib.hid hg
  have HN := Lib.hid hn
  have HNB := Lib.hid (refNumbers_any t.par w hpl)
  clear h hg hn hpl
  go_enter Tryd.func46, Tryd.ntmps46
  go_wp2_with fail
  refine HNB.out.mono ?_
  rintro e w1 ⟨hb1, -, hyes⟩
  obtain ⟨g1, cp1, rfl, hown⟩ := hyes [a] HN.out
  obtain ⟨q0, -⟩ := ownInts_at hown (k := 0) (x := a) rfl
  have H1 := Lib.hid (H.out.later hb1)
  have HK1 := Lib.hid (KeepT.of_below (S := RtS r g cap t.cells.length bs) hb1)
  obtain ⟨c0, c1, c2, c3, c4, c5, c6⟩ := H1.out.cells
  have f3 := H1.out.free 3
  have f4 := H1.out.free 4
  have hr1 := HG.out.rows
  have hr2 := HG.out.cols
  have hr3 := HG.out.row
  have hr4 := HG.out.col
  clear hyes hown hb1 HNB
  have HF : Hid (∀ n x, x = max ((t.row : Int) - max a 1) 0 → RtStep w r lo g cap t.cells.length bs (t.command 65 [a]) ((w1.drewN n).setCell ⟨r, 3, none⟩ (.int .i64 x))) := Lib.hid (fun n x hx => by
    obtain ⟨n', hn'⟩ : ∃ n', (max a 1).toNat = n' := ⟨_, rfl⟩
    rw [(cmd_one (c := 65) n' hn').1]
    have hx' : x = ((t.row - n' : Nat) : Int) := by omega
    subst hx'
    exact H1.out.after (t' := { t with row := t.row - n' }) HK1.out n rfl rfl)
  go_wp2_with fail
  go_quiet (fail)
  go_wp2_with fail
  go_returns
  exact ⟨rfl, HF.out _ _ rfl⟩
set_option maxRecDepth 100000 in
set_option maxHeartbeats 1000000 in
theorem refCommand_B {w : World} {r lo g cap : Nat} {bs : List (Nat × Nat)} {t : Tm} (h : RtAt w r lo g cap bs t) (hg : t.Good) (hpl : t.par.length ≤ 1000000) (a : Int) (hn : numsT t.par (-1) = some [a]) :
    Calls Tryd.prog 46 #[.pointer (some ⟨r, 0, none⟩), .int .u8 66] w fun e w' => e = .returned (.tuple #[]) ∧ RtStep w r lo g cap t.cells.length bs (t.command 66 [a]) w' := by
  have ha := numsT_in t.par (-1) [a] (by omega) hn a (by simp)
  obtain ⟨-, -, -, -, -, -, c6⟩ := h.cells
  have H := Lib.hid h
  have HG := Lib.hid hg
  have HN := Lib.hid hn
  have HNB := Lib.hid (refNumbers_any t.par w hpl)
  clear h hg hn hpl
  go_enter Tryd.func46, Tryd.ntmps46
  go_wp2_with fail
  refine HNB.out.mono ?_
  rintro e w1 ⟨hb1, -, hyes⟩
  obtain ⟨g1, cp1, rfl, hown⟩ := hyes [a] HN.out
  obtain ⟨q0, -⟩ := ownInts_at hown (k := 0) (x := a) rfl
  have H1 := Lib.hid (H.out.later hb1)
  have HK1 := Lib.hid (KeepT.of_below (S := RtS r g cap t.cells.length bs) hb1)
  obtain ⟨c0, c1, c2, c3, c4, c5, c6⟩ := H1.out.cells
  have f3 := H1.out.free 3
  have f4 := H1.out.free 4
  have hr1 := HG.out.rows
  have hr2 := HG.out.cols
  have hr3 := HG.out.row
  have hr4 := HG.out.col
  clear hyes hown hb1 HNB
  have HF : Hid (∀ n x, x = min ((t.row : Int) + max a 1) ((t.rows : Int) - 1) → RtStep w r lo g cap t.cells.length bs (t.command 66 [a]) ((w1.drewN n).setCell ⟨r, 3, none⟩ (.int .i64 x))) := Lib.hid (fun n x hx => by
    obtain ⟨n', hn'⟩ : ∃ n', (max a 1).toNat = n' := ⟨_, rfl⟩
    rw [(cmd_one (c := 65) n' hn').2.1]
    have hx' : x = ((min (t.row + n') (t.rows - 1) : Nat) : Int) := by omega
    subst hx'
    exact H1.out.after (t' := { t with row := min (t.row + n') (t.rows - 1) }) HK1.out n rfl rfl)
  go_wp2_with fail
  go_quiet (fail)
  go_wp2_with fail
  go_region
  go_wp2_with fail
  go_returns
  exact ⟨rfl, HF.out _ _ rfl⟩
set_option maxRecDepth 100000 in
set_option maxHeartbeats 1000000 in
theorem refCommand_C {w : World} {r lo g cap : Nat} {bs : List (Nat × Nat)} {t : Tm} (h : RtAt w r lo g cap bs t) (hg : t.Good) (hpl : t.par.length ≤ 1000000) (a : Int) (hn : numsT t.par (-1) = some [a]) :
    Calls Tryd.prog 46 #[.pointer (some ⟨r, 0, none⟩), .int .u8 67] w fun e w' => e = .returned (.tuple #[]) ∧ RtStep w r lo g cap t.cells.length bs (t.command 67 [a]) w' := by
  have ha := numsT_in t.par (-1) [a] (by omega) hn a (by simp)
  obtain ⟨-, -, -, -, -, -, c6⟩ := h.cells
  have H := Lib.hid h
  have HG := Lib.hid hg
  have HN := Lib.hid hn
  have HNB := Lib.hid (refNumbers_any t.par w hpl)
  clear h hg hn hpl
  go_enter Tryd.func46, Tryd.ntmps46
  go_wp2_with fail
  refine HNB.out.mono ?_
  rintro e w1 ⟨hb1, -, hyes⟩
  obtain ⟨g1, cp1, rfl, hown⟩ := hyes [a] HN.out
  obtain ⟨q0, -⟩ := ownInts_at hown (k := 0) (x := a) rfl
  have H1 := Lib.hid (H.out.later hb1)
  have HK1 := Lib.hid (KeepT.of_below (S := RtS r g cap t.cells.length bs) hb1)
  obtain ⟨c0, c1, c2, c3, c4, c5, c6⟩ := H1.out.cells
  have f3 := H1.out.free 3
  have f4 := H1.out.free 4
  have hr1 := HG.out.rows
  have hr2 := HG.out.cols
  have hr3 := HG.out.row
  have hr4 := HG.out.col
  clear hyes hown hb1 HNB
  have HF : Hid (∀ n x, x = min ((t.col : Int) + max a 1) ((t.cols : Int) - 1) → RtStep w r lo g cap t.cells.length bs (t.command 67 [a]) ((w1.drewN n).setCell ⟨r, 4, none⟩ (.int .i64 x))) := Lib.hid (fun n x hx => by
    obtain ⟨n', hn'⟩ : ∃ n', (max a 1).toNat = n' := ⟨_, rfl⟩
    rw [(cmd_one (c := 65) n' hn').2.2.1]
    have hx' : x = ((min (t.col + n') (t.cols - 1) : Nat) : Int) := by omega
    subst hx'
    exact H1.out.after (t' := { t with col := min (t.col + n') (t.cols - 1) }) HK1.out n rfl rfl)
  go_wp2_with fail
  go_quiet (fail)
  go_wp2_with fail
  go_region
  go_wp2_with fail
  go_returns
  exact ⟨rfl, HF.out _ _ rfl⟩
set_option maxRecDepth 100000 in
set_option maxHeartbeats 1000000 in
theorem refCommand_D {w : World} {r lo g cap : Nat} {bs : List (Nat × Nat)} {t : Tm} (h : RtAt w r lo g cap bs t) (hg : t.Good) (hpl : t.par.length ≤ 1000000) (a : Int) (hn : numsT t.par (-1) = some [a]) :
    Calls Tryd.prog 46 #[.pointer (some ⟨r, 0, none⟩), .int .u8 68] w fun e w' => e = .returned (.tuple #[]) ∧ RtStep w r lo g cap t.cells.length bs (t.command 68 [a]) w' := by
  have ha := numsT_in t.par (-1) [a] (by omega) hn a (by simp)
  obtain ⟨-, -, -, -, -, -, c6⟩ := h.cells
  have H := Lib.hid h
  have HG := Lib.hid hg
  have HN := Lib.hid hn
  have HNB := Lib.hid (refNumbers_any t.par w hpl)
  clear h hg hn hpl
  go_enter Tryd.func46, Tryd.ntmps46
  go_wp2_with fail
  refine HNB.out.mono ?_
  rintro e w1 ⟨hb1, -, hyes⟩
  obtain ⟨g1, cp1, rfl, hown⟩ := hyes [a] HN.out
  obtain ⟨q0, -⟩ := ownInts_at hown (k := 0) (x := a) rfl
  have H1 := Lib.hid (H.out.later hb1)
  have HK1 := Lib.hid (KeepT.of_below (S := RtS r g cap t.cells.length bs) hb1)
  obtain ⟨c0, c1, c2, c3, c4, c5, c6⟩ := H1.out.cells
  have f3 := H1.out.free 3
  have f4 := H1.out.free 4
  have hr1 := HG.out.rows
  have hr2 := HG.out.cols
  have hr3 := HG.out.row
  have hr4 := HG.out.col
  clear hyes hown hb1 HNB
  have HF : Hid (∀ n x, x = max ((t.col : Int) - max a 1) 0 → RtStep w r lo g cap t.cells.length bs (t.command 68 [a]) ((w1.drewN n).setCell ⟨r, 4, none⟩ (.int .i64 x))) := Lib.hid (fun n x hx => by
    obtain ⟨n', hn'⟩ : ∃ n', (max a 1).toNat = n' := ⟨_, rfl⟩
    rw [(cmd_one (c := 65) n' hn').2.2.2]
    have hx' : x = ((t.col - n' : Nat) : Int) := by omega
    subst hx'
    exact H1.out.after (t' := { t with col := t.col - n' }) HK1.out n rfl rfl)
  go_wp2_with fail
  go_quiet (fail)
  go_wp2_with fail
  go_returns
  exact ⟨rfl, HF.out _ _ rfl⟩
end Go.Proofs.YtgfcnafhfgncoaaDoor
