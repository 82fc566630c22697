/- The walks of the reference's Check and Apply of splices. -/
import Derived.Test.YtgcncmhaihgldaaDoorSpl6
namespace Go.Proofs.YtgcncmhaihgldaaDoor
open Go Go.Proofs Go.RowKit Go.Ink

theorem refSplCheck_any (s : Spl) (ao : Option Addr) (cap : Nat) (w : World) (hs : SlOf IsStr w ao cap s.ins) (hsh : ∀ t ∈ s.ins, t.length ≤ 9223372036854775807) :
    Calls Tryd.prog 19 #[splV s ao cap] w fun e w' => e = .returned (.int .i64 (checkS s)) ∧ Below w.heap.size w w' := by
  have HAL := Lib.hid (fun o => below_alloc w o)
  have HS := Lib.hid hs; clear hs
  have HSH := Lib.hid hsh; clear hsh
  obtain ⟨pos, del, ins⟩ := s
  simp only [splV] at *
  by_cases h : pos < 0 ∨ del < 0
  · have HV := Lib.hid (show checkS ⟨pos, del, ins⟩ = 2 by unfold checkS; rw [if_pos h])
    by_cases h1 : pos < 0
    · clear h
      go_enter Tryd.func19, Tryd.ntmps19
      go_wp2_with fail
      go_returns
      exact ⟨by rw [HV.out]; rfl, HAL.out _⟩
    · have h2 : del < 0 := h.resolve_left h1
      clear h
      go_enter Tryd.func19, Tryd.ntmps19
      go_wp2_with fail
      go_returns
      exact ⟨by rw [HV.out]; rfl, HAL.out _⟩
  · have HV := Lib.hid (show checkS ⟨pos, del, ins⟩ = checkL ins by unfold checkS; rw [if_neg h])
    have h1 : ¬ pos < 0 := fun e => h (.inl e)
    have h2 : ¬ del < 0 := fun e => h (.inr e)
    clear h
    go_enter Tryd.func19, Tryd.ntmps19
    go_wp2_with fail
    refine (refCheck_any _ _ ins _ (HS.out.later lasts_str (HAL.out _)) HSH.out).mono ?_
    rintro e w1 ⟨rfl, rfl⟩
    go_wp2_with fail
    go_returns
    exact ⟨by rw [HV.out]; rfl, HAL.out _⟩

/-- append of texts that lie somewhere to texts of the call's own. -/
theorem wpList_append_src {w : World} {ops : Array Oper} {rest : List Oper} {o : Oper} {a : Act} {Q : Exit → Act → World → Prop} (hgd : o.guard = none) (s x : Operand)
    (ho : o.op = .call { callee := .builtin .append, args := #[s, x], argTypes := #[22, 22] })
    (base : Nat) (v : Value) (xs : List Line) (hs : a.eval s = v) (hown : OwnStrs w base v xs) (ao : Option Addr) (n c : Nat) (l : List Line) (hn : l.length = n) (hx : a.eval x = .slice ao n c) (hl : SlOf IsStr w ao c l)
    (hb : base ≤ w.heap.size) (hsz : xs.length + l.length ≤ 1000000)
    (h : ∀ v' w', OwnStrs w' base v' (xs ++ l) → Below base w w' → w.heap.size ≤ w'.heap.size → wpList Tryd.prog ops Q rest (a.put o.dst v') w') : wpList Tryd.prog ops Q (o :: rest) a w := by
  subst hn
  obtain ⟨i0, hi, hz0, hz1, hz2⟩ := info_parts str_info
  cases ao with
  | none =>
    have hc : c = 0 := hl.2.2.1 rfl
    have h0 : l = [] := List.eq_nil_of_length_eq_zero (by have := hl.1; omega)
    subst hc h0
    exact wpList_append_own_none hgd s x 22 ho base 9 i0 1 Tryd.underlying22 hi v _ _ hs hown hx (h v w (by rw [List.append_nil]; exact hown) (Below.refl _ _) (Nat.le_refl _))
  | some ad =>
    refine wpList_append_own _ hgd s x 22 ho base 9 i0 (.string ⟨#[]⟩) 1 16 Tryd.underlying22 hi hz0 hz1 hz2 rfl (by decide) v _ _ hs hown ad l.length c (strVs l) hx (by simp [strVs]) (SlOf.strVs hl) (strVs_one l) (by unfold maxLen; omega) (by omega) hb ?_
    intro v' w' h2 h3 _
    exact h v' w' (by simpa [OwnStrs, strVs] using h2) ((Below.refl _ _).grown h3 hb (fun k hk => (hown.lt k hk).1)) h3.size

theorem own_empty (w : World) : OwnStrs (w.alloc (.cells #[] 9 (0, 0))) w.heap.size (.slice (some ⟨w.heap.size, 0, none⟩) 0 0) [] :=
  ⟨by simp [strVs], .inr ⟨w.heap.size, 0, #[], rfl, Nat.le_refl _, heap_alloc_at w _, Nat.le_refl _, by unfold maxLen; omega, by simp, by simp [strVs]⟩⟩

set_option maxRecDepth 100000 in
set_option maxHeartbeats 2000000 in
theorem refApply_any (l : List Line) (ao : Option Addr) (cap : Nat) (s : Spl) (ai : Option Addr) (ci : Nat) (w : World) (hl : SlOf IsStr w ao cap l) (hi : SlOf IsStr w ai ci s.ins) (hlen : l.length ≤ 100000)
    (hs1 : ∀ t ∈ l, t.length ≤ 9223372036854775807) (hs2 : ∀ t ∈ s.ins, t.length ≤ 9223372036854775807) (hic : s.ins.length ≤ 100000) :
    Calls Tryd.prog 13 #[.slice ao l.length cap, splV s ai ci] w (LinesPost w (applyS l s)) := by
  have HAL := Lib.hid (fun o => below_alloc w o)
  have HL := Lib.hid hl
  have hc1 : cap ≤ 9223372036854775807 := hl.2.1
  have hc2 : l.length ≤ cap := hl.1
  clear hl
  have HI := Lib.hid hi
  clear hi
  have HK := Lib.hid (fun w hs => refCheck_any ao cap l w hs hs1)
  have HC := Lib.hid (fun w hs => refSplCheck_any s ai ci w hs hs2)
  clear hs1 hs2
  simp only [splV] at *
  by_cases h0 : checkL l = 0
  · have HV0 := Lib.hid (applyS_of h0 s)
    have H0 := Lib.hid h0; clear h0
    by_cases h1 : checkS s = 0
    · obtain ⟨k1, k2, k3⟩ := checkS_ok h1
      obtain ⟨p, hp⟩ := Int.eq_ofNat_of_zero_le k1
      obtain ⟨d, hd⟩ := Int.eq_ofNat_of_zero_le k2
      have H1 := Lib.hid h1
      obtain ⟨pos, del, ins⟩ := s
      simp only at hp hd hic
      subst hp hd
      simp only at HC HI
      clear k1 k2 k3 h1
      by_cases h2 : l.length < p
      · have HV := Lib.hid (show doneS l ⟨p, d, ins⟩ = ([], 2) by unfold doneS; rw [if_neg (by rw [H1.out]; simp), if_pos (.inl (by simp only; omega))])
        have h2i : (l.length : Int) < (p : Int) := by omega
        go_enter Tryd.func13, Tryd.ntmps13
        go_wp2_with fail
        refine (HK.out _ (HL.out.later lasts_str (HAL.out _))).mono ?_
        rintro e w0 ⟨rfl, rfl⟩
        rw [H0.out]
        go_wp2_with fail
        refine (HC.out _ (HI.out.later lasts_str (HAL.out _))).mono ?_
        rintro e w1 ⟨rfl, hb⟩
        rw [H1.out]
        have HB1 := Lib.hid ((HAL.out _).trans (hb.mono (HAL.out _).size))
        have HBX := Lib.hid ((hb.block w.heap.size (by simp)).trans (heap_alloc_at w _))
        clear hb
        have c0 : w1.cell? ⟨w.heap.size, 0, none⟩ = some (.int .i64 p) := by rw [Lib.cell_of_heap HBX.out]; rfl
        have c1 : w1.cell? ⟨w.heap.size, 1, none⟩ = some (.int .i64 d) := by rw [Lib.cell_of_heap HBX.out]; rfl
        have c2 : w1.cell? ⟨w.heap.size, 2, none⟩ = some (.slice ai ins.length ci) := by rw [Lib.cell_of_heap HBX.out]; rfl
        go_wp2_with fail
        go_returns
        rw [HV0.out, HV.out]
        exact .mk (OwnStrs.nil _ _) HB1.out

      by_cases h3 : l.length < p + d
      · have HV := Lib.hid (show doneS l ⟨p, d, ins⟩ = ([], 2) by unfold doneS; rw [if_neg (by rw [H1.out]; simp), if_pos (.inr (by simp only; omega))])
        have h2i : ¬ (l.length : Int) < (p : Int) := by omega
        have h3i : (l.length : Int) - (p : Int) < (d : Int) := by omega
        go_enter Tryd.func13, Tryd.ntmps13
        go_wp2_with fail
        refine (HK.out _ (HL.out.later lasts_str (HAL.out _))).mono ?_
        rintro e w0 ⟨rfl, rfl⟩
        rw [H0.out]
        go_wp2_with fail
        refine (HC.out _ (HI.out.later lasts_str (HAL.out _))).mono ?_
        rintro e w1 ⟨rfl, hb⟩
        rw [H1.out]
        have HB1 := Lib.hid ((HAL.out _).trans (hb.mono (HAL.out _).size))
        have HBX := Lib.hid ((hb.block w.heap.size (by simp)).trans (heap_alloc_at w _))
        clear hb
        have c0 : w1.cell? ⟨w.heap.size, 0, none⟩ = some (.int .i64 p) := by rw [Lib.cell_of_heap HBX.out]; rfl
        have c1 : w1.cell? ⟨w.heap.size, 1, none⟩ = some (.int .i64 d) := by rw [Lib.cell_of_heap HBX.out]; rfl
        have c2 : w1.cell? ⟨w.heap.size, 2, none⟩ = some (.slice ai ins.length ci) := by rw [Lib.cell_of_heap HBX.out]; rfl
        go_wp2_with fail
        go_returns
        rw [HV0.out, HV.out]
        exact .mk (OwnStrs.nil _ _) HB1.out

      have h2i : ¬ (l.length : Int) < (p : Int) := by omega
      have h3i : ¬ (l.length : Int) - (p : Int) < (d : Int) := by omega
      have e1 : p ≤ cap := by omega
      have e2 : p + d ≤ l.length := by omega
      have e3 : p ≤ l.length := by omega
      go_enter Tryd.func13, Tryd.ntmps13
      go_wp2_with fail
      refine (HK.out _ (HL.out.later lasts_str (HAL.out _))).mono ?_
      rintro e w0 ⟨rfl, rfl⟩
      rw [H0.out]
      go_wp2_with fail
      refine (HC.out _ (HI.out.later lasts_str (HAL.out _))).mono ?_
      rintro e w1 ⟨rfl, hb⟩
      rw [H1.out]
      have HB1 := Lib.hid ((HAL.out _).trans (hb.mono (HAL.out _).size))
      have HBX := Lib.hid ((hb.block w.heap.size (by simp)).trans (heap_alloc_at w _))
      clear hb
      have c0 : w1.cell? ⟨w.heap.size, 0, none⟩ = some (.int .i64 p) := by rw [Lib.cell_of_heap HBX.out]; rfl
      have c1 : w1.cell? ⟨w.heap.size, 1, none⟩ = some (.int .i64 d) := by rw [Lib.cell_of_heap HBX.out]; rfl
      have c2 : w1.cell? ⟨w.heap.size, 2, none⟩ = some (.slice ai ins.length ci) := by rw [Lib.cell_of_heap HBX.out]; rfl
      have hz : w.heap.size < w1.heap.size := lt_of_heap HBX.out
      have hsl2 : (0 : Int) ≤ (p : Int) := by omega
      have hsl3 : (p : Int) ≤ (cap : Int) := by omega
      have hs1 : IntKind.i64.wrap ((p : Int) + (d : Int)) = (p : Int) + (d : Int) := IntWalk.i64_in _ (by omega)
      have hs2 : (0 : Int) ≤ (p : Int) + (d : Int) := by omega
      have hs3 : (p : Int) + (d : Int) ≤ (l.length : Int) := by omega
      have hs4 : ((p : Int) + (d : Int)).toNat = p + d := by omega
      have HTL := Lib.hid (show (l.take p).length = p by rw [List.length_take]; omega)
      obtain ⟨X, hX⟩ : ∃ X, X = l.take p := ⟨_, rfl⟩
      rw [← hX] at HTL
      have HXX := Lib.hid hX
      clear hX
      have HBA := Lib.hid (HB1.out.trans ((below_alloc w1 (.cells #[] 9 (0, 0))).mono HB1.out.size))
      have HDR := Lib.hid (show (l.drop (p + d)).length = l.length - (p + d) by rw [List.length_drop])
      obtain ⟨R, hR⟩ : ∃ R, R = l.drop (p + d) := ⟨_, rfl⟩
      rw [← hR] at HDR
      have HR := Lib.hid hR
      clear hR
      rcases ao with _ | ad
      · have hcap0 : cap = 0 := HL.out.2.2.1 rfl
        have hl0 : l.length = 0 := by omega
        have HD3 := Lib.hid (show ∀ w', SlOf IsStr w' none (cap - (p + d)) R from fun w' => by
          have : R = [] := List.eq_nil_of_length_eq_zero (by have := HDR.out; omega)
          rw [this, show cap - (p + d) = 0 by omega]
          exact slOf_none w')
        have HD1 := Lib.hid (show ∀ w', SlOf IsStr w' none cap X from fun w' => by
          have : X = [] := List.eq_nil_of_length_eq_zero (by have := HTL.out; omega)
          rw [this, hcap0]
          exact slOf_none w')
        clear hl0 hcap0
        go_wp2_with (at_builtin; refine wpList_append_src rfl _ _ rfl w1.heap.size _ [] rfl (own_empty w1) none p cap X HTL.out rfl (HD1.out _) (by simp) (by have := HTL.out; simp only [List.length_nil]; omega) ?_)
        intro v2 w2 ho2 hb2 hg2
        have HB2 := Lib.hid ((below_alloc w1 _).trans hb2)
        obtain ⟨a2, k2, hv2⟩ := ownsRow_shape ho2
        subst hv2
        have HO2 := Lib.hid ho2
        clear ho2 hb2
        have z2 : w1.heap.size ≤ w2.heap.size := HB2.out.size
        have c0' := (HB2.out.cell (p := ⟨w.heap.size, 0, none⟩) hz).trans c0
        have c1' := (HB2.out.cell (p := ⟨w.heap.size, 1, none⟩) hz).trans c1
        have c2' := (HB2.out.cell (p := ⟨w.heap.size, 2, none⟩) hz).trans c2
        have HI2 := Lib.hid (HI.out.later lasts_str (HB1.out.trans (HB2.out.mono HB1.out.size)))
        go_wp2_with (at_builtin; refine wpList_append_src rfl _ _ rfl w1.heap.size _ _ rfl HO2.out ai ins.length ci ins rfl rfl HI2.out z2 (by have := HTL.out; omega) ?_)
        have HYL := Lib.hid (show (X ++ ins).length = p + ins.length by rw [List.length_append, HTL.out])
        obtain ⟨Y, hY⟩ : ∃ Y, Y = X ++ ins := ⟨_, rfl⟩
        rw [← hY] at HYL ⊢
        have HY := Lib.hid hY
        clear hY
        intro v3 w3 ho3 hb3 hg3
        have HB3 := Lib.hid (HB2.out.trans (hb3.mono (Nat.le_refl _)))
        obtain ⟨a3, k3, hv3⟩ := ownsRow_shape ho3
        subst hv3
        have HO3 := Lib.hid ho3
        clear ho3 hb3
        have z3 : w1.heap.size ≤ w3.heap.size := HB3.out.size
        have c0'' := (HB3.out.cell (p := ⟨w.heap.size, 0, none⟩) hz).trans c0
        have c1'' := (HB3.out.cell (p := ⟨w.heap.size, 1, none⟩) hz).trans c1
        have HL3 := Lib.hid (HL.out.later lasts_str (HB1.out.trans (HB3.out.mono HB1.out.size)))
        go_wp2_with (at_builtin; refine wpList_append_src rfl _ _ rfl w1.heap.size _ _ rfl HO3.out _ _ _ R HDR.out rfl (HD3.out _) z3 (by have := HYL.out; have := HDR.out; omega) ?_)
        all_goals (
          have HZL := Lib.hid (show (Y ++ R).length = p + ins.length + (l.length - (p + d)) by rw [List.length_append, HYL.out, HDR.out])
          obtain ⟨Z, hZ⟩ : ∃ Z, Z = Y ++ R := ⟨_, rfl⟩
          rw [← hZ] at HZL ⊢
          have HVZ := Lib.hid (show l.take p ++ ins ++ l.drop (p + d) = Z by rw [hZ, HY.out, HXX.out, HR.out])
          clear hZ
          intro v4 w4 ho4 hb4 hg4
          have HB4 := Lib.hid (HB3.out.trans (hb4.mono (Nat.le_refl _)))
          obtain ⟨a4, k4, hv4⟩ := ownsRow_shape ho4
          subst hv4
          have HO4 := Lib.hid ho4
          clear ho4 hb4
          by_cases h4 : 2000 < Z.length
          · have h4i : (2000 : Int) < (Z.length : Int) := by omega
            have HV := Lib.hid (show doneS l ⟨p, d, ins⟩ = ([], 3) by
              unfold doneS
              have := HZL.out
              rw [if_neg (by rw [H1.out]; simp), if_neg (by simp only; omega), if_pos (by simp only; omega)])
            go_wp2_with fail
            go_returns
            rw [HV0.out, HV.out]
            exact .mk (OwnStrs.nil _ _) (HB1.out.trans (HB4.out.mono HB1.out.size))
          · have h4i : ¬ (2000 : Int) < (Z.length : Int) := by omega
            have HV := Lib.hid (show doneS l ⟨p, d, ins⟩ = (Z, 0) by
              have := HZL.out
              rw [doneS_of H1.out (by simp only [Int.toNat_natCast]; omega) (by simp only [Int.toNat_natCast]; omega)]
              simp only [Int.toNat_natCast]
              rw [HVZ.out])
            go_wp2_with fail
            go_returns
            rw [HV0.out, HV.out]
            exact .mk (ownsRow_base HO4.out HB1.out.size) (HB1.out.trans (HB4.out.mono HB1.out.size)))

      · have HD3 := Lib.hid (show ∀ w', SlOf IsStr w' (some ad) cap l → SlOf IsStr w' (if cap = p + d then some ad else some (ad.add (p + d))) (cap - (p + d)) R from fun w' hl => by
          rw [HR.out]
          by_cases hpc : cap = p + d
          · have : l.drop (p + d) = [] := List.drop_eq_nil_of_le (by omega)
            rw [if_pos hpc, this]
            exact slOf_nil ad _ (by unfold maxLen; omega)
          · rw [if_neg hpc]
            exact slOf_drop hl (p + d))
        go_wp2_with (at_builtin; refine wpList_append_src rfl _ _ rfl w1.heap.size _ [] rfl (own_empty w1) (some ad) p cap X HTL.out rfl (HXX.out ▸ slOf_take (HL.out.later lasts_str HBA.out) p) (by simp) (by have := HTL.out; simp only [List.length_nil]; omega) ?_)
        intro v2 w2 ho2 hb2 hg2
        have HB2 := Lib.hid ((below_alloc w1 _).trans hb2)
        obtain ⟨a2, k2, hv2⟩ := ownsRow_shape ho2
        subst hv2
        have HO2 := Lib.hid ho2
        clear ho2 hb2
        have z2 : w1.heap.size ≤ w2.heap.size := HB2.out.size
        have c0' := (HB2.out.cell (p := ⟨w.heap.size, 0, none⟩) hz).trans c0
        have c1' := (HB2.out.cell (p := ⟨w.heap.size, 1, none⟩) hz).trans c1
        have c2' := (HB2.out.cell (p := ⟨w.heap.size, 2, none⟩) hz).trans c2
        have HI2 := Lib.hid (HI.out.later lasts_str (HB1.out.trans (HB2.out.mono HB1.out.size)))
        go_wp2_with (at_builtin; refine wpList_append_src rfl _ _ rfl w1.heap.size _ _ rfl HO2.out ai ins.length ci ins rfl rfl HI2.out z2 (by have := HTL.out; omega) ?_)
        have HYL := Lib.hid (show (X ++ ins).length = p + ins.length by rw [List.length_append, HTL.out])
        obtain ⟨Y, hY⟩ : ∃ Y, Y = X ++ ins := ⟨_, rfl⟩
        rw [← hY] at HYL ⊢
        have HY := Lib.hid hY
        clear hY
        intro v3 w3 ho3 hb3 hg3
        have HB3 := Lib.hid (HB2.out.trans (hb3.mono (Nat.le_refl _)))
        obtain ⟨a3, k3, hv3⟩ := ownsRow_shape ho3
        subst hv3
        have HO3 := Lib.hid ho3
        clear ho3 hb3
        have z3 : w1.heap.size ≤ w3.heap.size := HB3.out.size
        have c0'' := (HB3.out.cell (p := ⟨w.heap.size, 0, none⟩) hz).trans c0
        have c1'' := (HB3.out.cell (p := ⟨w.heap.size, 1, none⟩) hz).trans c1
        have HL3 := Lib.hid (HL.out.later lasts_str (HB1.out.trans (HB3.out.mono HB1.out.size)))
        go_wp2_with (at_builtin; refine wpList_append_src rfl _ _ rfl w1.heap.size _ _ rfl HO3.out _ _ _ R HDR.out rfl (HD3.out _ HL3.out) z3 (by have := HYL.out; have := HDR.out; omega) ?_)
        all_goals (
          have HZL := Lib.hid (show (Y ++ R).length = p + ins.length + (l.length - (p + d)) by rw [List.length_append, HYL.out, HDR.out])
          obtain ⟨Z, hZ⟩ : ∃ Z, Z = Y ++ R := ⟨_, rfl⟩
          rw [← hZ] at HZL ⊢
          have HVZ := Lib.hid (show l.take p ++ ins ++ l.drop (p + d) = Z by rw [hZ, HY.out, HXX.out, HR.out])
          clear hZ
          intro v4 w4 ho4 hb4 hg4
          have HB4 := Lib.hid (HB3.out.trans (hb4.mono (Nat.le_refl _)))
          obtain ⟨a4, k4, hv4⟩ := ownsRow_shape ho4
          subst hv4
          have HO4 := Lib.hid ho4
          clear ho4 hb4
          by_cases h4 : 2000 < Z.length
          · have h4i : (2000 : Int) < (Z.length : Int) := by omega
            have HV := Lib.hid (show doneS l ⟨p, d, ins⟩ = ([], 3) by
              unfold doneS
              have := HZL.out
              rw [if_neg (by rw [H1.out]; simp), if_neg (by simp only; omega), if_pos (by simp only; omega)])
            go_wp2_with fail
            go_returns
            rw [HV0.out, HV.out]
            exact .mk (OwnStrs.nil _ _) (HB1.out.trans (HB4.out.mono HB1.out.size))
          · have h4i : ¬ (2000 : Int) < (Z.length : Int) := by omega
            have HV := Lib.hid (show doneS l ⟨p, d, ins⟩ = (Z, 0) by
              have := HZL.out
              rw [doneS_of H1.out (by simp only [Int.toNat_natCast]; omega) (by simp only [Int.toNat_natCast]; omega)]
              simp only [Int.toNat_natCast]
              rw [HVZ.out])
            go_wp2_with fail
            go_returns
            rw [HV0.out, HV.out]
            exact .mk (ownsRow_base HO4.out HB1.out.size) (HB1.out.trans (HB4.out.mono HB1.out.size)))

    · have HV := Lib.hid (show doneS l s = ([], checkS s) by unfold doneS; rw [if_pos h1])
      have hq : (checkS s == 0) = false := by simpa using h1
      go_enter Tryd.func13, Tryd.ntmps13
      go_wp2_with fail
      refine (HK.out _ (HL.out.later lasts_str (HAL.out _))).mono ?_
      rintro e w0 ⟨rfl, rfl⟩
      rw [H0.out]
      go_wp2_with fail
      refine (HC.out _ (HI.out.later lasts_str (HAL.out _))).mono ?_
      rintro e w1 ⟨rfl, hb⟩
      have HB1 := Lib.hid ((HAL.out _).trans (hb.mono (HAL.out _).size)); clear hb
      go_wp2_with fail
      go_returns
      rw [HV0.out, HV.out]
      exact .mk (OwnStrs.nil _ _) HB1.out
  · have HV := Lib.hid (show applyS l s = ([], checkL l) by unfold applyS; rw [if_pos h0])
    have hq : (checkL l == 0) = false := by simpa using h0
    clear h0
    go_enter Tryd.func13, Tryd.ntmps13
    go_wp2_with fail
    refine (HK.out _ (HL.out.later lasts_str (HAL.out _))).mono ?_
    rintro e w0 ⟨rfl, rfl⟩
    go_wp2_with fail
    go_returns
    rw [HV.out]
    exact .mk (OwnStrs.nil _ _) (HAL.out _)
end Go.Proofs.YtgcncmhaihgldaaDoor
