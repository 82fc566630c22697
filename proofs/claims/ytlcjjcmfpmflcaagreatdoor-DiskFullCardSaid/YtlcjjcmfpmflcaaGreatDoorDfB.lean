/- A command of package disk that is being done: w to the file that the buffer has, whatever Write answers (chapter 24). -/
import Derived.Test.YtlcjjcmfpmflcaaGreatDoorDr7
import Derived.Test.YtlcjjcmfpmflcaaGreatDoorDfA
import Derived.Test.YtlcjjcmfpmflcaaGreatDoorCoA
set_option linter.unusedVariables false
set_option linter.unusedSimpArgs false
namespace Go.Proofs.YtlcjjcmfpmflcaaGreatDoor
open Go Go.Proofs Go.Ev Go.RowKit Go.Ink Go.Sort

section
variable {S F : Nat → Prop} {w w' : World} {d c : Nat} {nm : List UInt8} {f : Addr}
set_option maxRecDepth 100000 in
set_option maxHeartbeats 2000000 in
theorem diskWriteF_ok {t r : Nat} {cur : Int} {dirty : Bool} {undo was held : Option Addr} {dn : Value} {ps : List (List Line)} {L : List Line} {J : List UInt8} (h : RunD w d [] nm [] c false false f 119) (hc : CoreB w c t cur [] r dirty undo was held dn) (ht : TabOf S w t ps) (hF : ps.flatten = L) (hl : ps.length ≤ 100000) (hm : manyS ps ≤ 1000000)
    {P1 P2 : World → (Nat → Prop) → Prop} (hfs : P1 w F) (hP1l : ∀ X Y G, P1 X G → Below X.heap.size X Y → P1 Y G) (hP1k : ∀ X Y G S, P1 X G → KeepT S X Y → (∀ r, S r → ¬ G r) → P1 Y G) (hP2l : ∀ X Y G, P2 X G → Below X.heap.size X Y → P2 Y G) (hP2k : ∀ X Y G S, P2 X G → KeepT S X Y → (∀ r, S r → ¬ G r) → P2 Y G)
    (hWr : ∀ X, P1 X F → Calls Tryz.prog 10 #[.pointer (some f), .string ⟨nm.toArray⟩, .string ⟨J.toArray⟩] X fun e w' => e = .returned (.int .i64 0) ∧ P2 w' (fun r => F r ∨ (X.heap.size ≤ r ∧ r < w'.heap.size)) ∧ KeepT F X w') (hSc : S c) (hFc : ¬ F c) (hFd : ¬ F d) (hcd : c ≠ d) (hn : nameB nm = true) (hJ : joinL L = J) (hJl : J.length ≤ 30000) (h10 : ∀ X, KeepT (FCD F c d) w X → Tab10 X) :
    Calls Tryz.prog 95 #[.pointer (some ⟨d, 0, none⟩)] w fun e w' => e = .returned (.int .i64 0) ∧ RunD w' d (toldL J.length) nm [] c true false f 119 ∧ CoreB w' c t cur [] r false undo was held dn ∧ (∃ w1 w2 : World, P2 w' (fun x => F x ∨ (w1.heap.size ≤ x ∧ x < w2.heap.size)) ∧ w.heap.size ≤ w1.heap.size ∧ w2.heap.size ≤ w'.heap.size) ∧ KeepT (FCD F c d) w w' := by
  obtain ⟨q1, q2, q3⟩ := nameB_parts hn
  have HR := Lib.hid h
  have HC := Lib.hid hc
  have HT := Lib.hid ht
  have HFS := Lib.hid hfs
  have H10 := Lib.hid h10
  have HWR := Lib.hid hWr
  have HPS := Lib.hid (⟨hP1l, hP1k, hP2l, hP2k⟩ : (∀ X Y G, P1 X G → Below X.heap.size X Y → P1 Y G) ∧ (∀ X Y G S, P1 X G → KeepT S X Y → (∀ r, S r → ¬ G r) → P1 Y G) ∧ (∀ X Y G, P2 X G → Below X.heap.size X Y → P2 Y G) ∧ (∀ X Y G S, P2 X G → KeepT S X Y → (∀ r, S r → ¬ G r) → P2 Y G))
  have hnb : (nm == []) = false := by rw [beq_eq_false_iff_ne]; exact q1
  have HFL := Lib.hid (fun (X : World) (hX : RunD X d [] nm [] c false false f 119) => (show Calls Tryz.prog 124 #[.pointer (some ⟨d, 0, none⟩)] X fun e w' => e = .returned (.tuple #[.string ⟨nm.toArray⟩, .int .i64 0]) ∧ w' = X from by
    have e := diskFile hX (by omega) (by simp)
    rw [show fileN nm [] = nm from rfl, hn, if_pos rfl] at e
    exact e))
  have HVW := Lib.hid (fun (X : World) (hb : Below w.heap.size w X) => coreView_any (hc.later hb) (ht.later hb) hl hm)
  have HEV := Lib.hid (show ∀ (X : World) (la : Option Addr) (lcp : Nat), Calls Tryz.prog 127 #[.agg (viewCells (.slice la (manyS ps) lcp) cur []).toArray, .agg #[.slice none 0 0, .slice none 0 0]] X fun e w' => e = .returned (.tuple #[.int .i64 0, .int .i64 0, .int .i64 0, .string ⟨#[]⟩, .int .i64 0]) ∧ Below X.heap.size X w' from
    fun X la lcp => addrEval_none X (viewCells (.slice la (manyS ps) lcp) cur []) [] rfl)
  have HNC := Lib.hid (fun (X : World) (h : CoreOf S X c t cur ps) => coreN_of h)
  have HAL := Lib.hid (fun (X : World) (h : CoreOf S X c t cur ps) => coreAllD_of h L hF)
  have HJN := Lib.hid (fun (X : World) (ao : Option Addr) (cap : Nat) (h : SlOf IsStr X ao cap L) => (show Calls Tryz.prog 18 #[.slice ao L.length cap] X fun e w' => e = .returned (.string ⟨J.toArray⟩) ∧ Below X.heap.size X w' from by
    have e := linesJoin_any L ao cap X h (by rw [hJ]; omega)
    rw [hJ] at e
    exact e))
  have HCO := Lib.hid (fun (X : World) (h : CoreB X c t cur [] r dirty undo was held dn) (hT : TabOf S X t ps) => (⟨h.c0, h.c1, hT, hl, hm⟩ : CoreOf S X c t cur ps))
  obtain ⟨M, hM⟩ : ∃ M, M = manyS ps := ⟨_, rfl⟩
  rw [← hM] at HNC HAL HVW HEV hm
  obtain ⟨a, ha⟩ : ∃ a : Int, min (1 : Int) (M : Int) = a := ⟨_, rfl⟩
  have hna : ¬ a < a := by omega
  have hmx : max a 1 = 1 := by omega
  have hw1 : IntKind.i64.wrap ((M : Int) - 1) = (M : Int) - 1 := IntWalk.i64_in _ (by omega)
  have hw2 : IntKind.i64.wrap ((M : Int) - 1 + 1) = (M : Int) := by rw [IntWalk.i64_in _ (by omega)]; omega
  have hMM : ((M : Int) == (M : Int)) = true := beq_self_eq_true _
  have hnn : (nm == nm) = true := beq_self_eq_true _
  have hap : (⟨#[]⟩ : ByteArray) ++ ⟨J.toArray⟩ = ⟨J.toArray⟩ := nil_add_bytes J
  have hs0 : ¬ 9223372036854775807 < 0 + J.length := by omega
  have HSJ := size_mk J
  have e1 := h.at 1 rfl
  have e8 := h.at 8 rfl
  have e9 := h.at 9 rfl
  have HX := Lib.hid (Below.refl w.heap.size w)
  have HSS := Lib.hid (⟨hSc, hFc, hFd, hcd⟩ : S c ∧ ¬ F c ∧ ¬ F d ∧ c ≠ d)
  have HTD := Lib.hid (fun (X : World) (hX : Tab10 X) => told_any J.length (by omega) X hX)
  generalize toldL J.length = TD at *
  clear h hc ht hfs h10 q1 q2 q3 hn hF hM hJ hSc hFc hFd hcd hWr hP1l hP1k hP2l hP2k
  go_enter Tryz.func95, Tryz.ntmps95
  go_wp2_with fail
  go_region_held3 (fun w' => w'.cell? ⟨d, 1, none⟩ = some (.pointer (some ⟨c, 0, none⟩)) ∧ w'.cell? ⟨d, 8, none⟩ = some (.slice none 0 0) ∧ w'.cell? ⟨d, 9, none⟩ = some (.slice none 0 0))
    (first | exact ⟨e1, e8, e9⟩ | exact ⟨q1, q8, q9⟩ | exact ⟨p1, p8, p9⟩ | go_keep)
    (first
      | ((with_reducible refine (HVW.out _ HX.out.drew).mono ?_); rintro e w1 ⟨la, lcp, rfl, hs1, hb1⟩; have HB1 := Lib.hid (HX.out.drew.trans hb1); have q1 := (hb1.cell (p := ⟨d, 1, none⟩) (lt_of_cell e1)).trans e1; have q8 := (hb1.cell (p := ⟨d, 8, none⟩) (lt_of_cell e8)).trans e8; have q9 := (hb1.cell (p := ⟨d, 9, none⟩) (lt_of_cell e9)).trans e9; clear hb1 hs1)
      | ((with_reducible refine (HEV.out _ la lcp).mono ?_); rintro e w2 ⟨rfl, hb2⟩; have HB2 := Lib.hid (HB1.out.trans (hb2.mono HB1.out.size)); have p1 := (hb2.cell (p := ⟨d, 1, none⟩) (lt_of_cell q1)).trans q1; have p8 := (hb2.cell (p := ⟨d, 8, none⟩) (lt_of_cell q8)).trans q8; have p9 := (hb2.cell (p := ⟨d, 9, none⟩) (lt_of_cell q9)).trans q9; clear hb2)
      | (fail "no arm"))
  have HC2 := Lib.hid (HC.out.later HB2.out)
  have HR2 := Lib.hid (HR.out.later HB2.out)
  have HT2 := Lib.hid (HT.out.later HB2.out)
  have HF2 := Lib.hid (HPS.out.1 _ _ _ HFS.out HB2.out)
  clear q1 q8 q9 p8 p9 e1 e8 e9 HX HB1 HVW HEV
  go_wp2_with fail
  refine (coreLast_of HC2.out []).mono ?_
  rintro e w3 ⟨rfl, hc3, hk3⟩
  obtain ⟨hSc, hFc, hFd, hcd⟩ := HSS.out
  have HC3 := Lib.hid hc3
  have HR3 := Lib.hid (HR2.out.kept hk3 (by unfold Only; omega))
  have HT3 := Lib.hid (HT2.out.kept (hk3.mono (fun k _ hk => by unfold Only at hk; subst hk; exact hSc)))
  have HF3 := Lib.hid (HPS.out.2.1 _ _ _ _ HF2.out hk3 (fun r hr => by unfold Only at hr; subst hr; exact hFc))
  have HK3 := Lib.hid ((KeepT.of_below (S := FCD F c d) HB2.out).trans hk3 (fun k _ hk => .inr (.inl hk)))
  have r1 := HR3.out.at 1 rfl
  have r2 := HR3.out.at 2 rfl
  have r7 := HR3.out.at 7 rfl
  have r10 := HR3.out.at 10 rfl
  clear hc3 hk3 hSc hFc hFd hcd p1 HB2 HC2 HR2 HT2 HF2
  go_wp2_with fail
  refine (HNC.out _ (HCO.out _ HC3.out HT3.out)).mono ?_
  rintro e w4 ⟨rfl, rfl⟩
  go_wp2_with fail
  refine (HFL.out _ HR3.out).mono ?_
  rintro e w5 ⟨rfl, rfl⟩
  go_wp2_with fail
  refine (HAL.out _ (HCO.out _ HC3.out HT3.out)).mono ?_
  rintro e w6 ⟨ao, cap, rfl, hs6, hb6⟩
  have HB6 := Lib.hid hb6
  have HS6 := Lib.hid hs6
  clear hs6 hb6
  go_wp2_with fail
  refine (HJN.out _ ao cap HS6.out).mono ?_
  rintro e w7 ⟨rfl, hb7⟩
  have HB7 := Lib.hid (HB6.out.trans (hb7.mono HB6.out.size))
  have HR7 := Lib.hid (HR3.out.later HB7.out)
  have HC7 := Lib.hid (HC3.out.later HB7.out)
  have HF7 := Lib.hid (HPS.out.1 _ _ _ HF3.out HB7.out)
  have HK7 := Lib.hid (HK3.out.then_below HB7.out)
  have s7 := HR7.out.at 7 rfl
  have s10 := HR7.out.at 10 rfl
  clear hb7 r1 r2 r7 r10
  go_wp2_with fail
  refine (HWR.out _ HF7.out).mono ?_
  rintro e w8 ⟨rfl, hf8, hk8⟩
  obtain ⟨_, hFc, hFd, hcd⟩ := HSS.out
  have HR8 := Lib.hid (HR7.out.kept hk8 hFd)
  have HC8 := Lib.hid (HC7.out.kept hk8 hFc)
  have HF8 := Lib.hid hf8
  have HK8 := Lib.hid (HK7.out.trans hk8 (fun k _ hk => .inl hk))
  have HZ8 := Lib.hid (hk8.size)
  have u2 := HR8.out.at 2 rfl
  have HV2 := HR8
  have HC9 := HC8
  have HF9 := HF8
  have HK9 := HK8
  have h1 := H10.out _ HK9.out
  have HT9 := Lib.hid h1
  clear hf8 hk8 s7 s10 hFc hFd hcd h1
  go_wp2_with fail
  refine (HTD.out _ HT9.out).mono ?_
  rintro e w10 ⟨rfl, hb10⟩
  obtain ⟨_, hFc, hFd, hcd⟩ := HSS.out
  have v10 := HV2.out.later hb10
  have hz10 : w8.heap.size ≤ w10.heap.size := hb10.size
  have HK10 := Lib.hid (HK9.out.then_below hb10)
  have u0 := v10.at 0 rfl
  have g0 := v10.fz 0
  have x0 := v10.set0 TD
  have k0 : KeepT (Only d) w10 (w10.setCell ⟨d, 0, none⟩ (.string ⟨TD.toArray⟩)) := keepIn (eqIn d) (KeepT.refl _ w10) 0 _
  have HC11 := Lib.hid ((HC9.out.later hb10).kept k0 (by unfold Only; exact hcd))
  have HF11 := Lib.hid (HPS.out.2.2.2 _ _ _ _ (HPS.out.2.2.1 _ _ _ HF9.out hb10) k0 (fun r hr => by
    unfold Only at hr; subst hr
    rintro (h | h)
    · exact hFd h
    · have := HR7.out.lt; omega))
  have HK11 := Lib.hid (HK10.out.trans k0 (fun k _ hk => .inr (.inr hk)))
  have HV11 := Lib.hid x0
  have y1 := x0.at 1 rfl
  have y2 := x0.at 2 rfl
  have y10 := x0.at 10 rfl
  clear hb10 v10 x0 k0 hFc hFd hcd u2
  go_wp2_with fail
  refine (coreClean_of HC11.out).mono ?_
  rintro e w12 ⟨rfl, hc12, hk12⟩
  obtain ⟨_, hFc, hFd, hcd⟩ := HSS.out
  have HC12 := Lib.hid hc12
  have v12 := HV11.out.kept hk12 (by unfold Only; exact hcd.symm)
  have u5 := v12.at 5 rfl
  have g5 := v12.fz 5
  have x5 := v12.set5 true
  have k5 : KeepT (Only d) w12 (w12.setCell ⟨d, 5, none⟩ (.bool true)) := keepIn (eqIn d) (KeepT.refl _ w12) 5 _
  have HF12 := Lib.hid (HPS.out.2.2.2 _ _ _ _ (HPS.out.2.2.2 _ _ _ _ HF11.out hk12 (fun r hr => by
    unfold Only at hr; subst hr
    rintro (h | h)
    · exact hFc h
    · have := HC7.out.lt; omega)) k5 (fun r hr => by
    unfold Only at hr; subst hr
    rintro (h | h)
    · exact hFd h
    · have := HR7.out.lt; omega))
  have HC13 := Lib.hid (HC12.out.kept k5 (by unfold Only; exact hcd))
  have HV13 := Lib.hid x5
  have HK13 := Lib.hid ((HK11.out.trans hk12 (fun k _ hk => .inr (.inl hk))).trans k5 (fun k _ hk => .inr (.inr hk)))
  have HS13 := Lib.hid (show w8.heap.size ≤ _ from Nat.le_trans (show w8.heap.size ≤ (w10.setCell ⟨d, 0, none⟩ (.string ⟨TD.toArray⟩)).heap.size by simpa [World.setCell] using hz10) (Nat.le_trans hk12.size k5.size))
  clear hc12 hk12 v12 x5 k5 hFc hFd hcd y1 y2 y10 u0 g0
  go_wp2_with fail
  go_returns
  refine ⟨rfl, HV13.out, HC13.out, ⟨w7, w8, HF12.out, HK7.out.size, HS13.out⟩, HK13.out⟩
set_option maxRecDepth 100000 in
set_option maxHeartbeats 2000000 in
theorem diskWriteF_no {t r : Nat} {cur : Int} {dirty : Bool} {undo was held : Option Addr} {dn : Value} {ps : List (List Line)} {L : List Line} {J : List UInt8} (h : RunD w d [] nm [] c false false f 119) (hc : CoreB w c t cur [] r dirty undo was held dn) (ht : TabOf S w t ps) (hF : ps.flatten = L) (hl : ps.length ≤ 100000) (hm : manyS ps ≤ 1000000)
    {P1 P2 : World → (Nat → Prop) → Prop} {z : Int} (hz : (z == 0) = false) (hfs : P1 w F) (hP1l : ∀ X Y G, P1 X G → Below X.heap.size X Y → P1 Y G) (hP1k : ∀ X Y G S, P1 X G → KeepT S X Y → (∀ r, S r → ¬ G r) → P1 Y G) (hP2l : ∀ X Y G, P2 X G → Below X.heap.size X Y → P2 Y G) (hP2k : ∀ X Y G S, P2 X G → KeepT S X Y → (∀ r, S r → ¬ G r) → P2 Y G)
    (hWr : ∀ X, P1 X F → Calls Tryz.prog 10 #[.pointer (some f), .string ⟨nm.toArray⟩, .string ⟨J.toArray⟩] X fun e w' => e = .returned (.int .i64 z) ∧ P2 w' (fun r => F r ∨ (X.heap.size ≤ r ∧ r < w'.heap.size)) ∧ KeepT F X w') (hSc : S c) (hFc : ¬ F c) (hFd : ¬ F d) (hcd : c ≠ d) (hn : nameB nm = true) (hJ : joinL L = J) (hJl : J.length ≤ 30000) (h10 : ∀ X, KeepT (FCD F c d) w X → Tab10 X) :
    Calls Tryz.prog 95 #[.pointer (some ⟨d, 0, none⟩)] w fun e w' => e = .returned (.int .i64 z) ∧ CoreB w' c t cur [] r dirty undo was held dn ∧ (∃ w1 w2 : World, P2 w' (fun x => F x ∨ (w1.heap.size ≤ x ∧ x < w2.heap.size)) ∧ w.heap.size ≤ w1.heap.size ∧ w2.heap.size ≤ w'.heap.size) ∧ KeepT (FCD F c d) w w' := by
  obtain ⟨q1, q2, q3⟩ := nameB_parts hn
  have HR := Lib.hid h
  have HC := Lib.hid hc
  have HT := Lib.hid ht
  have HFS := Lib.hid hfs
  have H10 := Lib.hid h10
  have HWR := Lib.hid hWr
  have HPS := Lib.hid (⟨hP1l, hP1k, hP2l, hP2k⟩ : (∀ X Y G, P1 X G → Below X.heap.size X Y → P1 Y G) ∧ (∀ X Y G S, P1 X G → KeepT S X Y → (∀ r, S r → ¬ G r) → P1 Y G) ∧ (∀ X Y G, P2 X G → Below X.heap.size X Y → P2 Y G) ∧ (∀ X Y G S, P2 X G → KeepT S X Y → (∀ r, S r → ¬ G r) → P2 Y G))
  have hnb : (nm == []) = false := by rw [beq_eq_false_iff_ne]; exact q1
  have HFL := Lib.hid (fun (X : World) (hX : RunD X d [] nm [] c false false f 119) => (show Calls Tryz.prog 124 #[.pointer (some ⟨d, 0, none⟩)] X fun e w' => e = .returned (.tuple #[.string ⟨nm.toArray⟩, .int .i64 0]) ∧ w' = X from by
    have e := diskFile hX (by omega) (by simp)
    rw [show fileN nm [] = nm from rfl, hn, if_pos rfl] at e
    exact e))
  have HVW := Lib.hid (fun (X : World) (hb : Below w.heap.size w X) => coreView_any (hc.later hb) (ht.later hb) hl hm)
  have HEV := Lib.hid (show ∀ (X : World) (la : Option Addr) (lcp : Nat), Calls Tryz.prog 127 #[.agg (viewCells (.slice la (manyS ps) lcp) cur []).toArray, .agg #[.slice none 0 0, .slice none 0 0]] X fun e w' => e = .returned (.tuple #[.int .i64 0, .int .i64 0, .int .i64 0, .string ⟨#[]⟩, .int .i64 0]) ∧ Below X.heap.size X w' from
    fun X la lcp => addrEval_none X (viewCells (.slice la (manyS ps) lcp) cur []) [] rfl)
  have HNC := Lib.hid (fun (X : World) (h : CoreOf S X c t cur ps) => coreN_of h)
  have HAL := Lib.hid (fun (X : World) (h : CoreOf S X c t cur ps) => coreAllD_of h L hF)
  have HJN := Lib.hid (fun (X : World) (ao : Option Addr) (cap : Nat) (h : SlOf IsStr X ao cap L) => (show Calls Tryz.prog 18 #[.slice ao L.length cap] X fun e w' => e = .returned (.string ⟨J.toArray⟩) ∧ Below X.heap.size X w' from by
    have e := linesJoin_any L ao cap X h (by rw [hJ]; omega)
    rw [hJ] at e
    exact e))
  have HCO := Lib.hid (fun (X : World) (h : CoreB X c t cur [] r dirty undo was held dn) (hT : TabOf S X t ps) => (⟨h.c0, h.c1, hT, hl, hm⟩ : CoreOf S X c t cur ps))
  obtain ⟨M, hM⟩ : ∃ M, M = manyS ps := ⟨_, rfl⟩
  rw [← hM] at HNC HAL HVW HEV hm
  obtain ⟨a, ha⟩ : ∃ a : Int, min (1 : Int) (M : Int) = a := ⟨_, rfl⟩
  have hna : ¬ a < a := by omega
  have hmx : max a 1 = 1 := by omega
  have hw1 : IntKind.i64.wrap ((M : Int) - 1) = (M : Int) - 1 := IntWalk.i64_in _ (by omega)
  have hw2 : IntKind.i64.wrap ((M : Int) - 1 + 1) = (M : Int) := by rw [IntWalk.i64_in _ (by omega)]; omega
  have hMM : ((M : Int) == (M : Int)) = true := beq_self_eq_true _
  have hnn : (nm == nm) = true := beq_self_eq_true _
  have hap : (⟨#[]⟩ : ByteArray) ++ ⟨J.toArray⟩ = ⟨J.toArray⟩ := nil_add_bytes J
  have hs0 : ¬ 9223372036854775807 < 0 + J.length := by omega
  have HSJ := size_mk J
  have e1 := h.at 1 rfl
  have e8 := h.at 8 rfl
  have e9 := h.at 9 rfl
  have HX := Lib.hid (Below.refl w.heap.size w)
  have HSS := Lib.hid (⟨hSc, hFc, hFd, hcd⟩ : S c ∧ ¬ F c ∧ ¬ F d ∧ c ≠ d)
  have HTD := Lib.hid (fun (X : World) (hX : Tab10 X) => told_any J.length (by omega) X hX)
  generalize toldL J.length = TD at *
  clear h hc ht hfs h10 q1 q2 q3 hn hF hM hJ hSc hFc hFd hcd hWr hP1l hP1k hP2l hP2k
  go_enter Tryz.func95, Tryz.ntmps95
  go_wp2_with fail
  go_region_held3 (fun w' => w'.cell? ⟨d, 1, none⟩ = some (.pointer (some ⟨c, 0, none⟩)) ∧ w'.cell? ⟨d, 8, none⟩ = some (.slice none 0 0) ∧ w'.cell? ⟨d, 9, none⟩ = some (.slice none 0 0))
    (first | exact ⟨e1, e8, e9⟩ | exact ⟨q1, q8, q9⟩ | exact ⟨p1, p8, p9⟩ | go_keep)
    (first
      | ((with_reducible refine (HVW.out _ HX.out.drew).mono ?_); rintro e w1 ⟨la, lcp, rfl, hs1, hb1⟩; have HB1 := Lib.hid (HX.out.drew.trans hb1); have q1 := (hb1.cell (p := ⟨d, 1, none⟩) (lt_of_cell e1)).trans e1; have q8 := (hb1.cell (p := ⟨d, 8, none⟩) (lt_of_cell e8)).trans e8; have q9 := (hb1.cell (p := ⟨d, 9, none⟩) (lt_of_cell e9)).trans e9; clear hb1 hs1)
      | ((with_reducible refine (HEV.out _ la lcp).mono ?_); rintro e w2 ⟨rfl, hb2⟩; have HB2 := Lib.hid (HB1.out.trans (hb2.mono HB1.out.size)); have p1 := (hb2.cell (p := ⟨d, 1, none⟩) (lt_of_cell q1)).trans q1; have p8 := (hb2.cell (p := ⟨d, 8, none⟩) (lt_of_cell q8)).trans q8; have p9 := (hb2.cell (p := ⟨d, 9, none⟩) (lt_of_cell q9)).trans q9; clear hb2)
      | (fail "no arm"))
  have HC2 := Lib.hid (HC.out.later HB2.out)
  have HR2 := Lib.hid (HR.out.later HB2.out)
  have HT2 := Lib.hid (HT.out.later HB2.out)
  have HF2 := Lib.hid (HPS.out.1 _ _ _ HFS.out HB2.out)
  clear q1 q8 q9 p8 p9 e1 e8 e9 HX HB1 HVW HEV
  go_wp2_with fail
  refine (coreLast_of HC2.out []).mono ?_
  rintro e w3 ⟨rfl, hc3, hk3⟩
  obtain ⟨hSc, hFc, hFd, hcd⟩ := HSS.out
  have HC3 := Lib.hid hc3
  have HR3 := Lib.hid (HR2.out.kept hk3 (by unfold Only; omega))
  have HT3 := Lib.hid (HT2.out.kept (hk3.mono (fun k _ hk => by unfold Only at hk; subst hk; exact hSc)))
  have HF3 := Lib.hid (HPS.out.2.1 _ _ _ _ HF2.out hk3 (fun r hr => by unfold Only at hr; subst hr; exact hFc))
  have HK3 := Lib.hid ((KeepT.of_below (S := FCD F c d) HB2.out).trans hk3 (fun k _ hk => .inr (.inl hk)))
  have r1 := HR3.out.at 1 rfl
  have r2 := HR3.out.at 2 rfl
  have r7 := HR3.out.at 7 rfl
  have r10 := HR3.out.at 10 rfl
  clear hc3 hk3 hSc hFc hFd hcd p1 HB2 HC2 HR2 HT2 HF2
  go_wp2_with fail
  refine (HNC.out _ (HCO.out _ HC3.out HT3.out)).mono ?_
  rintro e w4 ⟨rfl, rfl⟩
  go_wp2_with fail
  refine (HFL.out _ HR3.out).mono ?_
  rintro e w5 ⟨rfl, rfl⟩
  go_wp2_with fail
  refine (HAL.out _ (HCO.out _ HC3.out HT3.out)).mono ?_
  rintro e w6 ⟨ao, cap, rfl, hs6, hb6⟩
  have HB6 := Lib.hid hb6
  have HS6 := Lib.hid hs6
  clear hs6 hb6
  go_wp2_with fail
  refine (HJN.out _ ao cap HS6.out).mono ?_
  rintro e w7 ⟨rfl, hb7⟩
  have HB7 := Lib.hid (HB6.out.trans (hb7.mono HB6.out.size))
  have HR7 := Lib.hid (HR3.out.later HB7.out)
  have HC7 := Lib.hid (HC3.out.later HB7.out)
  have HF7 := Lib.hid (HPS.out.1 _ _ _ HF3.out HB7.out)
  have HK7 := Lib.hid (HK3.out.then_below HB7.out)
  have s7 := HR7.out.at 7 rfl
  have s10 := HR7.out.at 10 rfl
  clear hb7 r1 r2 r7 r10
  go_wp2_with fail
  refine (HWR.out _ HF7.out).mono ?_
  rintro e w8 ⟨rfl, hf8, hk8⟩
  obtain ⟨_, hFc, hFd, hcd⟩ := HSS.out
  have HR8 := Lib.hid (HR7.out.kept hk8 hFd)
  have HC8 := Lib.hid (HC7.out.kept hk8 hFc)
  have HF8 := Lib.hid hf8
  have HK8 := Lib.hid (HK7.out.trans hk8 (fun k _ hk => .inl hk))
  have HZ8 := Lib.hid (hk8.size)
  clear s7 s10 hFc hFd hcd hk8 hf8
  go_wp2_with fail
  go_returns
  exact ⟨rfl, HC8.out, ⟨w7, w8, HF8.out, HK7.out.size, Nat.le_refl _⟩, HK8.out⟩
end
end Go.Proofs.YtlcjjcmfpmflcaaGreatDoor
/- disk.Run at w to the file that the buffer has; a change that adds a line ahead (chapter 24). -/
namespace Go.Proofs.YtlcjjcmfpmflcaaGreatDoor
open Go Go.Proofs Go.Ev Go.RowKit Go.Ink Go.Sort

section
variable {S F : Nat → Prop} {w w' : World} {d c t : Nat} {cur : Int} {r : Nat} {dirty : Bool} {undo was held : Option Addr} {dn : Value} {p : Addr} {ps : List (List Line)} {L : List Line} {J old : List UInt8} {a b : Bool}
theorem fName : nameB [102] = true := by decide
theorem fsG_later {H : Ev.H} : ∀ (X Y : World) (G : Nat → Prop), FsG old J H X p G → Below X.heap.size X Y → FsG old J H Y p G := fun _ _ _ h hb => FsAt.later h hb
theorem fsG_kept {H : Ev.H} : ∀ (X Y : World) (G S : Nat → Prop), FsG old J H X p G → KeepT S X Y → (∀ r, S r → ¬ G r) → FsG old J H Y p G := fun _ _ _ _ h hk hs => FsAt.kept h hk (fun r _ => hs r)
theorem runF_ok (hw : 6 ≤ w.heap.size) (hc : CoreB w c t cur [] r dirty undo was held dn) (ht : TabOf S w t ps) (hF : ps.flatten = L) (hl : ps.length ≤ 100000) (hm : manyS ps ≤ 1000000)
    (hfs : FsG old J (flH2 a false) w p F) (hFw : ∀ x, F x → x < w.heap.size) (hSc : S c) (hFc : ¬ F c) (hJ : joinL L = J) (hJl : J.length ≤ 200) (h10 : ∀ X, KeepT (fun x => F x ∨ x = c) w X → Tab10 X) :
    Calls Tryz.prog 14 #[.pointer (some ⟨c, 0, none⟩), .pointer (some p), .string ⟨#[102]⟩, .agg (cmdD 119 []).toArray, .bool false] w fun e w' => e = .returned (.tuple #[.agg (resCells (toldL J.length) [102] c true false).toArray, .int .i64 0]) ∧
      CoreB w' c t cur [] r false undo was held dn ∧ (∃ F', FsG old J (flH3 a false) w' p F' ∧ ∀ x, F' x → F x ∨ (w.heap.size ≤ x ∧ x < w'.heap.size)) ∧ KeepT (fun x => F x ∨ x = c) w w' := by
  have hcl := hc.lt
  refine (diskRun_ok (Q := fun X d out nm' c' wr an W => (out = toldL J.length ∧ nm' = [102] ∧ c' = c ∧ wr = true ∧ an = false) ∧ CoreB W c t cur [] r false undo was held dn ∧ (∃ w1 w2 : World, FsG old J (flH3 a false) W p (fun x => F x ∨ (w1.heap.size ≤ x ∧ x < w2.heap.size)) ∧ X.heap.size ≤ w1.heap.size ∧ w2.heap.size ≤ W.heap.size) ∧ KeepT (FCD F c d) X W) (nm := [102]) (n2 := []) (.inl rfl) hw hc fun X d hb hd hR => ?_).mono ?_
  · have hFd : ¬ F d := fun h => by have := hFw d h; omega
    refine (actW hR (diskWriteF_ok (P1 := fun X G => FsG old J (flH2 a false) X p G) (P2 := fun X G => FsG old J (flH3 a false) X p G) hR (hc.later hb) (ht.later hb) hF hl hm (FsAt.later hfs hb) fsG_later fsG_kept fsG_later fsG_kept (fun Y hY => savesWrite2_fl hY hJl) hSc hFc hFd (by omega) fName hJ (by omega) (fun Y hY => h10 Y (KeepT.back hb hY (fun x hx h => by
      rcases h with h | h | h
      · exact .inl h
      · exact .inr h
      · omega))))).mono ?_
    rintro e W ⟨rfl, h1, h2, h3, h4⟩
    refine ⟨rfl, _, _, _, _, _, h1, h4.block _ (Nat.lt_trans hd hR.lt) ?_, ⟨rfl, rfl, rfl, rfl, rfl⟩, h2, h3, h4⟩
    rintro (h | h | h)
    · have := hFw _ h; omega
    · omega
    · omega
  · rintro e w' ⟨X, d, out, nm', c', wr, an, W, rfl, hb, hd, hdX, ⟨⟨rfl, rfl, rfl, rfl, rfl⟩, h2, ⟨w1, w2, h3, h31, h4⟩, h5⟩, hk⟩
    have hzX := hb.size
    have hzW := h5.size
    have hzk := hk.size
    refine ⟨rfl, h2.kept hk (by unfold Only; omega), ⟨_, FsAt.kept h3 hk (fun x _ hx => by
      unfold Only at hx; subst hx
      rintro (h | h)
      · have := hFw _ h; omega
      · omega), fun x hx => ?_⟩, KeepT.back hb ((h5.mono (S' := fun x => FCD F c' d x ∨ Only (w.heap.size + 1) x) (fun _ _ h => .inl h)).trans hk (fun x _ h => .inr h)) ?_⟩
    · rcases hx with h | h
      · exact .inl h
      · exact .inr ⟨by omega, by omega⟩
    · rintro x hx ((h | h | h) | h)
      · exact .inl h
      · exact .inr h
      · omega
      · unfold Only at h; omega
theorem runF_no (hw : 6 ≤ w.heap.size) (hc : CoreB w c t cur [] r dirty undo was held dn) (ht : TabOf S w t ps) (hF : ps.flatten = L) (hl : ps.length ≤ 100000) (hm : manyS ps ≤ 1000000)
    (hfs : FsG old J (flH2 a true) w p F) (hFw : ∀ x, F x → x < w.heap.size) (hSc : S c) (hFc : ¬ F c) (hJ : joinL L = J) (hJl : J.length ≤ 200) (h10 : ∀ X, KeepT (fun x => F x ∨ x = c) w X → Tab10 X) :
    Calls Tryz.prog 14 #[.pointer (some ⟨c, 0, none⟩), .pointer (some p), .string ⟨#[102]⟩, .agg (cmdD 119 []).toArray, .bool false] w fun e w' => e = .returned (.tuple #[.agg resZero.toArray, .int .i64 50]) ∧
      CoreB w' c t cur [] r dirty undo was held dn ∧ (∃ F', FsG old J (flH3 a true) w' p F' ∧ ∀ x, F' x → F x ∨ (w.heap.size ≤ x ∧ x < w'.heap.size)) ∧ KeepT (fun x => F x ∨ x = c) w w' := by
  have hcl := hc.lt
  refine (diskRun_no (z := 50) (by decide) (Q := fun X d W => CoreB W c t cur [] r dirty undo was held dn ∧ (∃ w1 w2 : World, FsG old J (flH3 a true) W p (fun x => F x ∨ (w1.heap.size ≤ x ∧ x < w2.heap.size)) ∧ X.heap.size ≤ w1.heap.size ∧ w2.heap.size ≤ W.heap.size) ∧ KeepT (FCD F c d) X W) (nm := [102]) (n2 := []) (.inl rfl) hw hc fun X d hb hd hR => ?_).mono ?_
  · have hFd : ¬ F d := fun h => by have := hFw d h; omega
    refine (actW hR (diskWriteF_no (P1 := fun X G => FsG old J (flH2 a true) X p G) (P2 := fun X G => FsG old J (flH3 a true) X p G) (z := 50) hR (hc.later hb) (ht.later hb) hF hl hm (by decide) (FsAt.later hfs hb) fsG_later fsG_kept fsG_later fsG_kept (fun Y hY => savesWrite2_fl hY hJl) hSc hFc hFd (by omega) fName hJ (by omega) (fun Y hY => h10 Y (KeepT.back hb hY (fun x hx h => by
      rcases h with h | h | h
      · exact .inl h
      · exact .inr h
      · omega))))).mono ?_
    rintro e W ⟨rfl, h2, h3, h4⟩
    refine ⟨rfl, h4.block _ (Nat.lt_trans hd hR.lt) ?_, h2, h3, h4⟩
    rintro (h | h | h)
    · have := hFw _ h; omega
    · omega
    · omega
  · rintro e w' ⟨X, d, W, rfl, hb, hd, hdX, ⟨h2, ⟨w1, w2, h3, h31, h4⟩, h5⟩, hk⟩
    have hzX := hb.size
    have hzW := h5.size
    have hzk := hk.size
    refine ⟨rfl, h2.kept hk (by unfold Only; omega), ⟨_, FsAt.kept h3 hk (fun x _ hx => by
      unfold Only at hx; subst hx
      rintro (h | h)
      · have := hFw _ h; omega
      · omega), fun x hx => ?_⟩, KeepT.back hb ((h5.mono (S' := fun x => FCD F c d x ∨ Only (w.heap.size + 1) x) (fun _ _ h => .inl h)).trans hk (fun x _ h => .inr h)) ?_⟩
    · rcases hx with h | h
      · exact .inl h
      · exact .inr ⟨by omega, by omega⟩
    · rintro x hx ((h | h | h) | h)
      · exact .inl h
      · exact .inr h
      · omega
      · unfold Only at h; omega
end
end Go.Proofs.YtlcjjcmfpmflcaaGreatDoor
