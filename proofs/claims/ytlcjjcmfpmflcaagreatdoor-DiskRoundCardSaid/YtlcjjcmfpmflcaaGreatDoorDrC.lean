/- The walk of DiskRound (chapter 24). -/
import Derived.Test.YtlcjjcmfpmflcaaGreatDoorDr7
import Derived.Test.YtlcjjcmfpmflcaaGreatDoorBy17
import Derived.Test.YtlcjjcmfpmflcaaGreatDoorSm17
import Derived.Deep.Cut
import Derived.Deep.RegionHeld3
set_option linter.unusedVariables false
set_option linter.unusedSimpArgs false
namespace Go.Proofs.YtlcjjcmfpmflcaaGreatDoor
open Go Go.Proofs Go.Ev Go.RowKit Go.Ink Go.Sort

set_option maxRecDepth 100000 in
theorem one_any (k : Int) (n2 : List UInt8) (w : World) : Calls Tryz.prog 15 #[.int .u8 k, .string ⟨n2.toArray⟩] w fun e w' => e = .returned (.agg (cmdD k n2).toArray) ∧ Below w.heap.size w w' := by
  go_enter Tryz.func15, Tryz.ntmps15
  go_wp2_with fail
  go_returns
  exact ⟨rfl, below_alloc _ _⟩
set_option maxRecDepth 100000 in
set_option maxHeartbeats 4000000 in
theorem diskRound_law (l : List Line) (n : List UInt8) (ao : Option Addr) (cap : Nat) (w : World) (h1 : SlOf IsStr w ao cap l) (hs : 6 ≤ w.heap.size) (ht : Tab10 w) (hn : n.length ≤ 140737488355328) :
    Calls Tryz.prog 4 #[.slice ao l.length cap, .string ⟨n.toArray⟩] w fun e w' => e = .returned (.bool true) ∧ Below w.heap.size w w' := by
  have hc1 : l.length ≤ 9223372036854775807 := Nat.le_trans h1.1 h1.2.1
  have H1 := Lib.hid h1
  have HS := Lib.hid hs
  have HT := Lib.hid ht
  have HLV := Lib.hid (fun (X : World) (hb : Below w.heap.size w X) => lives_any (w := X) (Nat.le_trans hs hb.size))
  have HSN := size_mk n
  clear h1 hs ht
  go_enter Tryz.func4, Tryz.ntmps4
  go_wp2_with fail
  refine (beyondLines_any l ao cap 20 _ H1.out).mono ?_
  rintro e w1 ⟨⟨b, rfl, hb⟩, rfl⟩
  cases b
  case true =>
    clear hb
    go_wp2_with fail
    refine (HLV.out _ (Below.refl _ _)).mono ?_
    rintro e w2 ⟨rfl, hb2⟩
    have HB2 := Lib.hid hb2
    clear hb2
    go_wp2_with fail
    go_returns
    exact ⟨rfl, HB2.out⟩
  have h20 : l.length ≤ 20 := by have := (hb rfl).1; omega
  have H300 := Lib.hid (hb rfl).2
  clear hb
  by_cases h100 : 100 < n.length
  · have h100i : (100 : Int) < (n.length : Int) := by omega
    go_wp2_with fail
    refine (HLV.out _ (Below.refl _ _)).mono ?_
    rintro e w2 ⟨rfl, hb2⟩
    have HB2 := Lib.hid hb2
    clear hb2
    go_wp2_with fail
    go_returns
    exact ⟨rfl, HB2.out⟩
  have h100i : ¬ (100 : Int) < (n.length : Int) := by omega
  have hJl : (joinL l).length ≤ 30000 := by
    have := joinL_le l H300.out
    omega
  obtain ⟨J, hJ⟩ : ∃ J, joinL l = J := ⟨_, rfl⟩
  rw [hJ] at hJl
  have HJ := Lib.hid hJ
  clear hJ
  go_wp2_with fail
  refine (filesNew_fs J n (w := w1) HS.out).mono ?_
  rintro e w2 ⟨p, rfl, hf2, hb2⟩
  have HF2 := Lib.hid hf2
  have HB2 := Lib.hid hb2
  clear hf2 hb2
  by_cases hck : checkL l = 0
  case neg =>
    have HN := Lib.hid (fun (X : World) (h : SlOf IsStr X ao cap l) => coreNew_no l ao cap X h (by omega) hck)
    clear hck
    go_wp2_with fail
    refine (HN.out _ (H1.out.later lasts_str HB2.out)).mono ?_
    rintro e w3 ⟨rfl, rfl⟩
    go_wp2_with fail
    refine (HLV.out _ HB2.out).mono ?_
    rintro e w4 ⟨rfl, hb4⟩
    have HB4 := Lib.hid (HB2.out.trans (hb4.mono HB2.out.size))
    clear hb4
    go_wp2_with fail
    go_returns
    exact ⟨rfl, HB4.out⟩
  have HCK := Lib.hid hck
  clear hck
  go_wp2_with fail
  refine (coreNew_apartD l ao cap w2 (H1.out.later lasts_str HB2.out) (by omega) HCK.out).mono ?_
  rintro e w3 ⟨c, t, r, rfl, hT3, hC3, hR3, hcg, hb3⟩
  have HT3 := Lib.hid hT3
  have HC3 := Lib.hid hC3
  have HG3 := Lib.hid hcg
  have HB3 := Lib.hid (HB2.out.trans (hb3.mono HB2.out.size))
  have HF3 := Lib.hid (FsAt.later HF2.out hb3)
  have HZ3 := Lib.hid hb3.size
  clear hT3 hC3 hR3 hcg hb3
  go_wp2_with fail
  refine (one_any 119 n w3).mono ?_
  rintro e w4 ⟨rfl, hb4⟩
  have HC4 := Lib.hid (HC3.out.later hb4)
  have HT4 := Lib.hid (HT3.out.later hb4)
  have HF4 := Lib.hid (FsAt.later HF3.out hb4)
  have HB4 := Lib.hid (HB3.out.trans (hb4.mono HB3.out.size))
  have HZ4 := Lib.hid hb4.size
  clear hb4
  have hz2 := HB2.out.size
  have hz3 := HZ3.out
  have hz4 := HZ4.out
  have hcg := HG3.out
  have hcl := HC3.out.lt
  have HMS := Lib.hid (show (ofS [l]).length ≤ 100000 ∧ manyS (ofS [l]) ≤ 1000000 from ⟨Nat.le_trans (ofS_len [l]) (by simp), by rw [manyS_ofS]; simp [manyS]; omega⟩)
  have HT10 := Lib.hid (fun (X : World) (hb : Below w1.heap.size w1 X) => HT.out.later hb)
  have HSW := Lib.hid (HS.out)
  cases hnb : nameB n
  case false =>
    have HRN := Lib.hid (runW_no (p := p) (Nat.le_trans HS.out (by omega)) HC4.out HT4.out HMS.out.1 HMS.out.2 (.inr rfl) hnb (by omega))
    have HNM := Lib.hid (fun X => (name_any n X (by omega)))
    rw [hnb] at HNM
    clear hnb
    go_wp2_with fail
    refine HRN.out.mono ?_
    rintro e w5 ⟨rfl, hk5⟩
    have HF5 := Lib.hid (FsAt.kept HF4.out hk5 (fun x _ hx => by
      unfold Only at hx; subst hx
      rintro ⟨_, h⟩
      omega))
    have HB5 := Lib.hid (HB4.out.trans (hk5.below (B := w1.heap.size) (by omega) (fun x hx => by unfold Only at hx; omega)))
    have HRZ := Lib.hid (show resZero.toArray = #[.string ⟨#[]⟩, .pointer none, .string ⟨#[]⟩, .slice none 0 0, .bool false, .bool false, .bool false] from rfl)
    rw [HRZ.out]
    clear hk5
    go_wp2_with fail
    refine (HNM.out _).mono ?_
    rintro e w6 ⟨rfl, rfl⟩
    generalize hw6 : w5.alloc _ = w6
    have hb6 : Below w5.heap.size w5 w6 := hw6 ▸ below_alloc w5 _
    clear hw6
    have HF6 := Lib.hid (FsAt.later HF5.out hb6)
    have HB6 := Lib.hid (HB5.out.trans (hb6.mono HB5.out.size))
    clear hb6
    go_wp2_with fail
    refine (names_fs HF6.out).mono ?_
    rintro e w7 ⟨rfl, hk7⟩
    have HB7 := Lib.hid (HB6.out.trans (hk7.below (B := w1.heap.size) HB6.out.size (fun x hx => hx.1)))
    clear hk7
    go_wp2_with fail
    refine (HLV.out _ HB7.out).mono ?_
    rintro e w8 ⟨rfl, hb8⟩
    have HB8 := Lib.hid (HB7.out.trans (hb8.mono HB7.out.size))
    clear hb8
    go_wp2_with fail
    go_returns
    exact ⟨rfl, HB8.out⟩
  case true =>
    obtain ⟨q1, q2, q3⟩ := nameB_parts hnb
    have HNB := Lib.hid (⟨hnb, q1, q2, q3⟩ : nameB n = true ∧ n ≠ [] ∧ n ≠ [126] ∧ n.length ≤ 16)
    have hFc : ¬ (fun x => w1.heap.size ≤ x ∧ x < w2.heap.size) c := fun h => by have := h.2; omega
    have HRW := Lib.hid (runW_ok (p := p) (F := fun x => w1.heap.size ≤ x ∧ x < w2.heap.size) (Nat.le_trans HS.out (by omega)) HC4.out HT4.out (show (ofS [l]).flatten = l by rw [ofS_flat]; simp) HMS.out.1 HMS.out.2 HF4.out (fun x hx => by have := hx.2; omega) (.inr rfl) hFc hnb HJ.out hJl
      (fun X hX => HT10.out X (HB4.out.trans (hX.below (B := w1.heap.size) (by omega) (fun x hx => by
        rcases hx with h | h
        · exact h.1
        · omega)))))
    have HNM := Lib.hid (fun X => (name_any n X (by omega)))
    rw [hnb] at HNM
    clear hnb q1 q2 q3
    obtain ⟨TD, hTD⟩ : ∃ TD, toldL J.length = TD := ⟨_, rfl⟩
    rw [hTD] at HRW
    have HTD := Lib.hid hTD
    clear hTD
    go_wp2_with fail
    refine HRW.out.mono ?_
    rintro e w5 ⟨rfl, hC5, ⟨F5, hf5, hF5⟩, hk5⟩
    have HC5 := Lib.hid hC5
    have HF5 := Lib.hid hf5
    have HQ5 := Lib.hid hF5
    have HB5 := Lib.hid (HB4.out.trans (hk5.below (B := w1.heap.size) (by omega) (fun x hx => by
      rcases hx with h | h
      · exact h.1
      · omega)))
    have HZ5 := Lib.hid hk5.size
    have HRA := Lib.hid (show (resCells TD n c true false).toArray = #[.string ⟨TD.toArray⟩, .pointer (some ⟨c, 0, none⟩), .string ⟨n.toArray⟩, .slice none 0 0, .bool false, .bool true, .bool false] from rfl)
    rw [HRA.out]
    clear hC5 hf5 hF5 hk5
    go_wp2_with fail
    refine (HNM.out _).mono ?_
    rintro e w6 ⟨rfl, rfl⟩
    generalize hw6 : w5.alloc _ = w6
    have hb6 : Below w5.heap.size w5 w6 := hw6 ▸ below_alloc w5 _
    have HA6 := Lib.hid (show w6.heap[w5.heap.size]? = some (.cells #[.string ⟨TD.toArray⟩, .pointer (some ⟨c, 0, none⟩), .string ⟨n.toArray⟩, .slice none 0 0, .bool false, .bool true, .bool false] 41 (0, 0)) from hw6 ▸ heap_alloc_at w5 _)
    clear hw6
    have HF6 := Lib.hid (FsAt.old (FsAt.later HF5.out hb6))
    have HC6 := Lib.hid (HC5.out.later hb6)
    have HB6 := Lib.hid (HB5.out.trans (hb6.mono HB5.out.size))
    have HZ6 := Lib.hid hb6.size
    clear hb6
    go_wp2_with fail
    refine (savesLoad3_fs HF6.out HNB.out.2.1 HNB.out.2.2.1 HNB.out.2.2.2).mono ?_
    rintro e w7 ⟨rfl, hf7, hk7⟩
    have hz5 := HZ5.out
    have hz6 := HZ6.out
    have h5a : w5.heap.size < w6.heap.size := lt_of_heap HA6.out
    have hz7 := hk7.size
    have HA7 := Lib.hid ((hk7.block _ h5a (fun h => by
      rcases HQ5.out _ h.1 with h | h
      · have := h.2; omega
      · omega)).trans HA6.out)
    have HC7 := Lib.hid (HC6.out.kept hk7 (fun h => by
      rcases HQ5.out _ h.1 with h | h
      · have := h.2; omega
      · omega))
    have HF7 := Lib.hid hf7
    have HB7 := Lib.hid (HB6.out.trans (hk7.below (B := w1.heap.size) (by omega) (fun x hx => by
      rcases HQ5.out _ hx.1 with h | h
      · exact h.1
      · omega)))
    clear hf7 hk7
    go_wp2_with fail
    refine (one_any 101 [] w7).mono ?_
    rintro e w8 ⟨rfl, hb8⟩
    have HC8 := Lib.hid (HC7.out.later hb8)
    have HF8 := Lib.hid (FsAt.later HF7.out hb8)
    have HB8 := Lib.hid (HB7.out.trans (hb8.mono HB7.out.size))
    have HA8 := Lib.hid ((hb8.block _ (lt_of_heap HA7.out)).trans HA7.out)
    have hz8 := hb8.size
    have HRE := Lib.hid (runE_ok (Nat.le_trans HS.out (by omega)) HC8.out HF8.out (fun x hx => by
      rcases hx with h | h
      · have := h.2; omega
      · omega) HNB.out.1 HJ.out hJl HCK.out (fun X hX => HT10.out X (HB8.out.trans (hX.below (B := w1.heap.size) (by omega) (fun x hx => by
        rcases hx with h | h
        · rcases HQ5.out _ h.1 with h | h
          · exact h.1
          · omega
        · omega)))))
    rw [HTD.out] at HRE
    clear hb8
    go_wp2_with fail
    refine HRE.out.mono ?_
    rintro e w9 ⟨c2, t2, r2, rfl, hC9, hT9, hk9⟩
    have HC9 := Lib.hid hC9
    have HT9 := Lib.hid hT9
    have HA9 := Lib.hid ((hk9.block _ (lt_of_heap HA8.out) (fun h => by
      rcases h with h | h
      · rcases HQ5.out _ h.1 with h | h
        · have := h.2; omega
        · omega
      · omega)).trans HA8.out)
    have HB9 := Lib.hid (HB8.out.trans (hk9.below (B := w1.heap.size) (by omega) (fun x hx => by
      rcases hx with h | h
      · rcases HQ5.out _ h.1 with h | h
        · exact h.1
        · omega
      · omega)))
    have HRB := Lib.hid (show (resCells TD n c2 false true).toArray = #[.string ⟨TD.toArray⟩, .pointer (some ⟨c2, 0, none⟩), .string ⟨n.toArray⟩, .slice none 0 0, .bool false, .bool false, .bool true] from rfl)
    rw [HRB.out]
    clear hC9 hT9 hk9
    go_upto_region 12 with fail
    generalize hwX : w9.alloc _ = wX
    have hbX : Below w9.heap.size w9 wX := hwX ▸ below_alloc w9 _
    have HBX := Lib.hid (HB9.out.trans (hbX.mono HB9.out.size))
    have HX := Lib.hid (show wX.heap[w9.heap.size]? = some (.cells #[.string ⟨TD.toArray⟩, .pointer (some ⟨c2, 0, none⟩), .string ⟨n.toArray⟩, .slice none 0 0, .bool false, .bool false, .bool true] 41 (0, 0)) from hwX ▸ heap_alloc_at w9 _)
    have HAX := Lib.hid ((hbX.block _ (lt_of_heap HA9.out)).trans HA9.out)
    have HCX := Lib.hid (HC9.out.later hbX)
    have HTX := Lib.hid (HT9.out.later hbX)
    clear hwX hbX
    have HSV := Lib.hid (fun (Y : World) (hb : Below wX.heap.size wX Y) => (show Y.cell? ⟨w5.heap.size, 0, none⟩ = some (.string ⟨TD.toArray⟩) ∧ Y.cell? ⟨w5.heap.size, 5, none⟩ = some (.bool true) ∧ Y.cell? ⟨w9.heap.size, 0, none⟩ = some (.string ⟨TD.toArray⟩) ∧ Y.cell? ⟨w9.heap.size, 1, none⟩ = some (.pointer (some ⟨c2, 0, none⟩)) from by
      have ha := (hb.block _ (lt_of_heap HAX.out)).trans HAX.out
      have hb := (hb.block _ (lt_of_heap HX.out)).trans HX.out
      refine ⟨?_, ?_, ?_, ?_⟩
      · rw [Lib.cell_of_heap ha]; rfl
      · rw [Lib.cell_of_heap ha]; rfl
      · rw [Lib.cell_of_heap hb]; rfl
      · rw [Lib.cell_of_heap hb]; rfl))
    have HJN := Lib.hid (fun (Y : World) (hb : Below wX.heap.size wX Y) => (show Calls Tryz.prog 18 #[.slice ao l.length cap] Y fun e w' => e = .returned (.string ⟨J.toArray⟩) ∧ Below Y.heap.size Y w' from by
      have e := linesJoin_any l ao cap Y (H1.out.later lasts_str (HBX.out.trans (hb.mono HBX.out.size))) (by rw [HJ.out]; omega)
      rw [HJ.out] at e
      exact e))
    have hmn : manyS (ofS [l]) = l.length := by rw [manyS_ofS]; simp [manyS]
    have HCO := Lib.hid (fun (Y : World) (hb : Below wX.heap.size wX Y) => (⟨(HCX.out.later hb).c0, (HCX.out.later hb).c1, HTX.out.later hb, HMS.out.1, HMS.out.2⟩ : CoreOf (Only c2) Y c2 t2 (l.length : Int) (ofS [l])))
    have HNC := Lib.hid (fun (Y : World) (hb : Below wX.heap.size wX Y) => coreN_of (HCO.out Y hb))
    have HLN := Lib.hid (fun (Y : World) (hb : Below wX.heap.size wX Y) => coreAllD_of (HCO.out Y hb) l (by rw [ofS_flat]; simp))
    rw [hmn] at HNC HLN
    have HSM := Lib.hid (fun (Y : World) (ao3 : Option Addr) (cap3 : Nat) (hb : Below wX.heap.size wX Y) (h : SlOf IsStr Y ao3 cap3 l) => (show Calls Tryz.prog 24 #[.slice ao3 l.length cap3, .slice ao l.length cap] Y fun e w' => e = .returned (.bool true) ∧ Below Y.heap.size Y w' from by
      have e := same17_any l l ao3 ao cap3 cap Y h (H1.out.later lasts_str (HBX.out.trans (hb.mono HBX.out.size)))
      rw [(sameS_iff l l).2 rfl] at e
      exact e.mono (fun _ _ ⟨h1, n, h2⟩ => ⟨h1, h2 ▸ ⟨rfl, rfl, rfl, Nat.le_refl _, fun _ _ => rfl⟩⟩)))
    have HDT := Lib.hid (fun (Y : World) (hb : Below wX.heap.size wX Y) => coreDirty_of (HCX.out.later hb))
    have HLZ := Lib.hid (fun (Y : World) (hb : Below wX.heap.size wX Y) => HLV.out Y (HBX.out.trans (hb.mono HBX.out.size)))
    have hJJ : (J == J) = true := beq_self_eq_true J
    have hTT : (TD == TD) = true := beq_self_eq_true TD
    have HY0 := Lib.hid (Below.refl wX.heap.size wX)
    clear hmn
    go_region_held3 (fun w' => w'.cell? ⟨w5.heap.size, 0, none⟩ = some (.string ⟨TD.toArray⟩) ∧ w'.cell? ⟨w5.heap.size, 5, none⟩ = some (.bool true) ∧ w'.cell? ⟨w9.heap.size, 0, none⟩ = some (.string ⟨TD.toArray⟩) ∧ w'.cell? ⟨w9.heap.size, 1, none⟩ = some (.pointer (some ⟨c2, 0, none⟩)))
      (first | exact HSV.out _ HY6.out | exact HSV.out _ HY4.out | exact HSV.out _ HY3.out | exact HSV.out _ HY1.out | exact HSV.out _ HY0.out.drew | exact HSV.out _ HY0.out | go_keep)
      (first
        | ((with_reducible refine (HJN.out _ HY0.out.drew).mono ?_); rintro e y1 ⟨rfl, hb⟩; have HY1 := Lib.hid (HY0.out.drew.trans (hb.mono HY0.out.drew.size)); clear hb)
        | ((with_reducible refine (HNC.out _ HY1.out).mono ?_); rintro e y2 ⟨rfl, rfl⟩)
        | ((with_reducible refine (HLN.out _ HY1.out).mono ?_); rintro e y3 ⟨ao3, cap3, rfl, hs3, hb⟩; have HS3 := Lib.hid hs3; have HY3 := Lib.hid (HY1.out.trans (hb.mono HY1.out.size)); clear hb hs3)
        | ((with_reducible refine (HSM.out _ ao3 cap3 HY3.out HS3.out).mono ?_); rintro e y4 ⟨rfl, hb⟩; have HY4 := Lib.hid (HY3.out.trans (hb.mono HY3.out.size)); clear hb)
        | ((with_reducible refine (HDT.out _ HY4.out).mono ?_); rintro e y5 ⟨rfl, rfl⟩)
        | ((with_reducible refine (HLZ.out _ HY4.out).mono ?_); rintro e y6 ⟨rfl, hb⟩; have HY6 := Lib.hid (HY4.out.trans (hb.mono HY4.out.size)); clear hb)
        | (fail "no arm"))
    go_wp2_with fail
    go_returns
    exact ⟨rfl, HBX.out.trans (HY6.out.mono HBX.out.size)⟩
end Go.Proofs.YtlcjjcmfpmflcaaGreatDoor
