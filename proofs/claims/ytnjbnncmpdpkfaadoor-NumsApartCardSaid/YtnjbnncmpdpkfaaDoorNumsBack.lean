/- The walk of the law NumsBack: it answers true. -/
import Derived.Test.YtnjbnncmpdpkfaaDoorNumsPut
import Derived.Test.YtnjbnncmpdpkfaaDoorConv
namespace Go.Proofs.YtnjbnncmpdpkfaaDoor
open Go Go.Proofs Go.RowKit Go.Ink

theorem does_post (w : World) (he : Env w) (w0 : World) (hb : Below w0.heap.size w0 w) : Calls Tryd.prog 19 #[] w fun e w' => e = .returned (.bool true) ∧ Below w0.heap.size w0 w' :=
  (does_any w he).mono fun _ _ ⟨h1, h2⟩ => ⟨h1, step2 hb h2⟩

set_option maxRecDepth 100000 in
set_option maxHeartbeats 1000000 in
theorem numsBack_any (n : Int) (l : List (List UInt8)) (ao : Option Addr) (cap : Nat) (a b : List UInt8) (w : World) (h1 : -9223372036854775808 ≤ n) (h2 : n ≤ 9223372036854775807) (hl : SlOf IsStr w ao cap l) (he : Env w) :
    Calls Tryd.prog 6 #[.int .i64 n, .slice ao l.length cap, .agg #[.string ⟨a.toArray⟩, .string ⟨b.toArray⟩]] w fun e w' => e = .returned (.bool true) ∧ Below w.heap.size w w' := by
  have HAL := Lib.hid (show Below w.heap.size w (w.alloc (.cells #[.string ⟨a.toArray⟩, .string ⟨b.toArray⟩] 38 (0, 0))) from (Below.refl _ _).alloc (Nat.le_refl _) _)
  have HE := Lib.hid he; clear he
  have HL := Lib.hid hl
  have hlm : l.length ≤ 9223372036854775807 := Nat.le_trans hl.1 hl.2.1
  clear hl
  have hg := great_any l ao cap 500 10000 _ (HL.out.later lasts_str HAL.out) (by omega) (by omega)
  have hg2 := great_any [a, b] _ 2 2 1000 _ (two_strs w 38 a b) (by omega) (by omega)
  cases hgr : greatS l 500 10000 with
  | true =>
    rw [hgr] at hg
    have HG := Lib.hid hg; clear hg hg2 hgr
    go_enter Tryd.func6, Tryd.ntmps6
    go_wp2_with fail
    refine HG.out.mono ?_
    rintro e w1 ⟨rfl, rfl⟩
    go_wp2_with fail
    refine (does_post _ (HE.out.later HAL.out) w HAL.out).mono ?_
    rintro e w1 ⟨rfl, hb⟩
    have HB := Lib.hid hb; clear hb
    go_wp2_with fail
    go_returns
    exact ⟨rfl, HB.out⟩
  | false =>
    rw [hgr] at hg
    obtain ⟨z1, z2, z3⟩ := great_sizes hgr (by omega) (by omega) (by omega)
    have HG := Lib.hid hg; clear hg hgr
    cases hgr2 : greatS [a, b] 2 1000 with
    | true =>
      rw [hgr2] at hg2
      have HG2 := Lib.hid hg2; clear hg2 hgr2
      go_enter Tryd.func6, Tryd.ntmps6
      go_wp2_with fail
      refine HG.out.mono ?_
      rintro e w1 ⟨rfl, rfl⟩
      go_wp2_with fail
      refine HG2.out.mono ?_
      rintro e w1 ⟨rfl, rfl⟩
      go_wp2_with fail
      refine (does_post _ (HE.out.later HAL.out) w HAL.out).mono ?_
      rintro e w1 ⟨rfl, hb⟩
      have HB := Lib.hid hb; clear hb
      go_wp2_with fail
      go_returns
      exact ⟨rfl, HB.out⟩
    | false =>
      rw [hgr2] at hg2
      obtain ⟨_, y2, _⟩ := great_sizes hgr2 (by omega) (by omega) (by omega)
      have ya : a.length ≤ 1000 := by simp [total] at y2; omega
      have yb : b.length ≤ 1000 := by simp [total] at y2; omega
      have HG2 := Lib.hid hg2; clear hg2 hgr2 y2
      by_cases hn : n < 0
      · go_enter Tryd.func6, Tryd.ntmps6
        go_wp2_with fail
        refine HG.out.mono ?_
        rintro e w1 ⟨rfl, rfl⟩
        go_wp2_with fail
        refine HG2.out.mono ?_
        rintro e w1 ⟨rfl, rfl⟩
        go_wp2_with fail
        refine (does_post _ (HE.out.later HAL.out) w HAL.out).mono ?_
        rintro e w1 ⟨rfl, hb⟩
        have HB := Lib.hid hb; clear hb
        go_wp2_with fail
        go_returns
        exact ⟨rfl, HB.out⟩
      · have s1 := putN_le n h2
        have s2 := putT_le b (by omega)
        have s3 : (putL l).length ≤ 20020 := by omega
        have HA := Lib.hid (fun w ht => put_any n w h1 h2 ht)
        have HC := Lib.hid (fun w ht => putText_any b w (by omega) ht)
        have HF := Lib.hid (fun ao cap w hl ht => putList_any l ao cap w hl (by omega) ht)
        have HGA := Lib.hid (fun w he => by have := get_any (a ++ putN n ++ b) a.length w (by unfold maxLen; simp only [List.length_append]; omega) he; rw [getAt_back a b n (by omega) h2] at this; exact this)
        have HGT := Lib.hid (fun w he => by have := getText_any (a ++ putT b ++ b) a.length w (by unfold maxLen; simp only [List.length_append]; omega) he; rw [getTAt_back a b b (by simp only [List.length_append]; omega)] at this; exact this)
        have HGL := Lib.hid (fun w he => by have := getList_any (a ++ putL l ++ b) a.length w (by simp only [List.length_append]; omega) he; rw [getLAt_back a b l (by simp only [List.length_append]; omega)] at this; exact this)
        have HSM := Lib.hid (fun ao1 ao2 cap1 cap2 w ha hb => by have := same_any l l ao1 ao2 cap1 cap2 w ha hb; rw [sameS_self] at this; exact this)
        generalize putN n = S at *
        generalize putT b = T at *
        generalize putL l = U at *
        have q1 : a.length + S.length ≤ 9223372036854775807 := by omega
        have q2 : a.length + S.length + b.length ≤ 9223372036854775807 := by omega
        have q3 : a.length + T.length ≤ 9223372036854775807 := by omega
        have q4 : a.length + T.length + b.length ≤ 9223372036854775807 := by omega
        have q5 : a.length + U.length ≤ 9223372036854775807 := by omega
        have q6 : a.length + U.length + b.length ≤ 9223372036854775807 := by omega
        go_enter Tryd.func6, Tryd.ntmps6
        go_wp2_with fail
        refine HG.out.mono ?_
        rintro e w1 ⟨rfl, rfl⟩
        go_wp2_with fail
        refine HG2.out.mono ?_
        rintro e w1 ⟨rfl, rfl⟩
        go_wp2_with fail
        go_quiet (fail)
        have HB1 := Lib.hid (below_drewN HAL.out nq)
        generalize (World.alloc w _).drewN nq = w1 at *
        go_wp2_with fail
        refine (HA.out _ (HE.out.later HB1.out).h10).mono ?_
        rintro e w2 ⟨rfl, hb⟩
        have HB2 := Lib.hid (step2 HB1.out hb); clear hb
        go_wp2_with fail
        refine (HC.out _ (HE.out.later HB2.out).h10).mono ?_
        rintro e w3 ⟨rfl, hb⟩
        have HB3 := Lib.hid (step2 HB2.out hb); clear hb
        go_wp2_with fail
        refine (HF.out _ _ _ (HL.out.later lasts_str HB3.out) (HE.out.later HB3.out).h10).mono ?_
        rintro e w4 ⟨rfl, hb⟩
        have HB4 := Lib.hid (step2 HB3.out hb); clear hb
        go_wp2_with fail
        rw [mk_append, mk_append]
        refine (HGA.out _ (HE.out.later HB4.out)).mono ?_
        rintro e w5 ⟨rfl, hb⟩
        have HB5 := Lib.hid (step2 HB4.out hb); clear hb
        simp only [getV]
        go_wp2_with fail
        rw [mk_append, mk_append]
        refine (HGT.out _ (HE.out.later HB5.out)).mono ?_
        rintro e w6 ⟨rfl, hb⟩
        have HB6 := Lib.hid (step2 HB5.out hb); clear hb
        simp only [getTV]
        go_wp2_with fail
        rw [mk_append, mk_append]
        refine (HGL.out _ (HE.out.later HB6.out)).mono ?_
        rintro e w7 ⟨v, rfl, ho, hb⟩
        simp only [Option.map_some, Option.getD_some, Option.isSome_some] at ho ⊢
        obtain ⟨ao2, cap2, rfl, hs⟩ := ho.slOf
        have HS7 := Lib.hid hs
        have HB7 := Lib.hid (step2 HB6.out hb); clear hb ho hs
        go_wp2_with fail
        refine (HSM.out _ _ _ _ _ HS7.out (HL.out.later lasts_str HB7.out)).mono ?_
        rintro e w8 ⟨rfl, k, rfl⟩
        have HB8 := Lib.hid (below_drewN HB7.out k)
        generalize w7.drewN k = w8 at *
        go_wp2_with fail
        refine (does_post _ (HE.out.later HB8.out) w HB8.out).mono ?_
        rintro e w9 ⟨rfl, hb⟩
        have HB9 := Lib.hid hb; clear hb
        go_wp2_with fail
        go_returns
        exact ⟨rfl, HB9.out⟩
end Go.Proofs.YtnjbnncmpdpkfaaDoor
