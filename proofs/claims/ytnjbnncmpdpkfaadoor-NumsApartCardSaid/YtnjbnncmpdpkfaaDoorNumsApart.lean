/- The walk of the law NumsApart: it answers true. -/
import Derived.Test.YtnjbnncmpdpkfaaDoorNumsBack
import Derived.Lib.QuietBelow
namespace Go.Proofs.YtnjbnncmpdpkfaaDoor
open Go Go.Proofs Go.RowKit Go.Ink Go.Sort

/-- What the law asks of the lists, decided: are they the same, are the texts behind them, are the whole texts? -/
structure ApartAt (a b : List (List UInt8)) (x y A B s t : List UInt8) : Prop where
  ab : sameS a b = decide (A = B)
  st : s = t → sameS a b = true ∧ x = y

set_option maxRecDepth 100000 in
set_option maxHeartbeats 2000000 in
theorem numsApart_any (a b : List (List UInt8)) (ao1 ao2 : Option Addr) (cap1 cap2 : Nat) (x y : List UInt8) (w : World) (ha : SlOf IsStr w ao1 cap1 a) (hb : SlOf IsStr w ao2 cap2 b) (he : Env w) :
    Calls Tryd.prog 9 #[.slice ao1 a.length cap1, .slice ao2 b.length cap2, .agg #[.string ⟨x.toArray⟩, .string ⟨y.toArray⟩]] w fun e w' => e = .returned (.bool true) ∧ Below w.heap.size w w' := by
  have HAL := Lib.hid (show Below w.heap.size w (w.alloc (.cells #[.string ⟨x.toArray⟩, .string ⟨y.toArray⟩] 38 (0, 0))) from (Below.refl _ _).alloc (Nat.le_refl _) _)
  have hcells := two_strs w 38 x y
  have HE := Lib.hid (he.later HAL.out); clear he
  have HA := Lib.hid (ha.later lasts_str HAL.out)
  have HB := Lib.hid (hb.later lasts_str HAL.out)
  have hm1 : a.length ≤ 9223372036854775807 := Nat.le_trans ha.1 ha.2.1
  have hm2 : b.length ≤ 9223372036854775807 := Nat.le_trans hb.1 hb.2.1
  clear ha hb
  have hg1 := great_any a ao1 cap1 100 1000 _ HA.out (by omega) (by omega)
  have hg2 := great_any b ao2 cap2 100 1000 _ HB.out (by omega) (by omega)
  have hg3 := great_any [x, y] _ 2 2 100 _ hcells (by omega) (by omega)
  cases hr1 : greatS a 100 1000 with
  | true =>
    rw [hr1] at hg1
    have HG1 := Lib.hid hg1; clear hg1 hg2 hg3 hr1 hcells
    go_enter Tryd.func9, Tryd.ntmps9
    go_wp2_with fail
    refine HG1.out.mono ?_
    rintro e w1 ⟨rfl, rfl⟩
    go_wp2_with fail
    go_returns
    exact ⟨rfl, HAL.out⟩
  | false =>
    rw [hr1] at hg1
    obtain ⟨z1, z2, z3⟩ := great_sizes hr1 (by omega) (by omega) (by omega)
    have HG1 := Lib.hid hg1; clear hg1 hr1
    cases hr2 : greatS b 100 1000 with
    | true =>
      rw [hr2] at hg2
      have HG2 := Lib.hid hg2; clear hg2 hg3 hr2 hcells
      go_enter Tryd.func9, Tryd.ntmps9
      go_wp2_with fail
      refine HG1.out.mono ?_
      rintro e w1 ⟨rfl, rfl⟩
      go_wp2_with fail
      refine HG2.out.mono ?_
      rintro e w1 ⟨rfl, rfl⟩
      go_wp2_with fail
      go_returns
      exact ⟨rfl, HAL.out⟩
    | false =>
      rw [hr2] at hg2
      obtain ⟨y1, y2, y3⟩ := great_sizes hr2 (by omega) (by omega) (by omega)
      have HG2 := Lib.hid hg2; clear hg2 hr2
      cases hr3 : greatS [x, y] 2 100 with
      | true =>
        rw [hr3] at hg3
        have HG3 := Lib.hid hg3; clear hg3 hr3 hcells
        go_enter Tryd.func9, Tryd.ntmps9
        go_wp2_with fail
        refine HG1.out.mono ?_
        rintro e w1 ⟨rfl, rfl⟩
        go_wp2_with fail
        refine HG2.out.mono ?_
        rintro e w1 ⟨rfl, rfl⟩
        go_wp2_with fail
        refine HG3.out.mono ?_
        rintro e w1 ⟨rfl, rfl⟩
        go_wp2_with fail
        go_returns
        exact ⟨rfl, HAL.out⟩
      | false =>
        rw [hr3] at hg3
        obtain ⟨_, v2, _⟩ := great_sizes hr3 (by omega) (by omega) (by omega)
        have yx : x.length ≤ 100 := by simp [total] at v2; omega
        have yy : y.length ≤ 100 := by simp [total] at v2; omega
        have HG3 := Lib.hid hg3; clear hg3 hr3 v2
        have p0 : (w.alloc (.cells #[.string ⟨x.toArray⟩, .string ⟨y.toArray⟩] 38 (0, 0))).cell? ⟨w.heap.size, 0, none⟩ = some (.string ⟨x.toArray⟩) := by
          obtain ⟨b', o', u', e, hc, hr⟩ := hcells.2.2.2 0 x rfl
          simp only [Option.some.injEq, Addr.mk.injEq, and_true] at e
          obtain ⟨rfl, rfl⟩ := e
          have hr' : u' = .string ⟨x.toArray⟩ := hr
          subst hr'; exact hc
        have p1 : (w.alloc (.cells #[.string ⟨x.toArray⟩, .string ⟨y.toArray⟩] 38 (0, 0))).cell? ⟨w.heap.size, 1, none⟩ = some (.string ⟨y.toArray⟩) := by
          obtain ⟨b', o', u', e, hc, hr⟩ := hcells.2.2.2 1 y rfl
          simp only [Option.some.injEq, Addr.mk.injEq, and_true] at e
          obtain ⟨rfl, rfl⟩ := e
          have hr' : u' = .string ⟨y.toArray⟩ := hr
          subst hr'; exact hc
        have P0 := Lib.hid p0
        have P1 := Lib.hid p1
        clear p0 p1 hcells
        have HAP := Lib.hid (show ApartAt a b x y (putL a) (putL b) (putL a ++ x) (putL b ++ y) from
          ⟨by rw [Bool.eq_iff_iff, sameS_iff, decide_eq_true_iff, putL_inj a b (by omega)], fun h => by
            obtain ⟨e1, e2⟩ := putL_apart a b x y (by rw [List.length_append]; omega) h
            exact ⟨(sameS_iff a b).2 e1, e2⟩⟩)
        have HFA := Lib.hid (fun w hl ht => putList_any a ao1 cap1 w hl (by omega) ht)
        have HFB := Lib.hid (fun w hl ht => putList_any b ao2 cap2 w hl (by omega) ht)
        have a1 : (putL a).length + x.length ≤ 9223372036854775807 := by omega
        have a2 : (putL b).length + y.length ≤ 9223372036854775807 := by omega
        generalize putL a = A at *
        generalize putL b = B at *
        clear z1 z2 z3 y1 y2 y3
        have hc1 : ¬ 9223372036854775807 < A.length + x.length := by omega
        have hc2 : ¬ 9223372036854775807 < B.length + y.length := by omega
        go_enter Tryd.func9, Tryd.ntmps9
        go_wp2_with fail
        refine HG1.out.mono ?_
        rintro e w1 ⟨rfl, rfl⟩
        go_wp2_with fail
        refine HG2.out.mono ?_
        rintro e w1 ⟨rfl, rfl⟩
        go_wp2_with fail
        refine HG3.out.mono ?_
        rintro e w1 ⟨rfl, rfl⟩
        clear HG1 HG2 HG3
        generalize World.alloc w _ = w1 at *
        have q0 := fun d os => cell_regrown P0.out d os
        have q1 := fun d os => cell_regrown P1.out d os
        have HC1 := Lib.hid (fun d os => HFA.out (grow (redrawn w1 d) os) (HA.out.later lasts_str (below_regrown w1 d os)) (HE.out.h10.later (below_regrown w1 d os)))
        have HC2 := Lib.hid (fun d os => HFB.out (grow (redrawn w1 d) os) (HB.out.later lasts_str (below_regrown w1 d os)) (HE.out.h10.later (below_regrown w1 d os)))
        go_wp2_with fail
        refine wp_region_quiet_below (by kernel_rfl) (by kernel_rfl) ?_
        repeat (quiet_step (first | (with_reducible exact Calls.regrown_of (HC1.out _ _)) | (with_reducible exact Calls.regrown_of (HC2.out _ _))))
        refine wpQuiet_nil ?_
        intro _ hw'
        obtain ⟨⟨dq, osq⟩, hw''⟩ := hw'
        subst hw''
        have HR := Lib.hid (below_regrown w1 dq osq)
        have HE2 := Lib.hid (HE.out.later HR.out)
        have HA2 := Lib.hid (HA.out.later lasts_str HR.out)
        have HB2 := Lib.hid (HB.out.later lasts_str HR.out)
        have HBW := Lib.hid (step2 HAL.out HR.out)
        have p0 := cell_regrown P0.out dq osq
        have p1 := cell_regrown P1.out dq osq
        clear q0 q1 HC1 HC2 HR HA HB HE
        generalize grow (redrawn w1 dq) osq = w2 at *
        rw [mk_append, mk_append]
        generalize A ++ x = s at *
        generalize B ++ y = t at *
        have hsm : ∀ c, sameS a b = c → Hid (∀ w, SlOf IsStr w ao1 cap1 a → SlOf IsStr w ao2 cap2 b → Calls Tryd.prog 26 #[.slice ao1 a.length cap1, .slice ao2 b.length cap2] w fun e w' => e = .returned (.bool c) ∧ ∃ n, w' = w.drewN n) := fun c hc => Lib.hid (fun w h1 h2 => hc ▸ same_any a b ao1 ao2 cap1 cap2 w h1 h2)
        cases hab : sameS a b with
        | true =>
          have HSM := hsm _ hab; clear hsm
          have hAB : (A == B) = true := by have := HAP.out.ab; rw [hab] at this; simpa using this.symm
          by_cases hxy : x = y
          · have hxq : (x == y) = true := by simpa using hxy
            by_cases hst : s = t
            · have hsq : (s == t) = true := by simpa using hst
              clear hst hxy hab
              go_wp2_with fail
              refine (HSM.out _ HA2.out HB2.out).mono ?_
              rintro e w3 ⟨rfl, k, rfl⟩
              have HBW3 := Lib.hid (below_drewN HBW.out k)
              have HE3 := Lib.hid (HE2.out.later (below_drewN (Below.refl _ _) k))
              have HA3 := Lib.hid (HA2.out.later lasts_str (below_drewN (Below.refl _ _) k))
              have HB3 := Lib.hid (HB2.out.later lasts_str (below_drewN (Below.refl _ _) k))
              have p0' : (w2.drewN k).cell? ⟨w.heap.size, 0, none⟩ = some (.string ⟨x.toArray⟩) := p0
              have p1' : (w2.drewN k).cell? ⟨w.heap.size, 1, none⟩ = some (.string ⟨y.toArray⟩) := p1
              generalize w2.drewN k = w3 at *
              go_wp2_with fail
              refine (HFA.out _ HA3.out HE3.out.h10).mono ?_
              rintro e w4 ⟨rfl, hb⟩
              have HBW4 := Lib.hid (step2 HBW3.out hb)
              have HA4 := Lib.hid ((HA3.out).later lasts_str hb)
              have HB4 := Lib.hid ((HB3.out).later lasts_str hb)
              have HE4 := Lib.hid ((HE3.out).later hb); clear hb
              go_wp2_with fail
              refine (HFB.out _ HB4.out HE4.out.h10).mono ?_
              rintro e w5 ⟨rfl, hb⟩
              have HBW5 := Lib.hid (step2 HBW4.out hb)
              have HA5 := Lib.hid (HA4.out.later lasts_str hb)
              have HB5 := Lib.hid (HB4.out.later lasts_str hb)
              have HE5 := Lib.hid (HE4.out.later hb); clear hb
              go_wp2_with fail
              refine (HSM.out _ HA5.out HB5.out).mono ?_
              rintro e w6 ⟨rfl, k, rfl⟩
              have HBW6 := Lib.hid (below_drewN HBW5.out k)
              have HE6 := Lib.hid (HE5.out.later (below_drewN (Below.refl _ _) k))
              generalize w5.drewN k = w6 at *
              go_wp2_with fail
              refine (does_post _ HE6.out w HBW6.out).mono ?_
              rintro e w7 ⟨rfl, hb⟩
              have HBW7 := Lib.hid hb; clear hb
              go_wp2_with fail
              go_returns
              exact ⟨rfl, HBW7.out⟩
            · have hsq : (s == t) = false := by simpa using hst
              clear hst hxy hab
              go_wp2_with fail
              refine (HFA.out _ HA2.out HE2.out.h10).mono ?_
              rintro e w4 ⟨rfl, hb⟩
              have HBW4 := Lib.hid (step2 HBW.out hb)
              have HA4 := Lib.hid ((HA2.out).later lasts_str hb)
              have HB4 := Lib.hid ((HB2.out).later lasts_str hb)
              have HE4 := Lib.hid ((HE2.out).later hb); clear hb
              go_wp2_with fail
              refine (HFB.out _ HB4.out HE4.out.h10).mono ?_
              rintro e w5 ⟨rfl, hb⟩
              have HBW5 := Lib.hid (step2 HBW4.out hb)
              have HA5 := Lib.hid (HA4.out.later lasts_str hb)
              have HB5 := Lib.hid (HB4.out.later lasts_str hb)
              have HE5 := Lib.hid (HE4.out.later hb); clear hb
              go_wp2_with fail
              refine (HSM.out _ HA5.out HB5.out).mono ?_
              rintro e w6 ⟨rfl, k, rfl⟩
              have HBW6 := Lib.hid (below_drewN HBW5.out k)
              have HE6 := Lib.hid (HE5.out.later (below_drewN (Below.refl _ _) k))
              generalize w5.drewN k = w6 at *
              go_wp2_with fail
              refine (does_post _ HE6.out w HBW6.out).mono ?_
              rintro e w7 ⟨rfl, hb⟩
              have HBW7 := Lib.hid hb; clear hb
              go_wp2_with fail
              go_returns
              exact ⟨rfl, HBW7.out⟩
          · have hst : ¬ s = t := fun e => hxy (HAP.out.st e).2
            have hsq : (s == t) = false := by simpa using hst
            clear hst hab hxy
            go_wp2_with fail
            refine (HFA.out _ HA2.out HE2.out.h10).mono ?_
            rintro e w4 ⟨rfl, hb⟩
            have HBW4 := Lib.hid (step2 HBW.out hb)
            have HA4 := Lib.hid ((HA2.out).later lasts_str hb)
            have HB4 := Lib.hid ((HB2.out).later lasts_str hb)
            have HE4 := Lib.hid ((HE2.out).later hb); clear hb
            go_wp2_with fail
            refine (HFB.out _ HB4.out HE4.out.h10).mono ?_
            rintro e w5 ⟨rfl, hb⟩
            have HBW5 := Lib.hid (step2 HBW4.out hb)
            have HA5 := Lib.hid (HA4.out.later lasts_str hb)
            have HB5 := Lib.hid (HB4.out.later lasts_str hb)
            have HE5 := Lib.hid (HE4.out.later hb); clear hb
            go_wp2_with fail
            refine (HSM.out _ HA5.out HB5.out).mono ?_
            rintro e w6 ⟨rfl, k, rfl⟩
            have HBW6 := Lib.hid (below_drewN HBW5.out k)
            have HE6 := Lib.hid (HE5.out.later (below_drewN (Below.refl _ _) k))
            generalize w5.drewN k = w6 at *
            go_wp2_with fail
            refine (does_post _ HE6.out w HBW6.out).mono ?_
            rintro e w7 ⟨rfl, hb⟩
            have HBW7 := Lib.hid hb; clear hb
            go_wp2_with fail
            go_returns
            exact ⟨rfl, HBW7.out⟩
        | false =>
          have HSM := hsm _ hab; clear hsm
          have hAB : (A == B) = false := by have := HAP.out.ab; rw [hab] at this; simpa using this.symm
          have hst : ¬ s = t := fun e => by have := (HAP.out.st e).1; rw [hab] at this; cases this
          have hsq : (s == t) = false := by simpa using hst
          clear hst hab
          go_wp2_with fail
          refine (HFA.out _ HA2.out HE2.out.h10).mono ?_
          rintro e w4 ⟨rfl, hb⟩
          have HBW4 := Lib.hid (step2 HBW.out hb)
          have HA4 := Lib.hid ((HA2.out).later lasts_str hb)
          have HB4 := Lib.hid ((HB2.out).later lasts_str hb)
          have HE4 := Lib.hid ((HE2.out).later hb); clear hb
          go_wp2_with fail
          refine (HFB.out _ HB4.out HE4.out.h10).mono ?_
          rintro e w5 ⟨rfl, hb⟩
          have HBW5 := Lib.hid (step2 HBW4.out hb)
          have HA5 := Lib.hid (HA4.out.later lasts_str hb)
          have HB5 := Lib.hid (HB4.out.later lasts_str hb)
          have HE5 := Lib.hid (HE4.out.later hb); clear hb
          go_wp2_with fail
          refine (HSM.out _ HA5.out HB5.out).mono ?_
          rintro e w6 ⟨rfl, k, rfl⟩
          have HBW6 := Lib.hid (below_drewN HBW5.out k)
          have HE6 := Lib.hid (HE5.out.later (below_drewN (Below.refl _ _) k))
          generalize w5.drewN k = w6 at *
          go_wp2_with fail
          refine (does_post _ HE6.out w HBW6.out).mono ?_
          rintro e w7 ⟨rfl, hb⟩
          have HBW7 := Lib.hid hb; clear hb
          go_wp2_with fail
          go_returns
          exact ⟨rfl, HBW7.out⟩
end Go.Proofs.YtnjbnncmpdpkfaaDoor
