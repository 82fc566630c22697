/- The walk of the law FramesDrop: it answers true. -/
import Derived.Test.YtagemjjhiddpgaaDoorFrmL5
namespace Go.Proofs.YtagemjjhiddpgaaDoor
open Go Go.Proofs Go.RowKit Go.Ink Go.Sort

theorem frame_len (p : List UInt8) (hp : p.length ≤ 1000000) : (frameB p).length ≤ p.length + 40 := by
  have hl := putN_le (p.length : Int) (by omega)
  rw [frameB_len]
  unfold putT
  rw [List.length_append]; omega
theorem framesB_total : ∀ (l : List (List UInt8)), (∀ p ∈ l, p.length ≤ 1000000) → (framesB l).length ≤ total l + 40 * l.length
  | [], _ => by simp [framesB]
  | p :: l, h => by
    have h1 := frame_len p (h p (by simp))
    have h2 := framesB_total l (fun q hq => h q (by simp [hq]))
    rw [framesB_cons, List.length_append, total, List.length_cons]; omega

/-- What is left of a row of frames. -/
structure DropAt (P l : List (List UInt8)) (en left : Nat) : Prop where
  pre : l = P.take l.length
  len : l.length ≤ P.length
  low : en ≤ left
  all : l.length = P.length → en = (framesB P).length
  more : ∀ p, P[l.length]? = some p → left < en + (frameB p).length
theorem drop_at {P : List (List UInt8)} (hs : (framesB P).length ≤ 9223372036854775807) (hp : ∀ p ∈ P, p.length ≤ maxFrame) (left : Nat) (hl : left ≤ (framesB P).length) :
    ∃ en : Nat, (wholeS ((framesB P).take left)).2 = (en : Int) ∧ DropAt P (wholeS ((framesB P).take left)).1 en left := by
  obtain ⟨h1, h2, h3, h4, h5, h6⟩ := drop_way hs hp left hl
  obtain ⟨en, hen⟩ := Int.eq_ofNat_of_zero_le h4
  rw [hen] at h3 h5 h6
  exact ⟨en, hen, h1, h2, by omega, fun h => by have := h5 h; omega, fun p hp => by have := h6 p hp; omega⟩

set_option maxRecDepth 100000 in
set_option maxHeartbeats 2000000 in
theorem framesDrop_any (P : List (List UInt8)) (ao : Option Addr) (cap : Nat) (lost : Int) (w : World) (hl : SlOf IsStr w ao cap P) (h0 : 0 ≤ lost) (h1 : lost ≤ 65535) (he : EnvF w) :
    Calls Tryd.prog 6 #[.slice ao P.length cap, .int .u16 lost] w fun e w' => e = .returned (.bool true) ∧ Below w.heap.size w w' := by
  have HE := Lib.hid he; clear he
  have HS := Lib.hid hl; clear hl
  have HG := Lib.hid (great_any P ao cap 40 8000 w HS.out (by omega) (by omega))
  cases hg : greatS P 40 8000 with
  | true =>
    rw [hg] at HG
    clear hg
    go_enter Tryd.func6, Tryd.ntmps6
    go_wp2_with fail
    refine HG.out.mono ?_
    rintro e w1 ⟨rfl, rfl⟩
    go_wp2_with fail
    refine (stands_any _ HE.out).mono ?_
    rintro e w1 ⟨rfl, hb⟩
    go_wp2_with fail
    go_returns
    exact ⟨rfl, hb⟩
  | false =>
  rw [hg] at HG
  obtain ⟨hg1, hg2⟩ := greatS_false hg (by omega) (by omega)
  have hmem : ∀ p ∈ P, p.length ≤ 8000 := fun p hp => by have := mem_le_total hp; omega
  have HMEM := Lib.hid hmem
  have hft := framesB_total P (fun p hp => by have := hmem p hp; omega)
  obtain ⟨R, hR⟩ : ∃ R, (framesB P).length = R := ⟨_, rfl⟩
  have hR2 : R ≤ 10000 := by omega
  obtain ⟨L, rfl⟩ := Int.eq_ofNat_of_zero_le h0
  have hmod : L % (R + 1) ≤ R := by have := Nat.mod_lt L (show 0 < R + 1 by omega); omega
  obtain ⟨left, hleft⟩ : ∃ left, R - L % (R + 1) = left := ⟨_, rfl⟩
  obtain ⟨en, hen, hda⟩ := drop_at (P := P) (by omega) (fun p hp => by have := hmem p hp; unfold maxFrame; omega) left (by omega)
  have HW := Lib.hid (fun w he => whole_any ((framesB P).take left) w (by rw [List.length_take]; omega) he)
  unfold WholePost at HW
  rw [hen] at HW
  generalize (wholeS ((framesB P).take left)).1 = l at *
  have HDA := Lib.hid hda
  have hX : (⟨(framesB P).toArray⟩ : ByteArray).extract 0 left = ⟨((framesB P).take left).toArray⟩ := by rw [extract_mk, Nat.sub_zero, List.drop_zero]
  have HX := Lib.hid hX
  have HR := Lib.hid hR
  have hP40 : P.length ≤ 40 := by omega
  have hlP : l.length ≤ P.length := hda.len
  have henl : en ≤ left := hda.low
  have hleR : left ≤ R := by omega
  have hcm : (L : Int) % ((R : Int) + 1) = ((L % (R + 1) : Nat) : Int) := by rw [Int.natCast_emod]; simp
  have HLEFT := Lib.hid (show (R : Int) - (L : Int) % ((R : Int) + 1) = (left : Int) by rw [hcm]; omega)
  have HMOD := Lib.hid (show 0 ≤ (L : Int) % ((R : Int) + 1) ∧ (L : Int) % ((R : Int) + 1) ≤ (R : Int) by rw [hcm]; omega)
  have hF := fun (k : Nat) (p : List UInt8) (h : P[k]? = some p) => framesB_mem h
  have HFM := Lib.hid hF
  have hcapm : cap ≤ 9223372036854775807 := HS.out.2.1
  have hPc : P.length ≤ cap := HS.out.1
  clear hg hg1 hg2 hmem hft hR hmod hleft hen hda hX hF hcm
  go_enter Tryd.func6, Tryd.ntmps6
  go_wp2_with fail
  refine HG.out.mono ?_
  rintro e w1 ⟨rfl, rfl⟩
  go_wp2_with fail
  go_loopw [5, 6] (fun fv iv wr => ∃ k : Nat, iv = .int .i64 k ∧ k ≤ P.length ∧ fv = .string ⟨(framesB (P.take k)).toArray⟩ ∧ Hid (Below w1.heap.size w1 wr)) (fun _ iv _ => P.length - (intOf iv).toNat)
  case atStart => exact ⟨0, rfl, by omega, rfl, Lib.hid (Below.refl _ _)⟩
  case round =>
    obtain ⟨k, rfl, hk, rfl, HB⟩ := hrel
    by_cases hlt : k < P.length
    · obtain ⟨p, hkp⟩ : ∃ p, P[k]? = some p := ⟨_, List.getElem?_eq_getElem hlt⟩
      obtain ⟨g, off, u, hao, hcell, hu⟩ := (HS.out.later lasts_str HB.out).2.2.2 k p hkp
      subst hao
      have hu' : u = .string ⟨p.toArray⟩ := hu
      subst hu'
      clear hu
      have hmem := HFM.out k p hkp
      have HSN := Lib.hid (framesB_snoc hkp)
      have hpb : p.length ≤ 4194304 := by have := HMEM.out p (List.mem_of_getElem? hkp); omega
      have hc : ¬ 9223372036854775807 < (framesB (P.take k)).length + (frameB p).length := by have := HR.out; omega
      have HF := Lib.hid (fun w he => frame_any p w hpb he)
      have hlti : (k : Int) < (P.length : Int) := by omega
      clear hkp hmem
      generalize frameB p = fp at *
      generalize framesB (P.take k) = A at *
      go_wp2_with fail
      refine (HF.out _ (HE.out.later HB.out)).mono ?_
      rintro e w2 ⟨rfl, hb⟩
      have HB2 := Lib.hid (step2 HB.out hb); clear hb
      go_wp2_with fail
      go_roundw
      case rel => exact ⟨k + 1, by go_num, by omega, by rw [HSN.out, mk_append], HB2⟩
      case measure => simp [intOf]; omega
    · have hkl : k = P.length := by omega
      subst hkl
      rw [List.take_length]
      have hx := HX.out
      have hr := HR.out
      obtain ⟨hm1, hm2⟩ := HMOD.out
      have hlf := HLEFT.out
      have HEN := Lib.hid HDA.out.all
      generalize framesB P = F at *
      have hRF : F.length = R := hr
      subst hRF
      clear hr
      have hleFi : (left : Int) ≤ (F.length : Int) := by omega
      have hlt0 : ((left : Nat) : Int).toNat = left := by omega
      go_wp2_with fail
      refine (HW.out _ (HE.out.later HB.out)).mono ?_
      rintro e w2 ⟨v, rfl, ho, hb⟩
      obtain ⟨ao2, cap2, rfl, hs2⟩ := ho.slOf
      have HB2 := Lib.hid (step2 HB.out hb)
      have HSM := Lib.hid (same_any l l ao2 ao cap2 cap w2 hs2 (by have := sl_take (HS.out.later lasts_str (step2 HB.out hb)) l.length; rw [← HDA.out.pre] at this; exact this))
      clear hb ho hs2
      have hnlP : ¬ (P.length : Int) < (l.length : Int) := by omega
      have hnel : ¬ (left : Int) < (en : Int) := by omega
      clear hm1 hm2 hlf hx hleFi hlt0
      go_wp2_with fail
      refine HSM.out.mono ?_
      rintro e w3 ⟨rfl, n3, rfl⟩
      rw [sameS_self]
      have HB3 := Lib.hid (below_drewN HB2.out n3)
      generalize w2.drewN n3 = w3 at *
      by_cases hlp : l.length = P.length
      · have hq1 : ((l.length : Int) == (P.length : Int)) = true := by rw [hlp]; simp
        have henF : en = F.length := HEN.out hlp
        have hq2 : ((en : Int) == (F.length : Int)) = true := by rw [henF]; simp
        clear hlp henF
        go_wp2_with fail
        refine (stands_any _ (HE.out.later HB3.out)).mono ?_
        rintro e w4 ⟨rfl, hb⟩
        have HB4 := Lib.hid (step2 HB3.out hb); clear hb
        go_wp2_with fail
        go_returns
        exact ⟨rfl, HB4.out⟩
      · have hq1 : ((l.length : Int) == (P.length : Int)) = false := by rw [beq_eq_false_iff_ne]; omega
        have hltP : l.length < P.length := by omega
        obtain ⟨p, hkp⟩ : ∃ p, P[l.length]? = some p := ⟨_, List.getElem?_eq_getElem hltP⟩
        obtain ⟨g, off, u, hao, hcell, hu⟩ := (HS.out.later lasts_str HB3.out).2.2.2 l.length p hkp
        subst hao
        have hu' : u = .string ⟨p.toArray⟩ := hu
        subst hu'
        have hmore := HDA.out.more p hkp
        have hmem := HFM.out _ p hkp
        have hpb : p.length ≤ 4194304 := by have := HMEM.out p (List.mem_of_getElem? hkp); omega
        have HF := Lib.hid (fun w he => frame_any p w hpb he)
        have hlti : (l.length : Int) < (P.length : Int) := by omega
        have hfl : (frameB p).length ≤ 10000 := by omega
        have hgt : (left : Int) < (en : Int) + ((frameB p).length : Int) := by omega
        clear hkp hmem hmore hu hlp
        generalize frameB p = fp at *
        go_wp2_with fail
        refine (HF.out _ (HE.out.later HB3.out)).mono ?_
        rintro e w4 ⟨rfl, hb⟩
        have HB4 := Lib.hid (step2 HB3.out hb); clear hb
        go_wp2_with fail
        refine (stands_any _ (HE.out.later HB4.out)).mono ?_
        rintro e w5 ⟨rfl, hb⟩
        have HB5 := Lib.hid (step2 HB4.out hb); clear hb
        go_wp2_with fail
        go_returns
        exact ⟨rfl, HB5.out⟩
end Go.Proofs.YtagemjjhiddpgaaDoor
