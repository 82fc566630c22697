/- A visual editor takes a byte of a text that is inserted, or its end (chapter 28). -/
import Derived.Test.YthhihondlihebaaGreatDoorVi2
import Derived.Test.YthhihondlihebaaGreatDoorCoCur
namespace Go.Proofs.YthhihondlihebaaGreatDoor
open Go Go.Proofs Go.RowKit Go.Ink Go.Sort

section
variable {w w' : World} {d : Nat} {v : Vis}
theorem visStepIns {b : UInt8} (hb : b ≠ 27) (h : VisB w d v) (hm : v.mode = 2) (R : World → Prop)
    (hR : Calls Tryz.prog 33 #[.pointer (some ⟨d, 0, none⟩), .int .u8 (b.toNat : Int)] w fun e w' => e = .returned (.int .i64 0) ∧ R w') :
    Calls Tryz.prog 13 #[.pointer (some ⟨d, 0, none⟩), .int .u8 (b.toNat : Int)] w fun e w' => e = .returned (.tuple #[.slice none 0 0, .string ⟨#[]⟩, .bool false, .int .i64 0]) ∧ R w' := by
  have HNO := Lib.hid (visNone h)
  have h3 := h.at 3 rfl
  rw [hm] at h3
  have hb27 : ¬ (b.toNat : Int) = 27 := fun e => hb (UInt8.toNat_inj.1 (by simpa using (by omega : b.toNat = 27)))
  have hb27b : ((b.toNat : Int) == 27) = false := by rw [beq_eq_false_iff_ne]; exact hb27
  clear h
  go_enter Tryz.func13, Tryz.ntmps13
  go_wp2_with fail
  refine HNO.out.mono ?_
  rintro e w1 ⟨rfl, rfl⟩
  go_wp2_with fail
  refine hR.mono ?_
  rintro e w2 ⟨rfl, hr⟩
  go_wp2_with fail
  go_returns
  exact ⟨rfl, hr⟩
theorem visStepEsc (h : VisB w d v) (hm : v.mode = 2) (R : World → Value → World → Prop)
    (hR : Calls Tryz.prog 32 #[.pointer (some ⟨d, 0, none⟩)] w fun e w' => ∃ sl, e = .returned sl ∧ R w sl w') :
    Calls Tryz.prog 13 #[.pointer (some ⟨d, 0, none⟩), .int .u8 27] w fun e w' => ∃ sl, e = .returned (.tuple #[sl, .string ⟨#[]⟩, .bool false, .int .i64 0]) ∧ R w sl w' := by
  have HNO := Lib.hid (visNone h)
  have h3 := h.at 3 rfl
  rw [hm] at h3
  clear h
  go_enter Tryz.func13, Tryz.ntmps13
  go_wp2_with fail
  refine HNO.out.mono ?_
  rintro e w1 ⟨rfl, rfl⟩
  go_wp2_with fail
  refine hR.mono ?_
  rintro e w2 ⟨sl, rfl, hr⟩
  go_wp2_with fail
  go_returns
  exact ⟨sl, rfl, hr⟩
end
end Go.Proofs.YthhihondlihebaaGreatDoor
/- A visual editor leaves a text (chapter 28). -/
namespace Go.Proofs.YthhihondlihebaaGreatDoor
open Go Go.Proofs Go.RowKit Go.Ink Go.Sort

section
variable {S : Nat → Prop} {w w' : World} {d : Nat} {v : Vis}
set_option maxRecDepth 100000 in
set_option maxHeartbeats 2000000 in
theorem visLeave {n k s : Nat} {t : Nat} {cur : Int} {last : List UInt8} {r : Nat} {dirty : Bool} {undo held : Option Addr} {a : Option Addr} {nd cp : Nat} {ps : List (List Line)} {F : List Line} (h : VisB w d v) (hc : CoreB w v.c t cur last r dirty undo (some ⟨s, 0, none⟩) held (.slice a nd cp)) (ht : TabOf S w t ps) (hl : ps.length ≤ 100000) (hm : manyS ps ≤ 1000000) (hF : ps.flatten = F) (hsh : ∀ i, (lnL F i).length ≤ 1000000) (hln : v.ln = (n : Int) + 1) (hcol : v.col = (k : Int)) (hk6 : k ≤ 1000000) (hq : Okp F (n, k - 1)) (hcd : v.c ≠ d) (hSd : S d) :
    Calls Tryz.prog 32 #[.pointer (some ⟨d, 0, none⟩)] w fun e w' => e = .returned (.slice a nd cp) ∧ VisB w' d { v with text := v.done, mode := 1, ln := (n : Int) + 1, col := ((k - 1 : Nat) : Int) } ∧ (∃ dirty' undo', CoreB w' v.c t ((n : Int) + 1) last r dirty' undo' none none (.slice none 0 0)) ∧ KeepT (TwoV v.c d) w w' := by
  cases k with
  | zero =>
    have s0 := h
    have u8 := s0.at 8 rfl
    have u20 := s0.at 20 rfl
    have u19 := s0.at 19 rfl
    have g19 := s0.fz 19
    have s1 := s0.set19 v.done
    have u3 := s1.at 3 rfl
    have g3 := s1.fz 3
    have s2 := s1.set3 1
    have u2 := s2.at 2 rfl
    have g2 := s2.fz 2
    rw [show ({ ({ v with text := v.done } : Vis) with mode := 1 } : Vis).col = v.col from rfl, hcol] at u2
    have HVE := Lib.hid s2
    have HQ := Lib.hid (show Okp F (n, 0) from hq)
    have x1 := s2.at 1 rfl
    have x2 := u2
    have hk : ∀ T : Nat → Prop, T d → KeepT T w ((w.setCell ⟨d, 19, none⟩ (.string ⟨v.done.toArray⟩)).setCell ⟨d, 3, none⟩ (.int .i64 1)) := fun T hT => keepOnly (keepOnly (KeepT.refl T w) hT 19 _) hT 3 _
    have HC := Lib.hid (hc.kept (hk (Only d) rfl) (by unfold Only; exact hcd))
    have HT := Lib.hid (ht.kept (hk S hSd))
    have HK := Lib.hid (hk (TwoV v.c d) (.inr rfl))
    have HAT := Lib.hid (visAt HVE.out HC.out HT.out hl hm hF hsh HQ.out hcd hSd)
    clear s0 s1 s2 hk h hc ht
    go_enter Tryz.func32, Tryz.ntmps32
    go_wp2_with fail
    refine HAT.out.mono ?_
    rintro e w1 ⟨rfl, hv1, hc1, hk1⟩
    have HV1 := Lib.hid hv1
    have HK1 := Lib.hid (HK.out.trans hk1 (fun x _ hx => hx))
    have HEN := Lib.hid (coreEnd_of hc1)
    have x0 := hv1.at 0 rfl
    clear hv1 hc1 hk1
    go_wp2_with fail
    refine HEN.out.mono ?_
    rintro e w2 ⟨rfl, ⟨dy, ud, hc2⟩, hk2⟩
    have HV2 := Lib.hid (HV1.out.kept hk2 (by unfold Only; exact fun e => hcd e.symm))
    have HK2 := Lib.hid (HK1.out.trans hk2 (fun x _ hx => .inl hx))
    go_wp2_with fail
    go_returns
    exact ⟨rfl, HV2.out, ⟨dy, ud, hc2⟩, HK2.out⟩
  | succ j =>
    have s0 := h
    have u8 := s0.at 8 rfl
    have u20 := s0.at 20 rfl
    have u19 := s0.at 19 rfl
    have g19 := s0.fz 19
    have s1 := s0.set19 v.done
    have u3 := s1.at 3 rfl
    have g3 := s1.fz 3
    have s2 := s1.set3 1
    have u2 := s2.at 2 rfl
    have g2 := s2.fz 2
    rw [show ({ ({ v with text := v.done } : Vis) with mode := 1 } : Vis).col = v.col from rfl, hcol] at u2
    have s3 := s2.set2 (j : Int)
    have HVE := Lib.hid s3
    have HQ := Lib.hid (show Okp F (n, j) from hq)
    have hz : wrap64 (((j + 1 : Nat) : Int) - 1) = (j : Int) := by unfold wrap64; omega
    have hz' : wrap64 ((j : Int) + 1 - 1) = (j : Int) := by unfold wrap64; omega
    have hp : (0 : Int) < (j : Int) + 1 := by omega
    have hpd : decide ((j : Int) + 1 > 0) = true := by simp
    have x1 := s3.at 1 rfl
    have x2 := s3.at 2 rfl
    have hk : ∀ T : Nat → Prop, T d → KeepT T w (((w.setCell ⟨d, 19, none⟩ (.string ⟨v.done.toArray⟩)).setCell ⟨d, 3, none⟩ (.int .i64 1)).setCell ⟨d, 2, none⟩ (.int .i64 (j : Int))) := fun T hT => keepOnly (keepOnly (keepOnly (KeepT.refl T w) hT 19 _) hT 3 _) hT 2 _
    have HC := Lib.hid (hc.kept (hk (Only d) rfl) (by unfold Only; exact hcd))
    have HT := Lib.hid (ht.kept (hk S hSd))
    have HK := Lib.hid (hk (TwoV v.c d) (.inr rfl))
    have HAT := Lib.hid (visAt HVE.out HC.out HT.out hl hm hF hsh HQ.out hcd hSd)
    clear s0 s1 s2 s3 hk h hc ht
    go_enter Tryz.func32, Tryz.ntmps32
    go_wp2_with fail
    refine HAT.out.mono ?_
    rintro e w1 ⟨rfl, hv1, hc1, hk1⟩
    have HV1 := Lib.hid hv1
    have HK1 := Lib.hid (HK.out.trans hk1 (fun x _ hx => hx))
    have HEN := Lib.hid (coreEnd_of hc1)
    have x0 := hv1.at 0 rfl
    clear hv1 hc1 hk1
    go_wp2_with fail
    refine HEN.out.mono ?_
    rintro e w2 ⟨rfl, ⟨dy, ud, hc2⟩, hk2⟩
    have HV2 := Lib.hid (HV1.out.kept hk2 (by unfold Only; exact fun e => hcd e.symm))
    have HK2 := Lib.hid (HK1.out.trans hk2 (fun x _ hx => .inl hx))
    go_wp2_with fail
    go_returns
    exact ⟨rfl, HV2.out, ⟨dy, ud, hc2⟩, HK2.out⟩
end
end Go.Proofs.YthhihondlihebaaGreatDoor
/- A visual editor's mode (chapter 28). -/
namespace Go.Proofs.YthhihondlihebaaGreatDoor
open Go Go.Proofs Go.RowKit Go.Ink Go.Sort

section
variable {w w' : World} {d : Nat} {v : Vis}
theorem visMode (h : VisB w d v) : Calls Tryz.prog 14 #[.pointer (some ⟨d, 0, none⟩)] w fun e w' => e = .returned (.int .i64 v.mode) ∧ w' = w := by
  have HNO := Lib.hid (visNone h)
  have h3 := h.at 3 rfl
  clear h
  go_enter Tryz.func14, Tryz.ntmps14
  go_wp2_with fail
  refine HNO.out.mono ?_
  rintro e w1 ⟨rfl, rfl⟩
  go_wp2_with fail
  go_returns
  exact ⟨rfl, rfl⟩
end
end Go.Proofs.YthhihondlihebaaGreatDoor
