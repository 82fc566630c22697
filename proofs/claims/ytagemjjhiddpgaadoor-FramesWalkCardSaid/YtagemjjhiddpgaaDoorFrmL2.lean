/- The walk of the law FramesWalk: it answers true. -/
import Derived.Test.YtagemjjhiddpgaaDoorFrmL1
namespace Go.Proofs.YtagemjjhiddpgaaDoor
open Go Go.Proofs Go.RowKit Go.Ink Go.Sort

/-- The place where the k-th frame begins. -/
def placeF (l : List (List UInt8)) (k : Nat) : Nat := (framesB (l.take k)).length
set_option maxRecDepth 100000 in
set_option maxHeartbeats 1000000 in
theorem framesWalk_any (s : List UInt8) (w : World) (hs : s.length ≤ 140737488355328) (he : EnvF w) :
    Calls Tryd.prog 4 #[.string ⟨s.toArray⟩] w fun e w' => e = .returned (.bool true) ∧ Below w.heap.size w w' := by
  have HE := Lib.hid he; clear he
  by_cases hs1 : 15000 < s.length
  · go_enter Tryd.func4, Tryd.ntmps4
    go_wp2_with fail
    refine (stands_any _ HE.out).mono ?_
    rintro e w1 ⟨rfl, hb⟩
    go_wp2_with fail
    go_returns
    exact ⟨rfl, hb⟩
  have HW := Lib.hid (fun w he => whole_any s w (by omega) he)
  obtain ⟨en, h1, h2, h3, -, -, -⟩ := whole_way (s := s) (by omega)
  have hst := fun k p (hk : (wholeS s).1[k]? = some p) => walk_step (s := s) (by omega) hk
  unfold WholePost at HW
  rw [h1] at HW
  have HN := Lib.hid (fun i w he => next_any s i w (by omega) he)
  generalize (wholeS s).1 = l at *
  have HST := Lib.hid hst
  have HLE := Lib.hid h3
  have hp0 : Hid (placeF l 0 = 0) := Lib.hid rfl
  clear h1 h3 hst
  go_enter Tryd.func4, Tryd.ntmps4
  go_wp2_with fail
  refine (HW.out _ HE.out).mono ?_
  rintro e w1 ⟨v, rfl, ho, hb⟩
  obtain ⟨ao, cap, rfl, hsl⟩ := ho.slOf
  have HSL := Lib.hid hsl
  have HB1 := Lib.hid hb; clear hb ho hsl
  have hlm : l.length ≤ 9223372036854775807 := Nat.le_trans HSL.out.1 HSL.out.2.1
  go_wp2_with fail
  go_loopw [5, 6] (fun av iv wr => ∃ k : Nat, iv = .int .i64 k ∧ k ≤ l.length ∧ av = .int .i64 (placeF l k : Int) ∧ Hid (Below w1.heap.size w1 wr)) (fun _ iv _ => l.length - (intOf iv).toNat)
  case atStart => exact ⟨0, rfl, by omega, rfl, Lib.hid (Below.refl _ _)⟩
  case round =>
    obtain ⟨k, rfl, hk, rfl, HB⟩ := hrel
    by_cases hlt : k < l.length
    · obtain ⟨p, hkp⟩ : ∃ p, l[k]? = some p := ⟨_, List.getElem?_eq_getElem hlt⟩
      obtain ⟨g, off, u, hao, hcell, hu⟩ := (HSL.out.later lasts_str HB.out).2.2.2 k p hkp
      subst hao
      have hu' : u = .string ⟨p.toArray⟩ := hu
      subst hu'
      clear hu
      obtain ⟨g1, g2, g3⟩ := HST.out k p hkp
      have HNX := Lib.hid (fun w he => by have := HN.out ((framesB (l.take k)).length : Int) w he; rw [g1] at this; exact this)
      simp only [getTV] at HNX
      change Hid (∀ (w : World), EnvF w → Calls Tryd.prog 13 #[.string ⟨s.toArray⟩, .int .i64 ((placeF l k : Nat) : Int)] w fun e w' => e = .returned (.tuple #[.string ⟨p.toArray⟩, .int .i64 ((placeF l (k + 1) : Nat) : Int), .bool true]) ∧ Below w.heap.size w w') at HNX
      have h10 : placeF l k + 10 ≤ placeF l (k + 1) := g2
      have hle : placeF l (k + 1) ≤ s.length := g3
      have hself : (p != p) = false := by simp
      have hlti : (k : Int) < (l.length : Int) := by omega
      have h10i : ¬ ((placeF l (k + 1) : Nat) : Int) < ((placeF l k : Nat) : Int) + 10 := by omega
      clear hkp g1 g2 g3
      generalize hA : placeF l (k + 1) = A1 at *
      generalize placeF l k = A0 at *
      have HA := Lib.hid hA; clear hA
      have hcw : w1.heap.size ≤ wr.heap.size := HB.out.size
      go_wp2_with fail
      refine (HNX.out _ (HE.out.later (step2 HB1.out HB.out))).mono ?_
      rintro e w2 ⟨rfl, hb⟩
      have hcell2 := (hb.cell (p := ⟨g, off + k, none⟩) (lt_of_cell hcell)).trans hcell
      have HB2 := Lib.hid (step2 HB.out hb); clear hb hcell
      go_wp2_with fail
      go_roundw
      case rel => exact ⟨k + 1, by go_num, by omega, by rw [HA.out], HB2⟩
      case measure => simp [intOf]; omega
    · have hkl : k = l.length := by omega
      subst hkl
      have hen : placeF l l.length = en := by unfold placeF; rw [List.take_length, HLE.out]
      rw [hen]
      go_wp2_with fail
      refine (stands_any _ (HE.out.later (step2 HB1.out HB.out))).mono ?_
      rintro e w3 ⟨rfl, hb⟩
      have HB3 := Lib.hid (step2 HB1.out (step2 HB.out hb)); clear hb
      go_wp2_with fail
      go_returns
      exact ⟨rfl, HB3.out⟩
end Go.Proofs.YtagemjjhiddpgaaDoor
