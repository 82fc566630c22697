/- The walks of frames.lacks, take, payload. -/
import Derived.Test.YtofllhipjaphfaaGreatDoorFrm2
import Derived.Test.YtofllhipjaphfaaGreatDoorErrAs2
import Derived.Test.YtofllhipjaphfaaGreatDoorNumsT
import Derived.Lib.QuietBelow
namespace Go.Proofs.YtofllhipjaphfaaGreatDoor
open Go Go.Proofs Go.RowKit Go.Ink

/-- The reader in block b: its text and where it stands. -/
def Rd (w : World) (b : Nat) (s : List UInt8) (i : Int) : Prop := w.heap[b]? = some (.cells #[.string ⟨s.toArray⟩, .int .i64 i] 136 (0, 0))
theorem Rd.cells {w : World} {b : Nat} {s : List UInt8} {i : Int} (h : Rd w b s i) : w.cell? ⟨b, 0, none⟩ = some (.string ⟨s.toArray⟩) ∧ w.cell? ⟨b, 1, none⟩ = some (.int .i64 i) ∧ w.frozen? ⟨b, 1, none⟩ = false := by
  have hc := Lib.cell_of_heap h
  exact ⟨by rw [hc 0]; rfl, by rw [hc 1]; rfl, Lib.frozen_of_heap h 1⟩
theorem Rd.set {w : World} {b : Nat} {s : List UInt8} {i : Int} (h : Rd w b s i) (j : Int) : Rd (w.setCell ⟨b, 1, none⟩ (.int .i64 j)) b s j := by
  unfold Rd at *
  rw [heap_set h]; rfl
theorem Rd.later {w w' : World} {b : Nat} {s : List UInt8} {i : Int} (h : Rd w b s i) (hb : Below w.heap.size w w') : Rd w' b s i := (hb.block b (lt_of_heap h)).trans h

theorem lacks_any (p : ByteArray) (w : World) :
    Calls Tryz.prog 115 #[.string p] w fun e w' => (∃ a, e = .returned (.iface 178 (.pointer (some a)))) ∧ Below w.heap.size w w' := by
  go_enter Tryz.func115, Tryz.ntmps115
  go_wp2_with fail
  go_returns
  exact ⟨⟨_, rfl⟩, (Below.refl _ _).alloc (Nat.le_refl _) _⟩

set_option maxHeartbeats 1000000 in
theorem take_yes (b i : Nat) (s x : List UInt8) (p : ByteArray) (w : World) (hr : Rd w b s i) (hs : s.length ≤ 140737488355328) (h1 : i + x.length ≤ s.length) (h2 : (s.drop i).take x.length = x) :
    Calls Tryz.prog 102 #[.pointer (some ⟨b, 0, none⟩), .string ⟨x.toArray⟩, .string p] w fun e w' => e = .returned .nilIface ∧ Rd w' b s ((i + x.length : Nat) : Int) ∧ Below b w w' := by
  obtain ⟨c0, c1, f1⟩ := hr.cells
  have HR := Lib.hid hr
  clear hr
  have hX : (⟨s.toArray⟩ : ByteArray).extract i (i + x.length) = ⟨x.toArray⟩ := by rw [extract_mk, show i + x.length - i = x.length by omega, h2]
  have hd : decide ((s.length : Int) - (i : Int) < (x.length : Int)) = false := by simp; omega
  have HW := Lib.hid (fun n => (Rd.set (show Rd (w.drewN n) b s i from HR.out) ((i + x.length : Nat) : Int)))
  have hw1 : IntKind.i64.wrap ((s.length : Int) - (i : Int)) = (s.length : Int) - (i : Int) := IntWalk.i64_in _ (by omega)
  have hw2 : IntKind.i64.wrap ((i : Int) + (x.length : Int)) = (i : Int) + (x.length : Int) := IntWalk.i64_in _ (by omega)
  have hw3 : (0 : Int) ≤ (i : Int) + (x.length : Int) := by omega
  have hw4 : (i : Int) + (x.length : Int) ≤ (s.length : Int) := by omega
  have hw5 : ((i : Int) + (x.length : Int)).toNat = i + x.length := by omega
  have hi0 : (i : Int) ≤ (i : Int) + (x.length : Int) := by omega
  clear h2 h1
  go_enter Tryz.func102, Tryz.ntmps102
  go_wp2_with fail
  go_quiet (fail)
  go_wp2_with fail
  go_returns
  exact ⟨rfl, HW.out _, (below_drewN (Below.refl _ _) _).setCell (p := ⟨b, 1, none⟩) (Nat.le_refl _) _⟩
set_option maxHeartbeats 1000000 in
theorem take_no (b i : Nat) (s x : List UInt8) (p : ByteArray) (w : World) (hr : Rd w b s i) (hs : s.length ≤ 140737488355328) (hx : x.length ≤ 140737488355328) (hi : i ≤ s.length) (h : ¬ (i + x.length ≤ s.length ∧ (s.drop i).take x.length = x)) :
    Calls Tryz.prog 102 #[.pointer (some ⟨b, 0, none⟩), .string ⟨x.toArray⟩, .string p] w fun e w' => (∃ a, e = .returned (.iface 178 (.pointer (some a)))) ∧ Below w.heap.size w w' := by
  obtain ⟨c0, c1, f1⟩ := hr.cells
  clear hr
  have hw1 : IntKind.i64.wrap ((s.length : Int) - (i : Int)) = (s.length : Int) - (i : Int) := IntWalk.i64_in _ (by omega)
  by_cases h1 : i + x.length ≤ s.length
  · have h2 : ¬ (s.drop i).take x.length = x := fun e => h ⟨h1, e⟩
    obtain ⟨y, hy⟩ : ∃ y, (s.drop i).take x.length = y := ⟨_, rfl⟩
    have hX : (⟨s.toArray⟩ : ByteArray).extract i (i + x.length) = ⟨y.toArray⟩ := by rw [extract_mk, show i + x.length - i = x.length by omega, hy]
    rw [hy] at h2
    have hne : (y == x) = false := by simpa using h2
    have hne2 : (y != x) = true := by simpa using h2
    have hd : decide ((s.length : Int) - (i : Int) < (x.length : Int)) = false := by simp; omega
    have hw2 : IntKind.i64.wrap ((i : Int) + (x.length : Int)) = (i : Int) + (x.length : Int) := IntWalk.i64_in _ (by omega)
    have hw3 : (0 : Int) ≤ (i : Int) + (x.length : Int) := by omega
    have hw4 : (i : Int) + (x.length : Int) ≤ (s.length : Int) := by omega
    have hw5 : ((i : Int) + (x.length : Int)).toNat = i + x.length := by omega
    have hi0 : (i : Int) ≤ (i : Int) + (x.length : Int) := by omega
    clear h2 h1 h hy
    go_enter Tryz.func102, Tryz.ntmps102
    go_wp2_with fail
    go_quiet (fail)
    go_wp2_with fail
    refine (lacks_any _ _).mono ?_
    rintro e w' ⟨⟨a, rfl⟩, hb⟩
    go_wp2_with fail
    go_returns
    exact ⟨⟨_, rfl⟩, (below_drewN (Below.refl _ _) _).trans hb⟩
  · have hd : decide ((s.length : Int) - (i : Int) < (x.length : Int)) = true := by simp; omega
    clear h h1
    go_enter Tryz.func102, Tryz.ntmps102
    go_wp2_with fail
    refine wp_region_quiet_lit (by kernel_rfl) (by kernel_rfl) ?_
    iterate 33 ((with_reducible refine wpQuiet_step (fun K hK => ?_)); go_simp; (with_reducible refine hK _ ?_); clear hK K)
    refine wpQuiet_nil ?_
    intro _ hw'
    obtain ⟨nq, hw''⟩ := hw'
    subst hw''
    go_wp2_with fail
    refine (lacks_any _ _).mono ?_
    rintro e w' ⟨⟨a, rfl⟩, hb⟩
    go_wp2_with fail
    go_returns
    exact ⟨⟨_, rfl⟩, (below_drewN (Below.refl _ _) _).trans hb⟩
end Go.Proofs.YtofllhipjaphfaaGreatDoor
