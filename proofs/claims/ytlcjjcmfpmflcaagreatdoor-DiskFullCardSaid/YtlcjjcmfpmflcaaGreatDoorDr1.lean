/- saves.named, files.named at a file's name (chapter 24). -/
import Derived.Test.YtlcjjcmfpmflcaaGreatDoorBase
import Derived.Test.YtlcjjcmfpmflcaaGreatDoorProg
import Derived.WalkSmall
import Derived.Test.YtlcjjcmfpmflcaaGreatDoorVsR
set_option linter.unusedVariables false
set_option linter.unusedSimpArgs false
namespace Go.Proofs.YtlcjjcmfpmflcaaGreatDoor
open Go Go.Proofs Go.RowKit Go.Ink

theorem savesNamed_any (l : List UInt8) (h1 : l ≠ []) (h2 : l ≠ [126]) (hl : l.length ≤ 16) (w : World) : Calls Tryz.prog 39 #[.string ⟨l.toArray⟩] w fun e w' => e = .returned (.int .i64 0) ∧ w' = w := by
  have b1 : (l == []) = false := by rw [beq_eq_false_iff_ne]; exact h1
  have b2 : (l == [126]) = false := by rw [beq_eq_false_iff_ne]; exact h2
  have HSZ := size_mk l
  have hli : ¬ (16 : Int) < (l.length : Int) := by omega
  clear h1 h2
  go_enter Tryz.func39, Tryz.ntmps39
  go_wp2_with fail
  go_returns
  exact ⟨rfl, rfl⟩
theorem filesNamed_any (l : List UInt8) (h1 : l ≠ []) (hl : l.length ≤ 16) (w : World) : Calls Tryz.prog 77 #[.string ⟨l.toArray⟩] w fun e w' => e = .returned (.bool true) ∧ w' = w := by
  have b1 : (l == []) = false := by rw [beq_eq_false_iff_ne]; exact h1
  have HSZ := size_mk l
  have hli : (l.length : Int) ≤ 16 := by omega
  clear h1
  go_enter Tryz.func77, Tryz.ntmps77
  go_wp2_with fail
  go_returns
  exact ⟨rfl, rfl⟩
end Go.Proofs.YtlcjjcmfpmflcaaGreatDoor
/- Hooks of chapter 24: saves.named and files.named at names that are not known. -/
namespace Go.Proofs.YtlcjjcmfpmflcaaGreatDoor
open Go Go.Proofs Go.Ev Go.RowKit Go.Ink

/-- saves.named, at a name that is not known (an odd number, at most 16 bytes) -/
noncomputable def hNmS : Hook := fun l h => match l with
  | [.ostr i u] => cond (Nat.beq (i % 2) 1) (cond (Nat.ble u 16) (.ok (.int .i64 0, h)) (.no 401)) (.no 401)
  | _ => .no 401
set_option maxRecDepth 100000 in
theorem nmS_ok : CallOk1 Tryz.prog 39 hNmS := by
  intro l h v h' h0
  unfold hNmS at h0
  split at h0
  case h_2 => cases h0
  rename_i i u
  obtain ⟨c1, h1⟩ := cond_ok h0
  obtain ⟨c2, h2⟩ := cond_ok h1
  cases h2
  have hi := Nat.eq_of_beq_eq_true c1
  have hu := Nat.le_of_ble_eq_true c2
  refine ⟨rfl, fun ξ G args w rp hG hd => ?_⟩
  simp only [DenL, Den] at hd
  obtain ⟨x, xs, e1, ⟨l, hl, _, rfl⟩, rfl⟩ := hd
  have ea : args = #[.string ⟨l.toArray⟩] := Array.toList_inj.1 e1
  subst ea
  exact callW_of_below no_count (c := (Tryz.f39.body).getD .skip) Tryz.func39 (by kernel_rfl) rp (x := .int .i64 0) (by simp [Den]) ((savesNamed_any l (hl.2 hi).1 (hl.2 hi).2 (by have := hl.1; omega) w).mono fun _ _ ⟨he, hw⟩ => ⟨he, by rw [hw]; exact Below.refl _ _⟩)
/-- files.named, at such a name, and at "~" -/
noncomputable def hNmF : Hook := fun l h => match l with
  | [.ostr i u] => cond (Nat.beq (i % 2) 1) (cond (Nat.ble u 16) (.ok (.bool true, h)) (.no 402)) (.no 402)
  | [.str n _] => cond (Nat.beq n 1) (.ok (.bool true, h)) (.no 402)
  | _ => .no 402
set_option maxRecDepth 100000 in
theorem nmF_ok : CallOk1 Tryz.prog 77 hNmF := by
  intro l h v h' h0
  unfold hNmF at h0
  split at h0
  case h_3 => cases h0
  case h_1 =>
    rename_i i u
    obtain ⟨c1, h1⟩ := cond_ok h0
    obtain ⟨c2, h2⟩ := cond_ok h1
    cases h2
    have hi := Nat.eq_of_beq_eq_true c1
    have hu := Nat.le_of_ble_eq_true c2
    refine ⟨rfl, fun ξ G args w rp hG hd => ?_⟩
    simp only [DenL, Den] at hd
    obtain ⟨x, xs, e1, ⟨l, hl, _, rfl⟩, rfl⟩ := hd
    have ea : args = #[.string ⟨l.toArray⟩] := Array.toList_inj.1 e1
    subst ea
    exact callW_of_below no_count (c := (Tryz.f77.body).getD .skip) Tryz.func77 (by kernel_rfl) rp (x := .bool true) (by simp [Den]) ((filesNamed_any l (hl.2 hi).1 (by have := hl.1; omega) w).mono fun _ _ ⟨he, hw⟩ => ⟨he, by rw [hw]; exact Below.refl _ _⟩)
  case h_2 =>
    rename_i n c
    obtain ⟨c1, h1⟩ := cond_ok h0
    cases h1
    have hn := Nat.eq_of_beq_eq_true c1
    subst hn
    refine ⟨rfl, fun ξ G args w rp hG hd => ?_⟩
    simp only [DenL, Den] at hd
    obtain ⟨x, xs, e1, ⟨_, rfl⟩, rfl⟩ := hd
    have ea : args = #[.string ⟨(digs 1 c).toArray⟩] := Array.toList_inj.1 e1
    subst ea
    have hlen : (digs 1 c).length = 1 := by simp [digs_length]
    exact callW_of_below no_count (c := (Tryz.f77.body).getD .skip) Tryz.func77 (by kernel_rfl) rp (x := .bool true) (by simp [Den]) ((filesNamed_any (digs 1 c) (fun h => by rw [h] at hlen; cases hlen) (by omega) w).mono fun _ _ ⟨he, hw⟩ => ⟨he, by rw [hw]; exact Below.refl _ _⟩)
end Go.Proofs.YtlcjjcmfpmflcaaGreatDoor
