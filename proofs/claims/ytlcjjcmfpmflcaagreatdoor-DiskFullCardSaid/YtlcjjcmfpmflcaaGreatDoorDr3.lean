/- The file system of chapter 24 at names and texts that are not known: made, written, read; run by the kernel. -/
import Derived.Test.YtlcjjcmfpmflcaaGreatDoorDr1
import Derived.Test.YtlcjjcmfpmflcaaGreatDoorFsA
import Derived.Test.YtlcjjcmfpmflcaaGreatDoorDkZ
set_option linter.unusedVariables false
set_option linter.unusedSimpArgs false
namespace Go.Proofs.YtlcjjcmfpmflcaaGreatDoor
open Go Go.Proofs Go.Ev Go.RowKit Go.Ink

noncomputable def hooksF : List (Nat × Hook) := [(162, hCmpO), (39, hNmS), (77, hNmF), (133, hSame)]
theorem hooksF_ok : ∀ p ∈ hooksF, CallOk1 Tryz.prog p.1 p.2 := by
  intro p hp
  simp only [hooksF, List.mem_cons, List.not_mem_nil, or_false] at hp
  rcases hp with rfl | rfl | rfl | rfl
  · exact cmpO_ok ext_cmp
  · exact nmS_ok
  · exact nmF_ok
  · exact same_ok ext_same
noncomputable def fsR1 : R (V × Ev.H) := runTop Tryz.prog hooksF [] 3000 60 8 [.int .i64 1048576] (h0 6)
noncomputable def fsH1 : Ev.H := hOf fsR1
noncomputable def fsR2 : R (V × Ev.H) := runTop Tryz.prog hooksF [] 3000 60 10 [.ptr 6 0, .ostr 1 16, .ostr 0 30000] fsH1
noncomputable def fsH2 : Ev.H := hOf fsR2
noncomputable def fsR3 : R (V × Ev.H) := runTop Tryz.prog hooksF [] 3000 60 16 [.ptr 6 0, .ostr 1 16] fsH2
noncomputable def fsH3 : Ev.H := hOf fsR3
noncomputable def fsR4 : R (V × Ev.H) := runTop Tryz.prog hooksF [] 3000 60 16 [.ptr 6 0, .ostr 1 16] fsH3
noncomputable def fsH4 : Ev.H := hOf fsR4
noncomputable def fsR5 : R (V × Ev.H) := runTop Tryz.prog hooksF [] 3000 60 23 [.ptr 6 0] fsH1
set_option maxRecDepth 100000
theorem fs1 : isV (.tup [.ptr 6 0, .int .i64 0]) fsR1 = true := by decide +kernel
theorem fs2 : isV (.int .i64 0) fsR2 = true := by decide +kernel
theorem fs3 : isV (.tup [.ostr 0 30000, .int .i64 0]) fsR3 = true := by decide +kernel
theorem fs4 : isV (.tup [.ostr 0 30000, .int .i64 0]) fsR4 = true := by decide +kernel
theorem fs5 : isV .snil fsR5 = true := by decide +kernel
/-- What is not known: the text, the name. -/
noncomputable def txN (t n : List UInt8) : Nat → Value
  | 0 => .string ⟨t.toArray⟩
  | 1 => .string ⟨n.toArray⟩
  | _ => undef
/-- The file system at a place, in one of these states. -/
def Fs (t n : List UInt8) (H : Ev.H) (w : World) (p : Addr) (F : Nat → Prop) : Prop := FsAt Tryz.prog (txN t n) H w (.ptr 6 0) (.pointer (some p)) F
theorem den_tx {t n : List UInt8} {G : Gh} (ht : t.length ≤ 30000) : Den (txN t n) G (.ostr 0 30000) (.string ⟨t.toArray⟩) := by
  simp only [Den]
  exact ⟨t, ⟨ht, fun h => by simp at h⟩, rfl, rfl⟩
theorem den_nm {t n : List UInt8} {G : Gh} (h1 : n ≠ []) (h2 : n ≠ [126]) (h3 : n.length ≤ 16) : Den (txN t n) G (.ostr 1 16) (.string ⟨n.toArray⟩) := by
  simp only [Den]
  exact ⟨n, ⟨h3, fun _ => ⟨h1, h2⟩⟩, rfl, rfl⟩
theorem den_tx0 {t n : List UInt8} {G : Gh} {x : Value} (h : Den (txN t n) G (.ostr 0 30000) x) : x = .string ⟨t.toArray⟩ := by
  simp only [Den] at h
  obtain ⟨l, _, h1, rfl⟩ := h
  exact h1.symm
theorem filesNew_fs (t n : List UInt8) {w : World} (hw : 6 ≤ w.heap.size) : Calls Tryz.prog 8 #[.int .i64 1048576] w fun e w' => ∃ p, e = .returned (.tuple #[.pointer (some p), .int .i64 0]) ∧ Fs t n fsH1 w' p (fun r => w.heap.size ≤ r ∧ r < w'.heap.size) ∧ Below w.heap.size w w' := by
  refine (runTop_calls no_count mixed hooksF_ok (by intro p hp; cases hp) (isV_ok fs1) (txN t n) (vars 6) _ w (vars_rep hw) (vars_glob (by kernel_rfl)) (DenL.one (by simp [Den]))).mono fun e' w' ⟨x, he, G', q1, q2, q3⟩ => ?_
  simp only [Den, DenL] at q1
  obtain ⟨arr, rfl, x0, l0, e0, ⟨g, hg, rfl⟩, x1, l1, rfl, rfl, rfl⟩ := q1
  have ea : arr = #[.pointer (some ⟨g.addr, g.off + 0, none⟩), .int .i64 0] := by
    obtain ⟨l⟩ := arr
    simp at e0
    rw [e0]
    rfl
  subst ea
  refine ⟨_, he, ⟨G', q2, (vars_glob (by kernel_rfl)).mono q3.le, by simp only [Den]; exact ⟨g, hg, rfl⟩, fun r hr => ?_⟩, q3.below (vars_ro _)⟩
  rcases Nat.lt_or_ge r w.heap.size with hlt | hge
  · obtain ⟨b, y, _, h1, _⟩ := q3.kn r hlt hr
    rw [h0_get] at h1
    cases h1
  · exact ⟨hge, q2.kn_lt hr⟩
section
variable {t n : List UInt8} {w : World} {p : Addr} {F : Nat → Prop}
theorem savesWrite_fs (h : Fs t n fsH1 w p F) (ht : t.length ≤ 30000) (h1 : n ≠ []) (h2 : n ≠ [126]) (h3 : n.length ≤ 16) : Calls Tryz.prog 10 #[.pointer (some p), .string ⟨n.toArray⟩, .string ⟨t.toArray⟩] w fun e w' =>
    e = .returned (.int .i64 0) ∧ Fs t n fsH2 w' p (fun r => F r ∨ (w.heap.size ≤ r ∧ r < w'.heap.size)) ∧ KeepT F w w' := by
  refine (FsAt.call no_count mixed hooksF_ok (by intro p hp; cases hp) (isV_ok fs2) h fun G hG => .cons hG (.cons (den_nm h1 h2 h3) (.one (den_tx ht)))).mono fun e w' ⟨y, he, ⟨G', q1⟩, q2, q3⟩ => ?_
  simp only [Den] at q1
  subst q1
  exact ⟨he, q2, q3⟩
theorem load_den {G : Gh} {y : Value} (q1 : Den (txN t n) G (.tup [.ostr 0 30000, .int .i64 0]) y) : y = .tuple #[.string ⟨t.toArray⟩, .int .i64 0] := by
  unfold Den at q1
  obtain ⟨arr, rfl, q2⟩ := q1
  unfold DenL at q2
  obtain ⟨x0, l0, e0, q3, q4⟩ := q2
  cases den_tx0 q3
  simp only [DenL, Den] at q4
  obtain ⟨x1, l1, rfl, rfl, rfl⟩ := q4
  obtain ⟨l⟩ := arr
  simp only at e0
  rw [e0]
theorem savesLoad3_fs (h : Fs t n fsH2 w p F) (h1 : n ≠ []) (h2 : n ≠ [126]) (h3 : n.length ≤ 16) : Calls Tryz.prog 16 #[.pointer (some p), .string ⟨n.toArray⟩] w fun e w' =>
    e = .returned (.tuple #[.string ⟨t.toArray⟩, .int .i64 0]) ∧ Fs t n fsH3 w' p (fun r => F r ∨ (w.heap.size ≤ r ∧ r < w'.heap.size)) ∧ KeepT F w w' := by
  refine (FsAt.call no_count mixed hooksF_ok (by intro p hp; cases hp) (isV_ok fs3) h fun G hG => .cons hG (.one (den_nm h1 h2 h3))).mono fun e w' ⟨y, he, ⟨G', q1⟩, q2, q3⟩ => ?_
  cases load_den q1
  exact ⟨he, q2, q3⟩
theorem savesLoad4_fs (h : Fs t n fsH3 w p F) (h1 : n ≠ []) (h2 : n ≠ [126]) (h3 : n.length ≤ 16) : Calls Tryz.prog 16 #[.pointer (some p), .string ⟨n.toArray⟩] w fun e w' =>
    e = .returned (.tuple #[.string ⟨t.toArray⟩, .int .i64 0]) ∧ Fs t n fsH4 w' p (fun r => F r ∨ (w.heap.size ≤ r ∧ r < w'.heap.size)) ∧ KeepT F w w' := by
  refine (FsAt.call no_count mixed hooksF_ok (by intro p hp; cases hp) (isV_ok fs4) h fun G hG => .cons hG (.one (den_nm h1 h2 h3))).mono fun e w' ⟨y, he, ⟨G', q1⟩, q2, q3⟩ => ?_
  cases load_den q1
  exact ⟨he, q2, q3⟩
theorem names_fs (h : Fs t n fsH1 w p F) : Calls Tryz.prog 23 #[.pointer (some p)] w fun e w' => e = .returned (.slice none 0 0) ∧ KeepT F w w' := by
  refine (FsAt.call no_count mixed hooksF_ok (by intro p hp; cases hp) (isV_ok fs5) h fun G hG => .one hG).mono fun e w' ⟨y, he, ⟨G', q1⟩, q2, q3⟩ => ?_
  simp only [Den] at q1
  subst q1
  exact ⟨he, q3⟩
end
end Go.Proofs.YtlcjjcmfpmflcaaGreatDoor
