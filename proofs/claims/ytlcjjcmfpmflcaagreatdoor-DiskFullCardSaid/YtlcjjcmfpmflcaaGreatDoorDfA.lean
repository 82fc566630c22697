/- The file system of DiskFull (chapter 24): of a room that is not known, at texts that are not known; run by the kernel in the four cases. -/
import Derived.Test.YtlcjjcmfpmflcaaGreatDoorVsR
import Derived.Test.YtlcjjcmfpmflcaaGreatDoorFsA
import Derived.Test.YtlcjjcmfpmflcaaGreatDoorDkZ
set_option linter.unusedVariables false
set_option linter.unusedSimpArgs false
namespace Go.Proofs.YtlcjjcmfpmflcaaGreatDoor
open Go Go.Proofs Go.Ev Go.RowKit Go.Ink

noncomputable def hooksG : List (Nat × Hook) := [(162, hCmpO), (133, hSame)]
theorem hooksG_ok : ∀ p ∈ hooksG, CallOk1 Tryz.prog p.1 p.2 := by
  intro p hp
  simp only [hooksG, List.mem_cons, List.not_mem_nil, or_false] at hp
  rcases hp with rfl | rfl
  · exact cmpO_ok ext_cmp
  · exact same_ok ext_same
/-- What is known of the room: a: the old text fits; b: the new one does not. -/
def tbG (a b : Bool) : List (Nat × List Nat × Bool) := cond a [(0, [], false), (2, [0], b)] [(0, [], true), (2, [], b)]
noncomputable def flR1 (a b : Bool) : R (V × Ev.H) := runTop Tryz.prog hooksG [] 3000 60 8 [.olm (tbG a b) []] (h0 6)
noncomputable def flH1 (a b : Bool) : Ev.H := hOf (flR1 a b)
noncomputable def flR2 (a b : Bool) : R (V × Ev.H) := runTop Tryz.prog hooksG [] 3000 60 10 [.ptr 6 0, .str 1 102, .ostr 0 100] (flH1 a b)
noncomputable def flH2 (a b : Bool) : Ev.H := hOf (flR2 a b)
noncomputable def flR3 (a b : Bool) : R (V × Ev.H) := runTop Tryz.prog hooksG [] 3000 60 10 [.ptr 6 0, .str 1 102, .ostr 2 200] (flH2 a b)
noncomputable def flH3 (a b : Bool) : Ev.H := hOf (flR3 a b)
noncomputable def flR4 (a b : Bool) : R (V × Ev.H) := runTop Tryz.prog hooksG [] 3000 60 16 [.ptr 6 0, .str 1 102] (flH3 a b)
noncomputable def flH4 (a b : Bool) : Ev.H := hOf (flR4 a b)
/-- What is read at the end. -/
def flV (a b : Bool) : V := cond b (cond a (.tup [.ostr 0 100, .int .i64 0]) (.tup [.str 0 0, .int .i64 4])) (.tup [.ostr 2 200, .int .i64 0])
noncomputable def flAll (a b : Bool) : Bool := isV (.tup [.ptr 6 0, .int .i64 0]) (flR1 a b) && isV (.int .i64 (cond a 0 50)) (flR2 a b) && isV (.int .i64 (cond b 50 0)) (flR3 a b) && isV (flV a b) (flR4 a b)
set_option maxRecDepth 100000
theorem fl_tt : flAll true true = true := by decide +kernel
theorem fl_tf : flAll true false = true := by decide +kernel
theorem fl_ft : flAll false true = true := by decide +kernel
theorem fl_ff : flAll false false = true := by decide +kernel
theorem fl_all (a b : Bool) : flAll a b = true := by
  cases a <;> cases b
  · exact fl_ff
  · exact fl_ft
  · exact fl_tf
  · exact fl_tt
/-- What is not known: the old text, the new one. -/
noncomputable def txG (old new : List UInt8) : Nat → Value
  | 0 => .string ⟨old.toArray⟩
  | 2 => .string ⟨new.toArray⟩
  | _ => undef
/-- The file system at a place, in one of these states. -/
def FsG (old new : List UInt8) (H : Ev.H) (w : World) (p : Addr) (F : Nat → Prop) : Prop := FsAt Tryz.prog (txG old new) H w (.ptr 6 0) (.pointer (some p)) F
/-- The cases. -/
def fitA (old : List UInt8) (C : Nat) : Bool := decide (old.length ≤ C)
def fullB (old new : List UInt8) (C : Nat) : Bool := decide ((C : Int) - (if old.length ≤ C then (old.length : Int) else 0) < (new.length : Int))
theorem den_lim {old new : List UInt8} {G : Gh} {C : Nat} (h1 : 1 ≤ C) (h2 : C ≤ 65535) : Den (txG old new) G (.olm (tbG (fitA old C) (fullB old new C)) []) (.int .i64 (C : Int)) := by
  have e0 : lenOf (txG old new) 0 = (old.length : Int) := by simp [lenOf, txG, ByteArray.size]
  have e2 : lenOf (txG old new) 2 = (new.length : Int) := by simp [lenOf, txG, ByteArray.size]
  simp only [Den, OlmOk]
  refine ⟨C, ⟨h1, h2, ?_, by simp [sumLen], by simp [sumLen], by simp⟩, by simp [sumLen]⟩
  intro e he
  unfold tbG fitA at he
  by_cases hA : old.length ≤ C
  · rw [decide_eq_true hA] at he
    simp only [cond_true, List.mem_cons, List.not_mem_nil, or_false] at he
    rcases he with rfl | rfl
    · simp only [sumLen, e0]
      rw [decide_eq_false (by omega)]
    · simp only [sumLen, e0, e2, fullB, if_pos hA, Int.add_zero]
  · rw [decide_eq_false hA] at he
    simp only [cond_false, List.mem_cons, List.not_mem_nil, or_false] at he
    rcases he with rfl | rfl
    · simp only [sumLen, e0]
      rw [decide_eq_true (by omega)]
    · simp only [sumLen, e2, fullB, if_neg hA]
theorem den_old {old new : List UInt8} {G : Gh} (h : old.length ≤ 100) : Den (txG old new) G (.ostr 0 100) (.string ⟨old.toArray⟩) := by
  simp only [Den]
  exact ⟨old, ⟨h, fun h => by simp at h⟩, rfl, rfl⟩
theorem den_new {old new : List UInt8} {G : Gh} (h : new.length ≤ 200) : Den (txG old new) G (.ostr 2 200) (.string ⟨new.toArray⟩) := by
  simp only [Den]
  exact ⟨new, ⟨h, fun h => by simp at h⟩, rfl, rfl⟩
theorem den_f {ξ : Nat → Value} {G : Gh} : Den ξ G (.str 1 102) (.string ⟨#[102]⟩) := by
  simp only [Den]
  exact ⟨by decide, rfl⟩
section
variable {old new : List UInt8} {a b : Bool} {w : World} {p : Addr} {F : Nat → Prop}
theorem flRuns (a b : Bool) : flR1 a b = .ok (.tup [.ptr 6 0, .int .i64 0], flH1 a b) ∧ flR2 a b = .ok (.int .i64 (cond a 0 50), flH2 a b) ∧ flR3 a b = .ok (.int .i64 (cond b 50 0), flH3 a b) ∧ flR4 a b = .ok (flV a b, flH4 a b) := by
  have h := fl_all a b
  unfold flAll at h
  simp only [Bool.and_eq_true] at h
  exact ⟨isV_ok h.1.1.1, isV_ok h.1.1.2, isV_ok h.1.2, isV_ok h.2⟩
theorem filesNew_fl (old new : List UInt8) (C : Nat) (h1 : 1 ≤ C) (h2 : C ≤ 65535) {w : World} (hw : 6 ≤ w.heap.size) : Calls Tryz.prog 8 #[.int .i64 (C : Int)] w fun e w' => ∃ p, e = .returned (.tuple #[.pointer (some p), .int .i64 0]) ∧ FsG old new (flH1 (fitA old C) (fullB old new C)) w' p (fun r => w.heap.size ≤ r ∧ r < w'.heap.size) ∧ Below w.heap.size w w' := by
  refine (runTop_calls no_count mixed hooksG_ok (by intro p hp; cases hp) (flRuns (fitA old C) (fullB old new C)).1 (txG old new) (vars 6) _ w (vars_rep hw) (vars_glob (by kernel_rfl)) (DenL.one (den_lim h1 h2))).mono fun e' w' ⟨x, he, G', q1, q2, q3⟩ => ?_
  simp only [Den, DenL] at q1
  obtain ⟨arr, rfl, x0, l0, e0, ⟨g, hg, rfl⟩, x1, l1, rfl, rfl, rfl⟩ := q1
  have ea : arr = #[.pointer (some ⟨g.addr, g.off + 0, none⟩), .int .i64 0] := by
    obtain ⟨l⟩ := arr
    simp at e0
    rw [e0]
    rfl
  subst ea
  refine ⟨_, he, ⟨G', q2, (vars_glob (by kernel_rfl)).mono q3.le, by simp only [Den]; exact ⟨g, hg, rfl⟩, fun r hr => ?_⟩, q3.below (vars_ro _)⟩
  rcases Nat.lt_or_ge r w.heap.size with hlt | hge
  · obtain ⟨b, y, _, h1, _⟩ := q3.kn r hlt hr
    rw [h0_get] at h1
    cases h1
  · exact ⟨hge, q2.kn_lt hr⟩
theorem savesWrite1_fl (h : FsG old new (flH1 a b) w p F) (ho : old.length ≤ 100) : Calls Tryz.prog 10 #[.pointer (some p), .string ⟨#[102]⟩, .string ⟨old.toArray⟩] w fun e w' =>
    e = .returned (.int .i64 (cond a 0 50)) ∧ FsG old new (flH2 a b) w' p (fun r => F r ∨ (w.heap.size ≤ r ∧ r < w'.heap.size)) ∧ KeepT F w w' := by
  refine (FsAt.call no_count mixed hooksG_ok (by intro p hp; cases hp) (flRuns a b).2.1 h fun G hG => .cons hG (.cons den_f (.one (den_old ho)))).mono fun e w' ⟨y, he, ⟨G', q1⟩, q2, q3⟩ => ?_
  simp only [Den] at q1
  subst q1
  exact ⟨he, q2, q3⟩
theorem savesWrite2_fl (h : FsG old new (flH2 a b) w p F) (hn : new.length ≤ 200) : Calls Tryz.prog 10 #[.pointer (some p), .string ⟨#[102]⟩, .string ⟨new.toArray⟩] w fun e w' =>
    e = .returned (.int .i64 (cond b 50 0)) ∧ FsG old new (flH3 a b) w' p (fun r => F r ∨ (w.heap.size ≤ r ∧ r < w'.heap.size)) ∧ KeepT F w w' := by
  refine (FsAt.call no_count mixed hooksG_ok (by intro p hp; cases hp) (flRuns a b).2.2.1 h fun G hG => .cons hG (.cons den_f (.one (den_new hn)))).mono fun e w' ⟨y, he, ⟨G', q1⟩, q2, q3⟩ => ?_
  simp only [Den] at q1
  subst q1
  exact ⟨he, q2, q3⟩
/-- What is read at the end, as a value. -/
def flX (old new : List UInt8) (a b : Bool) : Value := .tuple (cond b (cond a #[.string ⟨old.toArray⟩, .int .i64 0] #[.string ⟨#[]⟩, .int .i64 4]) #[.string ⟨new.toArray⟩, .int .i64 0])
theorem flV_den {G : Gh} {y : Value} (h : Den (txG old new) G (flV a b) y) : y = flX old new a b := by
  have two : ∀ {v : V} {n : Int} {x0 : Value}, (∀ z, Den (txG old new) G v z → z = x0) → Den (txG old new) G (.tup [v, .int .i64 n]) y → y = .tuple #[x0, .int .i64 n] := by
    intro v n x0 hv h
    unfold Den at h
    obtain ⟨arr, rfl, q2⟩ := h
    unfold DenL at q2
    obtain ⟨z0, l0, e0, q3, q4⟩ := q2
    cases hv z0 q3
    simp only [DenL, Den] at q4
    obtain ⟨x1, l1, rfl, rfl, rfl⟩ := q4
    obtain ⟨l⟩ := arr
    simp only at e0
    rw [e0]
  cases a <;> cases b
  · exact two (fun z hz => by simp only [Den] at hz; obtain ⟨l, _, h1, rfl⟩ := hz; exact h1.symm) h
  · exact two (fun z hz => by simp only [Den] at hz; exact hz.2) h
  · exact two (fun z hz => by simp only [Den] at hz; obtain ⟨l, _, h1, rfl⟩ := hz; exact h1.symm) h
  · exact two (fun z hz => by simp only [Den] at hz; obtain ⟨l, _, h1, rfl⟩ := hz; exact h1.symm) h
theorem savesLoad_fl (h : FsG old new (flH3 a b) w p F) : Calls Tryz.prog 16 #[.pointer (some p), .string ⟨#[102]⟩] w fun e w' => e = .returned (flX old new a b) ∧ KeepT F w w' := by
  refine (FsAt.call no_count mixed hooksG_ok (by intro p hp; cases hp) (flRuns a b).2.2.2 h fun G hG => .cons hG (.one den_f)).mono fun e w' ⟨y, he, ⟨G', q1⟩, _, q3⟩ => ?_
  cases flV_den q1
  exact ⟨he, q3⟩
end
end Go.Proofs.YtlcjjcmfpmflcaaGreatDoor
