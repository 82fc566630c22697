/- ed.New: of nothing, and at any name (chapter 25). -/
import Derived.Test.YthabjdjbcfkjhaaGreatDoorEn2
set_option linter.unusedVariables false
set_option linter.unusedSimpArgs false
namespace Go.Proofs.YthabjdjbcfkjhaaGreatDoor
open Go Go.Proofs Go.Ev Go.RowKit Go.Ink

theorem CoreAt.later {w w' : World} {a q : Nat} (h : CoreAt w a q) (hb : Below w.heap.size w w') : CoreAt w' a q := by
  obtain ⟨x, y, h1, h2⟩ := h
  exact ⟨x, y, (hb.cell (p := ⟨a, q, none⟩) (lt_of_cell h1)).trans h1, (hb.cell (p := ⟨a, q + 29, none⟩) (lt_of_cell h2)).trans h2⟩
theorem coreNone_nil (w : World) : Calls Tryz.prog 35 #[.pointer none] w fun e w' => e = .returned (.bool true) ∧ w' = w := by
  go_enter Tryz.func35, Tryz.ntmps35
  go_wp2_with fail
  go_returns
  exact ⟨rfl, rfl⟩
theorem coreNone_at {w : World} {a q : Nat} (h : CoreAt w a q) : Calls Tryz.prog 35 #[.pointer (some ⟨a, q, none⟩)] w fun e w' => e = .returned (.bool false) ∧ w' = w := by
  obtain ⟨x, y, h1, h2⟩ := h
  go_enter Tryz.func35, Tryz.ntmps35
  go_wp2_with fail
  go_returns
  exact ⟨rfl, rfl⟩
theorem regs_nil (w : World) : Calls Tryz.prog 24 #[.pointer none] w fun e w' => e = .returned (.pointer none) ∧ w' = w := by
  go_enter Tryz.func24, Tryz.ntmps24
  go_wp2_with fail
  refine (coreNone_nil _).mono ?_
  rintro e w1 ⟨rfl, rfl⟩
  go_wp2_with fail
  go_returns
  exact ⟨rfl, rfl⟩
theorem regs_at {w : World} {a q : Nat} (h : CoreAt w a q) : Calls Tryz.prog 24 #[.pointer (some ⟨a, q, none⟩)] w fun e w' => ∃ y, e = .returned (.pointer (some y)) ∧ w' = w := by
  have HC := Lib.hid (coreNone_at h)
  obtain ⟨x, y, h1, h2⟩ := h
  go_enter Tryz.func24, Tryz.ntmps24
  go_wp2_with fail
  refine HC.out.mono ?_
  rintro e w1 ⟨rfl, rfl⟩
  go_wp2_with fail
  go_returns
  exact ⟨y, rfl, rfl⟩
theorem edNew_noC (f : Value) (s : ByteArray) (l : Bool) (w : World) : Calls Tryz.prog 16 #[.pointer none, f, .string s, .bool l] w fun e w' => e = .returned (.tuple #[.pointer none, .int .i64 1]) ∧ w' = w := by
  go_enter Tryz.func16, Tryz.ntmps16
  go_wp2_with fail
  refine (regs_nil _).mono ?_
  rintro e w1 ⟨rfl, rfl⟩
  go_wp2_with fail
  go_returns
  exact ⟨rfl, rfl⟩
theorem edNew_noF {a q : Nat} (s : ByteArray) (l : Bool) {w : World} (h : CoreAt w a q) : Calls Tryz.prog 16 #[.pointer (some ⟨a, q, none⟩), .pointer none, .string s, .bool l] w fun e w' => e = .returned (.tuple #[.pointer none, .int .i64 1]) ∧ w' = w := by
  have HR := Lib.hid (regs_at h)
  go_enter Tryz.func16, Tryz.ntmps16
  go_wp2_with fail
  refine HR.out.mono ?_
  rintro e w1 ⟨y, rfl, rfl⟩
  go_wp2_with fail
  go_returns
  exact ⟨rfl, rfl⟩
/-- Is the name refused? -/
def refB (s : List UInt8) : Bool := !(s == []) && !(nameB s)
theorem edNew_any {a q : Nat} {f : Addr} (s : List UInt8) (hs : s.length ≤ 100) (l : Bool) {w : World} (h : CoreAt w a q) : Calls Tryz.prog 16 #[.pointer (some ⟨a, q, none⟩), .pointer (some f), .string ⟨s.toArray⟩, .bool l] w fun e w' => (e = if refB s then .returned (.tuple #[.pointer none, .int .i64 240]) else .returned (.tuple #[.pointer (some ⟨w.heap.size, 0, none⟩), .int .i64 0])) ∧ Below w.heap.size w w' := by
  have HR := Lib.hid (regs_at h)
  have HN := Lib.hid (name_any s w hs)
  clear h
  by_cases h0 : s = []
  · subst h0
    rw [show refB [] = false from rfl]
    go_enter Tryz.func16, Tryz.ntmps16
    go_wp2_with fail
    refine HR.out.mono ?_
    rintro e w1 ⟨y, rfl, rfl⟩
    go_wp2_with fail
    go_returns
    exact ⟨rfl, (Below.refl _ _).alloc (Nat.le_refl _) _⟩
  · have h0b : (s == []) = false := by simpa using h0
    have hr : refB s = !(nameB s) := by unfold refB; rw [h0b]; rfl
    rw [hr]
    clear hr h0
    generalize nameB s = r at *
    cases r
    · go_enter Tryz.func16, Tryz.ntmps16
      go_wp2_with fail
      refine HR.out.mono ?_
      rintro e w1 ⟨y, rfl, rfl⟩
      go_wp2_with fail
      refine HN.out.mono ?_
      rintro e w2 ⟨rfl, rfl⟩
      go_wp2_with fail
      go_returns
      exact ⟨rfl, Below.refl _ _⟩
    · go_enter Tryz.func16, Tryz.ntmps16
      go_wp2_with fail
      refine HR.out.mono ?_
      rintro e w1 ⟨y, rfl, rfl⟩
      go_wp2_with fail
      refine HN.out.mono ?_
      rintro e w2 ⟨rfl, rfl⟩
      go_wp2_with fail
      go_returns
      exact ⟨rfl, (Below.refl _ _).alloc (Nat.le_refl _) _⟩
end Go.Proofs.YthabjdjbcfkjhaaGreatDoor
