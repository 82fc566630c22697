/- A journal that is none; a file system that is none, or down (chapter 18). -/
import Derived.Test.YtofllhipjaphfaaGreatDoorLg2
import Derived.Test.YtofllhipjaphfaaGreatDoorFrmF
import Derived.Test.YtofllhipjaphfaaGreatDoorNumsL
namespace Go.Proofs.YtofllhipjaphfaaGreatDoor
open Go Go.Proofs Go.RowKit Go.Ink

/-- A file system that takes nothing: none (1), or down (51). -/
def FsNo (w : World) (v : Value) (n : Int) : Prop := (v = .pointer none ∧ n = 1) ∨ ∃ g, v = .pointer (some ⟨g, 0, none⟩) ∧ n = 51 ∧ w.cell? ⟨g, 0, none⟩ = some (.int .i64 1000) ∧ w.cell? ⟨g, 2, none⟩ = some (.bool true)
theorem FsNo.later {w w' : World} {v : Value} {n : Int} (h : FsNo w v n) (hb : Below w.heap.size w w') : FsNo w' v n := by
  rcases h with h | ⟨g, h1, h2, h3, h4⟩
  · exact .inl h
  · exact .inr ⟨g, h1, h2, (hb.cell (p := ⟨g, 0, none⟩) (lt_of_cell h3)).trans h3, (hb.cell (p := ⟨g, 2, none⟩) (lt_of_cell h4)).trans h4⟩
theorem FsNo.n0 {w : World} {v : Value} {n : Int} (h : FsNo w v n) : (n == 0) = false ∧ (n == 4) = false := by
  rcases h with ⟨_, rfl⟩ | ⟨g, _, rfl, _⟩ <;> exact ⟨by decide, by decide⟩
theorem fsOn_any {v : Value} {n : Int} {w : World} (h : FsNo w v n) : Calls Tryz.prog 28 #[v] w fun e w' => e = .returned (.int .i64 n) ∧ w' = w := by
  rcases h with ⟨rfl, rfl⟩ | ⟨g, rfl, rfl, h0, h2⟩
  · go_enter Tryz.func28, Tryz.ntmps28
    go_wp2_with fail
    go_returns
    exact ⟨rfl, rfl⟩
  · go_enter Tryz.func28, Tryz.ntmps28
    go_wp2_with fail
    go_returns
    exact ⟨rfl, rfl⟩
theorem fsHas_any {v : Value} {n : Int} {w : World} (s : ByteArray) (h : FsNo w v n) : Calls Tryz.prog 47 #[v, .string s] w fun e w' => e = .returned (.tuple #[.pointer none, .int .i64 n]) ∧ w' = w := by
  have HO := Lib.hid (fsOn_any h)
  have hn := h.n0.1
  clear h
  go_enter Tryz.func47, Tryz.ntmps47
  go_wp2_with fail
  refine HO.out.mono ?_
  rintro e w1 ⟨rfl, rfl⟩
  go_wp2_with fail
  go_returns
  exact ⟨rfl, rfl⟩
theorem fsRemove_any {v : Value} {n : Int} {w : World} (s : ByteArray) (h : FsNo w v n) : Calls Tryz.prog 27 #[v, .string s] w fun e w' => e = .returned (.int .i64 n) ∧ Below w.heap.size w w' := by
  have hb := ((Below.refl w.heap.size w).alloc (Nat.le_refl _) (.cells #[v] 32)).alloc (by simp) (.cells #[.string s] 9)
  have HO := Lib.hid (fsHas_any s (h.later hb))
  have HB := Lib.hid hb
  have hn := h.n0.1
  have HV := Lib.hid h
  obtain ⟨a, rfl⟩ : ∃ a, v = .pointer a := by
    rcases h with ⟨rfl, _⟩ | ⟨g, rfl, _⟩ <;> exact ⟨_, rfl⟩
  clear h hb
  go_enter Tryz.func27, Tryz.ntmps27
  go_wp2_with fail
  refine HO.out.mono ?_
  rintro e w1 ⟨rfl, rfl⟩
  go_wp2_with fail
  go_returns
  exact ⟨rfl, HB.out⟩
theorem fsRead_any {v : Value} {n : Int} {w : World} (s : ByteArray) (h : FsNo w v n) : Calls Tryz.prog 29 #[v, .string s] w fun e w' => e = .returned (.tuple #[.string ⟨#[]⟩, .int .i64 n]) ∧ w' = w := by
  have HO := Lib.hid (fsHas_any s h)
  have hn := h.n0.1
  clear h
  go_enter Tryz.func29, Tryz.ntmps29
  go_wp2_with fail
  refine HO.out.mono ?_
  rintro e w1 ⟨rfl, rfl⟩
  go_wp2_with fail
  go_returns
  exact ⟨rfl, rfl⟩
theorem recover_no {v : Value} {n : Int} {w : World} (h : FsNo w v n) : Calls Tryz.prog 13 #[v] w fun e w' => e = .returned (.tuple #[.slice none 0 0, .int .i64 0, .int .i64 n]) ∧ w' = w := by
  have HO := Lib.hid (fun s => fsRead_any s h)
  have hn := h.n0.1
  clear h
  go_enter Tryz.func13, Tryz.ntmps13
  go_wp2_with fail
  refine (HO.out _).mono ?_
  rintro e w1 ⟨rfl, rfl⟩
  go_wp2_with fail
  go_returns
  exact ⟨rfl, rfl⟩
theorem lay_no {v : Value} {n : Int} {w : World} (t : ByteArray) (h : FsNo w v n) : Calls Tryz.prog 25 #[v, .string t] w fun e w' => (∃ s, e = .returned (.iface 131 (.agg #[s, .int .i64 n]))) ∧ Below w.heap.size w w' := by
  have HO := Lib.hid (fun s => fsRemove_any s h)
  have hn := h.n0.1
  have h4 : decide (n = 4) = false := by simpa using h.n0.2
  have HF := Lib.hid (fun s w => failed_any s n (by simpa using hn) w)
  clear h hn
  have HI := Lib.hid (fun s w => by have := isActed_any s n 4 w; rw [h4] at this; exact this)
  clear h4
  go_enter Tryz.func25, Tryz.ntmps25
  go_wp2_with fail
  refine (HO.out _).mono ?_
  rintro e w1 ⟨rfl, hb1⟩
  have HB1 := Lib.hid hb1
  clear hb1
  go_wp2_with fail
  refine (HF.out _ _).mono ?_
  rintro e w2 ⟨rfl, hb2⟩
  have HB2 := Lib.hid (step2 HB1.out hb2)
  clear hb2
  go_wp2_with fail
  refine (HI.out _ _).mono ?_
  rintro e w3 ⟨rfl, hb3⟩
  have HB3 := Lib.hid (step2 HB2.out hb3)
  clear hb3
  go_wp2_with fail
  go_returns
  exact ⟨⟨_, rfl⟩, HB3.out⟩
theorem stop_no {v : Value} {n : Int} {w : World} (h : FsNo w v n) : Calls Tryz.prog 11 #[v] w fun e w' => e = .returned (.int .i64 n) ∧ Below w.heap.size w w' := by
  have hb := ((Below.refl w.heap.size w).alloc (Nat.le_refl _) (.cells #[.string ⟨#[108, 111, 103, 43]⟩, .string ⟨#[108, 111, 103]⟩] 9))
  have HO := Lib.hid (fun s => fsRemove_any s (h.later hb))
  have HB := Lib.hid hb
  have hn : n = 1 ∨ n = 51 := by
    rcases h with ⟨_, h⟩ | ⟨g, _, h, _⟩
    · exact .inl h
    · exact .inr h
  clear h hb
  rcases hn with rfl | rfl
  · go_enter Tryz.func11, Tryz.ntmps11
    go_wp2_with fail
    refine wp_loop_rounds 1 ?_
    rw [rounds_succ]
    go_wp2_with fail
    refine (HO.out _).mono ?_
    rintro e w1 ⟨rfl, hb1⟩
    have HB1 := Lib.hid (step2 HB.out hb1)
    clear hb1
    go_wp2_with fail
    go_returns
    exact ⟨rfl, HB1.out⟩
  · go_enter Tryz.func11, Tryz.ntmps11
    go_wp2_with fail
    refine wp_loop_rounds 1 ?_
    rw [rounds_succ]
    go_wp2_with fail
    refine (HO.out _).mono ?_
    rintro e w1 ⟨rfl, hb1⟩
    have HB1 := Lib.hid (step2 HB.out hb1)
    clear hb1
    go_wp2_with fail
    go_returns
    exact ⟨rfl, HB1.out⟩
theorem start_no {v : Value} {n : Int} {w : World} (h : FsNo w v n) (l : List (List UInt8)) (ao : Option Addr) (cap : Nat) (hl : SlOf IsStr w ao cap l) (hsz : (putL l).length ≤ 4000000) (he : EnvF w) :
    Calls Tryz.prog 9 #[v, .slice ao l.length cap] w fun e w' => e = .returned (.tuple #[.pointer none, .int .i64 n]) ∧ Below w.heap.size w w' := by
  have HP := Lib.hid (putList_any l ao cap w hl (by omega) (tabOf he))
  have HE := Lib.hid he
  have HN := Lib.hid h
  have hn := h.n0.1
  clear h hl he
  generalize putL l = p at *
  have hc : ¬ 9223372036854775807 < 1 + p.length := by omega
  have HF := Lib.hid (fun w he => frame_any (98 :: p) w (by simp; omega) he)
  clear hsz
  go_enter Tryz.func9, Tryz.ntmps9
  go_wp2_with fail
  refine HP.out.mono ?_
  rintro e w1 ⟨rfl, hb1⟩
  have HB1 := Lib.hid hb1
  clear hb1
  have hap : (⟨#[98]⟩ : ByteArray) ++ ⟨p.toArray⟩ = ⟨(98 :: p).toArray⟩ := by apply ByteArray.ext; simp
  go_wp2_with fail
  refine (HF.out _ (HE.out.later HB1.out)).mono ?_
  rintro e w2 ⟨rfl, hb2⟩
  have HB2 := Lib.hid (step2 HB1.out hb2)
  clear hb2
  generalize (⟨(frameB (98 :: p)).toArray⟩ : ByteArray) = t at *
  go_wp2_with fail
  refine (lay_no t (HN.out.later HB2.out)).mono ?_
  rintro e w3 ⟨⟨s, rfl⟩, hb3⟩
  have HB3 := Lib.hid (step2 HB2.out hb3)
  clear hb3
  go_wp2_with fail
  refine (errno_acted s n _ (HE.out.later HB3.out).t).mono ?_
  rintro e w4 ⟨rfl, hb4⟩
  have HB4 := Lib.hid (step2 HB3.out hb4)
  clear hb4
  go_wp2_with fail
  go_returns
  exact ⟨rfl, HB4.out⟩
/-! ### a journal that is none -/
def NoLog (w : World) (v : Value) : Prop := v = .pointer none ∨ ∃ g, v = .pointer (some ⟨g, 0, none⟩) ∧ w.cell? ⟨g, 0, none⟩ = some (.pointer none)
theorem logAsk_any {v : Value} {w : World} (h : NoLog w v) : Calls Tryz.prog 17 #[v] w fun e w' => e = .returned (.int .i64 1) ∧ w' = w := by
  rcases h with rfl | ⟨g, rfl, hc⟩
  · go_enter Tryz.func17, Tryz.ntmps17
    go_wp2_with fail
    go_returns
    exact ⟨rfl, rfl⟩
  · go_enter Tryz.func17, Tryz.ntmps17
    go_wp2_with fail
    go_returns
    exact ⟨rfl, rfl⟩
theorem logAdd_any {v : Value} {w : World} (h : NoLog w v) (x : Value) : Calls Tryz.prog 7 #[v, x] w fun e w' => e = .returned (.int .i64 1) ∧ w' = w := by
  have HO := Lib.hid (logAsk_any h)
  clear h
  go_enter Tryz.func7, Tryz.ntmps7
  go_wp2_with fail
  refine HO.out.mono ?_
  rintro e w1 ⟨rfl, rfl⟩
  go_wp2_with fail
  go_returns
  exact ⟨rfl, rfl⟩
theorem logSync_any {v : Value} {w : World} (h : NoLog w v) : Calls Tryz.prog 8 #[v] w fun e w' => e = .returned (.int .i64 1) ∧ w' = w := by
  have HO := Lib.hid (logAsk_any h)
  clear h
  go_enter Tryz.func8, Tryz.ntmps8
  go_wp2_with fail
  refine HO.out.mono ?_
  rintro e w1 ⟨rfl, rfl⟩
  go_wp2_with fail
  go_returns
  exact ⟨rfl, rfl⟩
/-! ### a file system, new, and down -/
def FsUp (w : World) (g : Nat) : Prop := w.heap[g]? = some (.cells #[.int .i64 1000, .int .i64 0, .bool false, .slice none 0 0, .int .i64 (-1), .slice none 0 0] 63 (0, 0))
theorem fsNew_any (w : World) : Calls Tryz.prog 10 #[.int .i64 1000] w fun e w' => e = .returned (.tuple #[.pointer (some ⟨w.heap.size, 0, none⟩), .int .i64 0]) ∧ FsUp w' w.heap.size ∧ Below w.heap.size w w' := by
  go_enter Tryz.func10, Tryz.ntmps10
  go_wp2_with fail
  go_returns
  exact ⟨rfl, heap_alloc_new _ _, (Below.refl _ _).alloc (Nat.le_refl _) _⟩
theorem fsOn_up {g : Nat} {w : World} (h : FsUp w g) : Calls Tryz.prog 28 #[.pointer (some ⟨g, 0, none⟩)] w fun e w' => e = .returned (.int .i64 0) ∧ w' = w := by
  have hc := Lib.cell_of_heap h
  have h0 := hc 0; have h2 := hc 2
  simp at h0 h2
  clear hc h
  go_enter Tryz.func28, Tryz.ntmps28
  go_wp2_with fail
  go_returns
  exact ⟨rfl, rfl⟩
theorem fsCrash_any {g B : Nat} {w : World} (h : FsUp w g) (hB : B ≤ g) : Calls Tryz.prog 12 #[.pointer (some ⟨g, 0, none⟩), .slice none 0 0] w fun e w' => e = .returned (.int .i64 0) ∧ FsNo w' (.pointer (some ⟨g, 0, none⟩)) 51 ∧ Below B w w' := by
  have HO := Lib.hid (fsOn_up h)
  have h1 := heap_set (j := 2) h (.bool true)
  have h2 := heap_set (j := 4) h1 (.int .i64 (-1))
  have HC := Lib.hid (Lib.cell_of_heap h2)
  have HB := Lib.hid ((((Below.refl B w).setCell (p := ⟨g, 2, none⟩) hB (.bool true))).setCell (p := ⟨g, 4, none⟩) hB (.int .i64 (-1)))
  have hf := Lib.frozen_of_heap h
  have hc := Lib.cell_of_heap h
  have c2 := hc 2; have c4 := hc 4; have f2 := hf 2; have f4 := hf 4
  have c3 := HC.out 3
  simp at c2 c4 f2 f4 c3
  clear hf hc h1 h2 h
  go_enter Tryz.func12, Tryz.ntmps12
  go_wp2_with fail
  refine HO.out.mono ?_
  rintro e w1 ⟨rfl, rfl⟩
  go_wp2_with fail
  refine wp_loop_rounds 1 ?_
  rw [rounds_succ]
  go_wp2_with fail
  go_returns
  exact ⟨rfl, .inr ⟨g, rfl, rfl, by rw [HC.out]; rfl, by rw [HC.out]; rfl⟩, HB.out⟩
end Go.Proofs.YtofllhipjaphfaaGreatDoor
