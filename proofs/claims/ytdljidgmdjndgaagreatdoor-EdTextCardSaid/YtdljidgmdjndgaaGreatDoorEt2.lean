/- A line editor that takes text (chapter 25): its block; a line of text taken. -/
import Derived.Test.YtdljidgmdjndgaaGreatDoorRa3
import Derived.Test.YtdljidgmdjndgaaGreatDoorRm0
namespace Go.Proofs.YtdljidgmdjndgaaGreatDoor
open Go Go.Proofs Go.RowKit Go.Ink Go.Sort

/-- The cells of a line editor: its buffer, its files, the command whose text is being taken, whether it is, the text. -/
def edC (c f lv : Value) (nm : Int) (tk : Bool) (tx : Value) : List Value :=
  [c, f, .string ⟨#[]⟩, .bool false, lv, .slice none 0 0, .int .u8 nm, .int .i64 0, .int .i64 0, .string ⟨#[]⟩, .int .i64 0, .int .u8 0, .string ⟨#[]⟩, .string ⟨#[]⟩, .bool false, .int .i64 0, .string ⟨#[]⟩, .string ⟨#[]⟩, .int .u8 0, .bool tk, tx, .int .i64 0, .bool false, .bool false, .bool false]
def EdB (w : World) (d : Nat) (c f lv : Value) (nm : Int) (tk : Bool) (tx : Value) : Prop := w.heap[d]? = some (.cells (edC c f lv nm tk tx).toArray 66 (0, 0))
section
variable {S : Nat → Prop} {w w' : World} {d : Nat} {c f lv tx : Value} {nm : Int} {tk : Bool}
theorem EdB.lt (h : EdB w d c f lv nm tk tx) : d < w.heap.size := lt_of_heap h
theorem EdB.at (h : EdB w d c f lv nm tk tx) (j : Nat) {v : Value} (hj : (edC c f lv nm tk tx)[j]? = some v) : w.cell? ⟨d, j, none⟩ = some v := by
  rw [Lib.cell_of_heap h]
  simpa using hj
theorem EdB.fz (h : EdB w d c f lv nm tk tx) (j : Nat) : w.frozen? ⟨d, j, none⟩ = false := Lib.frozen_of_heap h j
theorem EdB.kept (h : EdB w d c f lv nm tk tx) (hk : KeepT S w w') (hn : ¬ S d) : EdB w' d c f lv nm tk tx := (hk.block d h.lt hn).trans h
theorem EdB.later (h : EdB w d c f lv nm tk tx) (hb : Below w.heap.size w w') : EdB w' d c f lv nm tk tx := (hb.block d h.lt).trans h
theorem EdB.set19 (h : EdB w d c f lv nm tk tx) (b : Bool) : EdB (w.setCell ⟨d, 19, none⟩ (.bool b)) d c f lv nm b tx := (heap_set h _).trans rfl
theorem EdB.set20 (h : EdB w d c f lv nm tk tx) (v : Value) : EdB (w.setCell ⟨d, 20, none⟩ v) d c f lv nm tk v := (heap_set h _).trans rfl
theorem EdB.set22 (h : EdB w d c f lv nm tk tx) : EdB (w.setCell ⟨d, 22, none⟩ (.bool false)) d c f lv nm tk tx := (heap_set h _).trans rfl
theorem EdB.set24 (h : EdB w d c f lv nm tk tx) : EdB (w.setCell ⟨d, 24, none⟩ (.bool false)) d c f lv nm tk tx := (heap_set h _).trans rfl
theorem edNone_b {q : Addr} (h : w.cell? ⟨d, 0, none⟩ = some (.pointer (some q))) : Calls Tryz.prog 21 #[.pointer (some ⟨d, 0, none⟩)] w fun e w' => e = .returned (.bool false) ∧ w' = w := by
  go_enter Tryz.func21, Tryz.ntmps21
  go_wp2_with fail
  go_returns
  exact ⟨rfl, rfl⟩
theorem edText_b {q : Addr} (h : EdB w d (.pointer (some q)) f lv nm tk tx) : Calls Tryz.prog 9 #[.pointer (some ⟨d, 0, none⟩)] w fun e w' => e = .returned (.bool tk) ∧ w' = w := by
  have h0 := h.at 0 rfl
  have h19 := h.at 19 rfl
  clear h
  go_enter Tryz.func9, Tryz.ntmps9
  go_wp2_with fail
  refine (edNone_b h0).mono ?_
  rintro e w1 ⟨rfl, rfl⟩
  go_wp2_with fail
  go_returns
  exact ⟨rfl, rfl⟩
theorem edCore_b {q : Addr} (h : EdB w d (.pointer (some q)) f lv nm tk tx) : Calls Tryz.prog 10 #[.pointer (some ⟨d, 0, none⟩)] w fun e w' => e = .returned (.pointer (some q)) ∧ w' = w := by
  have h0 := h.at 0 rfl
  clear h
  go_enter Tryz.func10, Tryz.ntmps10
  go_wp2_with fail
  refine (edNone_b h0).mono ?_
  rintro e w1 ⟨rfl, rfl⟩
  go_wp2_with fail
  go_returns
  exact ⟨rfl, rfl⟩
theorem OwnStrs.keptD {B : Nat} {v : Value} {l : List Line} (h : OwnStrs w B v l) (hk : KeepT (Only d) w w') (hd : d < B) : OwnStrs w' B v l :=
  ownsRow_kept hk h (fun b hb hS => by
    have := (h.lt b hb).1
    unfold Only at hS
    omega)
/-- The editor, and what lies behind a place, are turned. -/
def EdQ (d B x : Nat) : Prop := x = d ∨ B ≤ x
theorem KeepT.of_belowB {B : Nat} (h : Below B w w') : KeepT (fun x => B ≤ x) w w' := ⟨h.os, h.tape, h.output, h.size, fun k _ hn => h.block k (by omega)⟩
set_option maxRecDepth 100000 in
set_option maxHeartbeats 1000000 in
theorem stepText {q : Addr} {B : Nat} {l : List Line} {x : Line} (h : EdB w d (.pointer (some q)) f lv nm true tx) (ho : OwnStrs w B tx l) (hd : d < B) (hB : B ≤ w.heap.size) (hl : l.length ≤ 100) (hx : x ≠ [46]) :
    Calls Tryz.prog 8 #[.pointer (some ⟨d, 0, none⟩), .string ⟨x.toArray⟩] w fun e w' => e = .returned (.tuple #[.string ⟨#[]⟩, .slice none 0 0, .int .i64 0]) ∧ ∃ v, EdB w' d (.pointer (some q)) f lv nm true v ∧ OwnStrs w' B v (l ++ [x]) ∧ KeepT (EdQ d B) w w' := by
  have hne : (x == [46]) = false := by rw [beq_eq_false_iff_ne]; exact hx
  have s24 := h.set24
  have k24 : KeepT (Only d) w (w.setCell ⟨d, 24, none⟩ (.bool false)) := keepIn (eqIn d) (KeepT.refl _ w) 24 _
  have HO := Lib.hid (ho.keptD k24 hd)
  have h0 := h.at 0 rfl
  have h23 := h.at 23 rfl
  have f24 := h.fz 24
  have e24 := h.at 24 rfl
  have e19 := s24.at 19 rfl
  have e20 := s24.at 20 rfl
  have HS := Lib.hid s24
  have HK := Lib.hid k24
  have hzz := k24.size
  clear h s24 k24 ho
  go_enter Tryz.func8, Tryz.ntmps8
  go_wp2_with fail
  refine (edNone_b h0).mono ?_
  rintro e w1 ⟨rfl, rfl⟩
  have hsz : (w1.setCell ⟨d, 24, none⟩ (.bool false)).heap.size = w1.heap.size := by simp [World.setCell]
  go_wp2_with (at_builtin; refine wpList_append_any rfl _ _ rfl B tx l rfl (HO.out.alloc _) _ _ _ [x] rfl rfl (one_textN hsz x _) (by simp; omega) (by simp only [List.length_singleton]; omega) ?_)
  intro v w6 ho6 hb6
  obtain ⟨a6, c6, hv6⟩ := ownsRow_shape ho6
  subst hv6
  have hs6 : EdB w6 d (.pointer (some q)) f lv nm true tx := (hb6.block d hd).trans ((Below.heap_alloc _ _ _ (lt_of_heap HS.out)).trans HS.out)
  have hk6 : KeepT (EdQ d B) w1 w6 := ((KeepT.alloc (HK.out.mono (fun _ _ h => .inl h)) _).trans (KeepT.of_belowB hb6) (fun _ _ h => .inr h))
  have s20 := hs6.set20 (.slice a6 (l ++ [x]).length c6)
  have k20 : KeepT (Only d) w6 (w6.setCell ⟨d, 20, none⟩ (.slice a6 (l ++ [x]).length c6)) := keepIn (eqIn d) (KeepT.refl _ w6) 20 _
  have HO6 := Lib.hid (ho6.keptD k20 hd)
  have HS6 := Lib.hid s20
  have HK6 := Lib.hid (hk6.trans k20 (fun _ _ h => .inl h))
  have f20 := hs6.fz 20
  have e20' := hs6.at 20 rfl
  clear ho6 hb6 hs6 hk6 s20 k20
  go_wp2_with fail
  go_returns
  have hln : (l ++ [x]).length = l.length + 1 := by simp
  rw [hln] at HS6 HO6 HK6
  exact ⟨rfl, _, HS6.out, HO6.out, HK6.out⟩
end
end Go.Proofs.YtdljidgmdjndgaaGreatDoor
