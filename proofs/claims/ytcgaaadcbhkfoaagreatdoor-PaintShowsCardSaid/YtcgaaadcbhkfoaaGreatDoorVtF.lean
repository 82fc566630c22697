/- The walk of command: the end of an escape. -/
import Derived.Test.YtcgaaadcbhkfoaaGreatDoorVtE
import Derived.BigRegion
namespace Go.Proofs.YtcgaaadcbhkfoaaGreatDoor
open Go Go.Proofs Go.RowKit Go.Ink

def intVs (l : List Int) : List Value := l.map fun n => .int .i64 n
/-- What a command leaves: nothing is turned but the terminal, and the numbers' own row. -/
def CmdPost (B : Nat) (w : World) (v gr cap ga : Nat) (pv lv : Value) (t' : Tm) (w' : World) : Prop :=
  ∃ os' pv', VtAt B w' v gr cap ga os' pv' t' ∧ KeepT (fun k => VtS v gr ga pv k ∨ lv.ownBlock = some k) w w' ∧ ∀ k, pv'.ownBlock = some k → pv.ownBlock = some k ∨ w.heap.size ≤ k
theorem CmdPost.same {B : Nat} {w w' : World} {v gr cap ga : Nat} {os' : List Nat} {pv lv : Value} {t' : Tm} (h : VtAt B w' v gr cap ga os' pv t') (hk : KeepT (VtS v gr ga pv) w w') : CmdPost B w v gr cap ga pv lv t' w' :=
  ⟨os', pv, h, hk.mono fun _ _ e => .inl e, fun _ e => .inl e⟩
theorem cmd_other {t : Tm} {c : UInt8} {l : List Int} (h : c ≠ 72 ∧ c ≠ 65 ∧ c ≠ 66 ∧ c ≠ 67 ∧ c ≠ 68 ∧ c ≠ 74 ∧ c ≠ 75) : t.command c l = t := command_none t c l h
set_option maxRecDepth 100000 in
set_option maxHeartbeats 400000 in
theorem command_many {w : World} {v : Nat} (c : UInt8) (ao : Option Addr) (n cp : Nat) (h : 2 < n ∨ (n = 2 ∧ c ≠ 72)) (hn : n ≤ maxLen) :
    Calls Tryz.prog 48 #[.pointer (some ⟨v, 0, none⟩), .int .u8 (c.toNat : Int), .slice ao n cp] w fun e w' => e = .returned (.tuple #[]) ∧ w' = w := by
  unfold maxLen at hn
  by_cases h2 : 2 < n
  · have h2i : (2 : Int) < (n : Int) := by omega
    clear h
    go_enter Tryz.func48, Tryz.ntmps48
    go_wp2_with fail
    go_returns
    exact ⟨rfl, rfl⟩
  · have hc : c ≠ 72 := by rcases h with h | h; exact absurd h h2; exact h.2
    obtain rfl : n = 2 := by rcases h with h | h; exact absurd h h2; exact h.1
    have hne : ((c.toNat : Int) != 72) = true := by have := byte_ne 72 hc; rw [bne, show ((c.toNat : Int) == 72) = false from this]; rfl
    clear h h2 hc
    go_enter Tryz.func48, Tryz.ntmps48
    go_wp2_with fail
    go_returns
    exact ⟨rfl, rfl⟩
set_option maxRecDepth 100000 in
set_option maxHeartbeats 400000 in
theorem command_no {w : World} {v : Nat} (c : UInt8) (g cp : Nat) (a : Int) (hc : c ≠ 72 ∧ c ≠ 65 ∧ c ≠ 66 ∧ c ≠ 67 ∧ c ≠ 68 ∧ c ≠ 74 ∧ c ≠ 75) (h0 : w.cell? ⟨g, 0, none⟩ = some (.int .i64 a)) :
    Calls Tryz.prog 48 #[.pointer (some ⟨v, 0, none⟩), .int .u8 (c.toNat : Int), .slice (some ⟨g, 0, none⟩) 1 cp] w fun e w' => e = .returned (.tuple #[]) ∧ w' = w := by
  have e72 : ((c.toNat : Int) == 72) = false := byte_ne 72 hc.1
  have e65 : ((c.toNat : Int) == 65) = false := byte_ne 65 hc.2.1
  have e66 : ((c.toNat : Int) == 66) = false := byte_ne 66 hc.2.2.1
  have e67 : ((c.toNat : Int) == 67) = false := byte_ne 67 hc.2.2.2.1
  have e68 : ((c.toNat : Int) == 68) = false := byte_ne 68 hc.2.2.2.2.1
  have e74 : ((c.toNat : Int) == 74) = false := byte_ne 74 hc.2.2.2.2.2.1
  have e75 : ((c.toNat : Int) == 75) = false := byte_ne 75 hc.2.2.2.2.2.2
  clear hc
  go_enter Tryz.func48, Tryz.ntmps48
  go_wp2_with fail
  all_goals
    go_returns
    exact ⟨rfl, rfl⟩
theorem cmd_move {B : Nat} {w : World} {v gr cap ga : Nat} {os : List Nat} {pv : Value} {t : Tm} (h : VtAt B w v gr cap ga os pv t) (n : Nat) :
    (∀ (x : Int) (r : Nat), x = (r : Int) → VtAt B ((w.drewN n).setCell ⟨v, 3, none⟩ (.int .i64 x)) v gr cap ga os pv { t with row := r } ∧ KeepT (VtS v gr ga pv) w ((w.drewN n).setCell ⟨v, 3, none⟩ (.int .i64 x))) ∧
    (∀ (x : Int) (r : Nat), x = (r : Int) → VtAt B ((w.drewN n).setCell ⟨v, 4, none⟩ (.int .i64 x)) v gr cap ga os pv { t with col := r } ∧ KeepT (VtS v gr ga pv) w ((w.drewN n).setCell ⟨v, 4, none⟩ (.int .i64 x))) := by
  refine ⟨fun x r hx => ?_, fun x r hx => ?_⟩ <;> subst hx <;> exact ⟨(h.drewN n).setv _ _ _ rfl rfl rfl rfl rfl, ((KeepT.refl _ _).drewN n).setCell (.inl (.inl rfl)) _⟩
theorem cmd_one {t : Tm} {c : UInt8} {a : Int} (n : Nat) (hn : (max a 1).toNat = n) : (t.command 65 [a] = { t with row := t.row - n }) ∧ (t.command 66 [a] = { t with row := min (t.row + n) (t.rows - 1) }) ∧ (t.command 67 [a] = { t with col := min (t.col + n) (t.cols - 1) }) ∧ (t.command 68 [a] = { t with col := t.col - n }) := by
  subst hn
  unfold Tm.command
  refine ⟨?_, ?_, ?_, ?_⟩ <;> rfl
set_option maxRecDepth 100000 in
set_option maxHeartbeats 400000 in
theorem command_A {B : Nat} {w : World} {v gr cap ga : Nat} {os : List Nat} {pv : Value} {t : Tm} (h : VtAt B w v gr cap ga os pv t) (hg : t.Good) (g cp : Nat) (a : Int) (ha : -1 ≤ a ∧ a ≤ 9999) (h0 : w.cell? ⟨g, 0, none⟩ = some (.int .i64 a)) (lv : Value) :
    Calls Tryz.prog 48 #[.pointer (some ⟨v, 0, none⟩), .int .u8 65, .slice (some ⟨g, 0, none⟩) 1 cp] w fun e w' => e = .returned (.tuple #[]) ∧ CmdPost B w v gr cap ga pv lv (t.command 65 [a]) w' := by
  have HF : Hid (∀ x : Int, x = max ((t.row : Int) - max a 1) 0 → CmdPost B w v gr cap ga pv lv (t.command 65 [a]) (w.setCell ⟨v, 3, none⟩ (.int .i64 x))) := Lib.hid fun x hx => by
    rw [(cmd_one (c := 65) _ rfl).1]
    have := (cmd_move h 0).1 x (t.row - (max a 1).toNat) (by omega)
    exact CmdPost.same this.1 this.2
  obtain ⟨c0, c1, c2, c3, c4, c5, c6, cf⟩ := h.cells
  have cf3 := cf 3
  have hr1 := hg.row
  have hr2 := hg.rows.2
  have hr3 : t.row ≤ 60 := by omega
  obtain ⟨a1, a2⟩ := ha
  clear h hg cf c0 c1 c2 c4 c5 c6 hr1 hr2
  go_enter Tryz.func48, Tryz.ntmps48
  go_wp2_with fail
  all_goals
    go_returns
    exact ⟨rfl, HF.out _ (by omega)⟩
set_option maxRecDepth 100000 in
set_option maxHeartbeats 400000 in
theorem command_D {B : Nat} {w : World} {v gr cap ga : Nat} {os : List Nat} {pv : Value} {t : Tm} (h : VtAt B w v gr cap ga os pv t) (hg : t.Good) (g cp : Nat) (a : Int) (ha : -1 ≤ a ∧ a ≤ 9999) (h0 : w.cell? ⟨g, 0, none⟩ = some (.int .i64 a)) (lv : Value) :
    Calls Tryz.prog 48 #[.pointer (some ⟨v, 0, none⟩), .int .u8 68, .slice (some ⟨g, 0, none⟩) 1 cp] w fun e w' => e = .returned (.tuple #[]) ∧ CmdPost B w v gr cap ga pv lv (t.command 68 [a]) w' := by
  have HF : Hid (∀ x : Int, x = max ((t.col : Int) - max a 1) 0 → CmdPost B w v gr cap ga pv lv (t.command 68 [a]) (w.setCell ⟨v, 4, none⟩ (.int .i64 x))) := Lib.hid fun x hx => by
    rw [(cmd_one (c := 65) _ rfl).2.2.2]
    have := (cmd_move h 0).2 x (t.col - (max a 1).toNat) (by omega)
    exact CmdPost.same this.1 this.2
  obtain ⟨c0, c1, c2, c3, c4, c5, c6, cf⟩ := h.cells
  have cf4 := cf 4
  have hr1 := hg.col
  have hr2 := hg.cols.2
  have hr3 : t.col ≤ 132 := by omega
  obtain ⟨a1, a2⟩ := ha
  clear h hg cf c0 c1 c2 c3 c5 c6 hr1 hr2
  go_enter Tryz.func48, Tryz.ntmps48
  go_wp2_with fail
  all_goals
    go_returns
    exact ⟨rfl, HF.out _ (by omega)⟩
set_option maxRecDepth 100000 in
set_option maxHeartbeats 400000 in
theorem command_B {B : Nat} {w : World} {v gr cap ga : Nat} {os : List Nat} {pv : Value} {t : Tm} (h : VtAt B w v gr cap ga os pv t) (hg : t.Good) (g cp : Nat) (a : Int) (ha : -1 ≤ a ∧ a ≤ 9999) (h0 : w.cell? ⟨g, 0, none⟩ = some (.int .i64 a)) (lv : Value) :
    Calls Tryz.prog 48 #[.pointer (some ⟨v, 0, none⟩), .int .u8 66, .slice (some ⟨g, 0, none⟩) 1 cp] w fun e w' => e = .returned (.tuple #[]) ∧ CmdPost B w v gr cap ga pv lv (t.command 66 [a]) w' := by
  have hrows := hg.rows
  have HF : Hid (∀ x : Int, x = min ((t.row : Int) + max a 1) ((t.rows : Int) - 1) → CmdPost B w v gr cap ga pv lv (t.command 66 [a]) ((w.drewN 1).setCell ⟨v, 3, none⟩ (.int .i64 x))) := Lib.hid fun x hx => by
    rw [(cmd_one (c := 65) _ rfl).2.1]
    have := (cmd_move h 1).1 x (min (t.row + (max a 1).toNat) (t.rows - 1)) (by omega)
    exact CmdPost.same this.1 this.2
  obtain ⟨c0, c1, c2, c3, c4, c5, c6, cf⟩ := h.cells
  have cf3 := cf 3
  have hr1 := hg.row
  have hr3 : t.row ≤ 60 := by omega
  obtain ⟨a1, a2⟩ := ha
  clear h hg cf c1 c2 c4 c5 c6 hr1
  go_enter Tryz.func48, Tryz.ntmps48
  go_wp2_with fail
  all_goals
    go_still_tail 15, (by kernel_rfl)
    go_wp2_with fail
  all_goals
    go_returns
    exact ⟨rfl, HF.out _ (by omega)⟩
set_option maxRecDepth 100000 in
set_option maxHeartbeats 400000 in
theorem command_C {B : Nat} {w : World} {v gr cap ga : Nat} {os : List Nat} {pv : Value} {t : Tm} (h : VtAt B w v gr cap ga os pv t) (hg : t.Good) (g cp : Nat) (a : Int) (ha : -1 ≤ a ∧ a ≤ 9999) (h0 : w.cell? ⟨g, 0, none⟩ = some (.int .i64 a)) (lv : Value) :
    Calls Tryz.prog 48 #[.pointer (some ⟨v, 0, none⟩), .int .u8 67, .slice (some ⟨g, 0, none⟩) 1 cp] w fun e w' => e = .returned (.tuple #[]) ∧ CmdPost B w v gr cap ga pv lv (t.command 67 [a]) w' := by
  have hcols := hg.cols
  have HF : Hid (∀ x : Int, x = min ((t.col : Int) + max a 1) ((t.cols : Int) - 1) → CmdPost B w v gr cap ga pv lv (t.command 67 [a]) ((w.drewN 1).setCell ⟨v, 4, none⟩ (.int .i64 x))) := Lib.hid fun x hx => by
    rw [(cmd_one (c := 65) _ rfl).2.2.1]
    have := (cmd_move h 1).2 x (min (t.col + (max a 1).toNat) (t.cols - 1)) (by omega)
    exact CmdPost.same this.1 this.2
  obtain ⟨c0, c1, c2, c3, c4, c5, c6, cf⟩ := h.cells
  have cf4 := cf 4
  have hr1 := hg.col
  have hr3 : t.col ≤ 132 := by omega
  obtain ⟨a1, a2⟩ := ha
  clear h hg cf c0 c2 c3 c5 c6 hr1
  go_enter Tryz.func48, Tryz.ntmps48
  go_wp2_with fail
  all_goals
    go_still_tail 15, (by kernel_rfl)
    go_wp2_with fail
  all_goals
    go_returns
    exact ⟨rfl, HF.out _ (by omega)⟩
theorem cmd_erase {t : Tm} {a : Int} : t.command 74 [a] = t.erase true (max a 0) ∧ t.command 75 [a] = t.erase false (max a 0) := ⟨cmdJ t [a] a rfl, cmdK t [a] a rfl⟩
theorem CmdPost.of_step {B : Nat} {w w' : World} {v gr cap ga : Nat} {pv lv : Value} {t' : Tm} (h : VtStep B w v gr cap ga pv t' w') : CmdPost B w v gr cap ga pv lv t' w' := by
  obtain ⟨os', pv', h1, h2, h3⟩ := h
  exact ⟨os', pv', h1, h2.mono fun _ _ e => .inl e, h3⟩
theorem erase_cmd {B : Nat} {w : World} {v gr cap ga : Nat} {os : List Nat} {pv : Value} {t : Tm} (h : VtAt B w v gr cap ga os pv t) (hg : t.Good) (below : Bool) (how : Int) (lv : Value) (t' : Tm) (ht : t' = t.erase below how) :
    Calls Tryz.prog 55 #[.pointer (some ⟨v, 0, none⟩), .bool below, .int .i64 how] w fun e w' => e = .returned (.tuple #[]) ∧ CmdPost B w v gr cap ga pv lv t' w' := by
  subst ht
  exact (erase_any h hg below how).mono fun e w' ⟨h1, h2⟩ => ⟨h1, CmdPost.of_step h2⟩
set_option maxRecDepth 100000 in
set_option maxHeartbeats 400000 in
theorem command_J {B : Nat} {w : World} {v gr cap ga : Nat} {os : List Nat} {pv : Value} {t : Tm} (h : VtAt B w v gr cap ga os pv t) (hg : t.Good) (g cp : Nat) (a : Int) (ha : -1 ≤ a ∧ a ≤ 9999) (h0 : w.cell? ⟨g, 0, none⟩ = some (.int .i64 a)) (lv : Value) :
    Calls Tryz.prog 48 #[.pointer (some ⟨v, 0, none⟩), .int .u8 74, .slice (some ⟨g, 0, none⟩) 1 cp] w fun e w' => e = .returned (.tuple #[]) ∧ CmdPost B w v gr cap ga pv lv (t.command 74 [a]) w' := by
  have HE := Lib.hid (fun how (hh : how = max a 0) => erase_cmd h hg true how lv (t.command 74 [a]) (by rw [cmd_erase.1, hh]))
  obtain ⟨a1, a2⟩ := ha
  clear h hg
  go_enter Tryz.func48, Tryz.ntmps48
  go_wp2_with fail
  all_goals
    refine (HE.out _ (by omega)).mono ?_
    rintro e w2 ⟨rfl, hp⟩
    have HP := Lib.hid hp
    clear hp HE
    go_wp2_with fail
    go_returns
    exact ⟨rfl, HP.out⟩
set_option maxRecDepth 100000 in
set_option maxHeartbeats 400000 in
theorem command_K {B : Nat} {w : World} {v gr cap ga : Nat} {os : List Nat} {pv : Value} {t : Tm} (h : VtAt B w v gr cap ga os pv t) (hg : t.Good) (g cp : Nat) (a : Int) (ha : -1 ≤ a ∧ a ≤ 9999) (h0 : w.cell? ⟨g, 0, none⟩ = some (.int .i64 a)) (lv : Value) :
    Calls Tryz.prog 48 #[.pointer (some ⟨v, 0, none⟩), .int .u8 75, .slice (some ⟨g, 0, none⟩) 1 cp] w fun e w' => e = .returned (.tuple #[]) ∧ CmdPost B w v gr cap ga pv lv (t.command 75 [a]) w' := by
  have HE := Lib.hid (fun how (hh : how = max a 0) => erase_cmd h hg false how lv (t.command 75 [a]) (by rw [cmd_erase.2, hh]))
  obtain ⟨a1, a2⟩ := ha
  clear h hg
  go_enter Tryz.func48, Tryz.ntmps48
  go_wp2_with fail
  all_goals
    refine (HE.out _ (by omega)).mono ?_
    rintro e w2 ⟨rfl, hp⟩
    have HP := Lib.hid hp
    clear hp HE
    go_wp2_with fail
    go_returns
    exact ⟨rfl, HP.out⟩
theorem int_info : (Tryz.prog.info? 3).map (fun i => (i.zero, i.size, i.bytes)) = some (some (.int .i64 0), 1, 8) := by kernel_rfl
/-- Both cursor's cells are set. -/
theorem cmd_both {B : Nat} {w : World} {v gr cap ga : Nat} {os : List Nat} {pv : Value} {t : Tm} (h : VtAt B w v gr cap ga os pv t) (n : Nat) (x y : Int) (r c : Nat) (hx : x = (r : Int)) (hy : y = (c : Int)) :
    VtAt B (((w.drewN n).setCell ⟨v, 3, none⟩ (.int .i64 x)).setCell ⟨v, 4, none⟩ (.int .i64 y)) v gr cap ga os pv { t with row := r, col := c } ∧ KeepT (VtS v gr ga pv) w (((w.drewN n).setCell ⟨v, 3, none⟩ (.int .i64 x)).setCell ⟨v, 4, none⟩ (.int .i64 y)) := by
  subst hx hy
  exact ⟨((h.drewN n).setv 3 _ { t with row := r } rfl rfl rfl rfl rfl).setv 4 _ { t with row := r, col := c } rfl rfl rfl rfl rfl, (((KeepT.refl _ _).drewN n).setCell (.inl (.inl rfl)) _).setCell (.inl (.inl rfl)) _⟩
theorem cmd_H {t : Tm} {l : List Int} {a b : Int} (hl : l = [a] ∧ b = -1 ∨ l = [a, b]) : t.command 72 l = { t with row := min (max a 1).toNat t.rows - 1, col := min (max b 1).toNat t.cols - 1 } := by
  rcases hl with ⟨rfl, rfl⟩ | rfl <;> rfl
set_option maxRecDepth 100000 in
set_option maxHeartbeats 1000000 in
theorem command_H {B : Nat} {w : World} {v gr cap ga : Nat} {os : List Nat} {pv : Value} {t : Tm} (h : VtAt B w v gr cap ga os pv t) (hg : t.Good) (g cp Bl : Nat) (a b : Int) (l : List Int) (hl : l = [a] ∧ b = -1 ∨ l = [a, b]) (ha : -1 ≤ a ∧ a ≤ 9999) (hb : -1 ≤ b ∧ b ≤ 9999)
    (hown : w.ownsRow Bl 3 1 (.slice (some ⟨g, 0, none⟩) l.length cp) l.length (intVs l)) (hBl : Bl ≤ w.heap.size) (hno : ¬ VtS v gr ga pv g) :
    Calls Tryz.prog 48 #[.pointer (some ⟨v, 0, none⟩), .int .u8 72, .slice (some ⟨g, 0, none⟩) l.length cp] w fun e w' => e = .returned (.tuple #[]) ∧ CmdPost B w v gr cap ga pv (.slice (some ⟨g, 0, none⟩) l.length cp) (t.command 72 l) w' := by
  obtain ⟨i0, hi, hz0, hz1, hz2⟩ := info_parts int_info
  have hrows := hg.rows
  have hcols := hg.cols
  have hgl : g < w.heap.size := by
    rcases hown.2 with ⟨h1, _⟩ | ⟨g', c', cu, h1, _, h2, _⟩
    · cases h1
    · injection h1 with h1; injection h1 with h1; injection h1 with h1; subst h1; exact lt_of_heap h2
  -- behind the append: world w2
  have HF : Hid (∀ (w2 : World), KeepT (fun k => VtS v gr ga pv k ∨ k = g) w w2 → (∀ k, VtS v gr ga pv k → k < w.heap.size → w2.heap[k]? = w.heap[k]?) → ∀ x y n, x = min (max a 1) (t.rows : Int) - 1 → y = min (max b 1) (t.cols : Int) - 1 →
      CmdPost B w v gr cap ga pv (.slice (some ⟨g, 0, none⟩) l.length cp) (t.command 72 l) (((w2.drewN n).setCell ⟨v, 3, none⟩ (.int .i64 x)).setCell ⟨v, 4, none⟩ (.int .i64 y))) := Lib.hid fun w2 hk hs x y n hx hy => by
    rw [cmd_H hl]
    have hv2 : VtAt B w2 v gr cap ga os pv t := h.kept (S := fun k => k = g) ⟨hk.os, hk.tape, hk.output, hk.size, fun k h1 h2 => by
      by_cases e : VtS v gr ga pv k
      · exact hs k e h1
      · exact hk.block k h1 (fun e' => by rcases e' with e' | e'; exact e e'; exact h2 e')⟩ (fun i hi e => hno (e ▸ hi))
    have := cmd_both hv2 n x y (min (max a 1).toNat t.rows - 1) (min (max b 1).toNat t.cols - 1) (by omega) (by omega)
    exact ⟨os, pv, this.1, hk.trans (this.2.mono fun _ _ e => (Or.inl e : VtS v gr ga pv _ ∨ _)) (fun _ _ e => by
      rcases e with e | e
      · exact .inl e
      · exact .inr (by simpa [Value.ownBlock] using e)) |>.mono (fun _ _ e => by
        rcases e with e | e
        · exact .inl e
        · exact .inr (by simp [Value.ownBlock, e])), fun _ e => .inl e⟩
  have hpost : Hid (∀ (w2 : World) (o : Obj), (w.alloc o).grownBy w2 (some g) → KeepT (fun k => VtS v gr ga pv k ∨ k = g) w w2 ∧ (∀ k, VtS v gr ga pv k → k < w.heap.size → w2.heap[k]? = w.heap[k]?)) := Lib.hid fun w2 o hgr => by
    refine ⟨((KeepT.refl _ _).alloc o).grown hgr (fun k hk => .inl (.inr (by injection hk with hk; exact hk.symm))), fun k hk hl => ?_⟩
    exact (hgr.block k (by simp; omega) (fun e => hno (by injection e with e; exact e ▸ hk))).trans (Below.heap_alloc w o k hl)
  have hcells := h.cells
  have hown0 : ∃ u, (intVs l)[0]? = some u ∧ w.cell? ⟨g, 0, none⟩ = some u ∧ u = .int .i64 a := by
    rcases hl with ⟨rfl, _⟩ | rfl
    · exact ⟨_, rfl, by rw [hown.cellAt 0 (by simp)]; rfl, rfl⟩
    · exact ⟨_, rfl, by rw [hown.cellAt 0 (by simp)]; rfl, rfl⟩
  obtain ⟨_, _, h0, rfl⟩ := hown0
  have hlen : l.length = 1 ∨ l.length = 2 := by
    rcases hl with ⟨rfl, _⟩ | rfl
    · exact .inl rfl
    · exact .inr rfl
  have hn1 : (intVs l).length = l.length := by simp [intVs]
  have hto : Hid (∀ (w2 : World) (g2 c2 : Nat), w2.ownsRow Bl 3 1 (.slice (some ⟨g2, 0, none⟩) (l.length + 1) c2) (l.length + 1) (intVs l ++ [.int .i64 (-1)]) → w2.cell? ⟨g2, 1, none⟩ = some (.int .i64 b)) := Lib.hid fun w2 g2 c2 ho => by
    rw [ho.cellAt 1 (by omega)]
    rcases hl with ⟨rfl, rfl⟩ | rfl <;> rfl
  have hnx : ¬ (l.length + 1 = 0) := by omega
  have HOWN := Lib.hid hown
  have HV := Lib.hid (lt_of_heap h.head)
  have HNO := Lib.hid hno
  have HN1 := Lib.hid hn1
  have HGL := Lib.hid hgl
  obtain ⟨a1, a2⟩ := ha
  obtain ⟨b1, b2⟩ := hb
  have hbl := hBl
  have HH := Lib.hid h
  clear hl hg h hown hno hn1 hgl hcells
  generalize intVs l = cells at *
  generalize hnn : l.length = n at *
  clear hnn
  rcases hlen with rfl | rfl
  all_goals
    go_enter Tryz.func48, Tryz.ntmps48
    go_wp2_with (at_builtin; refine wpList_append_own _ rfl _ _ 80 rfl Bl 3 i0 (.int .i64 0) 1 8 Tryz.underlying80 hi hz0 hz1 hz2 rfl (by decide) _ _ _ rfl (HOWN.out.alloc _) ⟨w.heap.size, 0, none⟩ 1 1 [.int .i64 (-1)] rfl rfl (news_one _ _ _) (news_ok rfl) (by unfold maxLen; omega) (by omega) (by simp; omega) ?_)
  all_goals
    intro v' w2 hown' hgrow _
    obtain ⟨ao2, c2, rfl⟩ := ownsRow_shape hown'
    rcases ao2 with _ | ⟨g2, off2, sp2⟩
    · exfalso
      rcases hown'.2 with ⟨h1, h2⟩ | ⟨g', c', cu, h1, _⟩
      · omega
      · cases h1
    obtain ⟨rfl, rfl⟩ : off2 = 0 ∧ sp2 = none := by
      rcases hown'.2 with ⟨h1, h2⟩ | ⟨g', c', cu, h1, _⟩
      · omega
      · injection h1 with h1; injection h1 with h1; injection h1 with _ h1 h2; exact ⟨h1, h2⟩
    have d1 := hto.out w2 g2 c2 hown'
    obtain ⟨hk2, hs2⟩ := hpost.out w2 _ hgrow
    have HD := Lib.hid (HF.out w2 hk2 hs2)
    have hv2 := (HH.out.kept (S := fun k => ¬ VtS v gr ga pv k) ⟨hk2.os, hk2.tape, hk2.output, hk2.size, fun k h1 h2 => hs2 k (Classical.byContradiction h2) h1⟩ (fun i hi e => e hi)).cells
    obtain ⟨c0, c1, _, c3, c4, _, _, cf⟩ := hv2
    have cf3 := cf 3
    have cf4 := cf 4
    clear hown' hgrow hk2 hs2 cf HH hpost HF hto
  all_goals
    go_wp2_with fail
    go_region
  all_goals
    go_wp2_with fail
    all_goals
      go_returns
      exact ⟨rfl, HD.out _ _ 1 (by (repeat' split) <;> omega) (by (repeat' split) <;> omega)⟩
/-- The end of an escape, with its numbers. -/
theorem command_any {B : Nat} {w : World} {v gr cap ga : Nat} {os : List Nat} {pv : Value} {t : Tm} (h : VtAt B w v gr cap ga os pv t) (hg : t.Good) (c : UInt8) (g cp Bl : Nat) (l : List Int) (hl : l ≠ []) (hb : ∀ a ∈ l, -1 ≤ a ∧ a ≤ 9999)
    (hown : w.ownsRow Bl 3 1 (.slice (some ⟨g, 0, none⟩) l.length cp) l.length (intVs l)) (hBl : Bl ≤ w.heap.size) (hno : ¬ VtS v gr ga pv g) (hlm : l.length ≤ maxLen) :
    Calls Tryz.prog 48 #[.pointer (some ⟨v, 0, none⟩), .int .u8 (c.toNat : Int), .slice (some ⟨g, 0, none⟩) l.length cp] w fun e w' => e = .returned (.tuple #[]) ∧ CmdPost B w v gr cap ga pv (.slice (some ⟨g, 0, none⟩) l.length cp) (t.command c l) w' := by
  by_cases hm : 2 < l.length ∨ (l.length = 2 ∧ c ≠ 72)
  · refine (command_many c _ _ _ hm hlm).mono ?_
    rintro e w' ⟨he, rfl⟩
    refine ⟨he, CmdPost.same (os' := os) ?_ (KeepT.refl _ _)⟩
    have : t.command c l = t := by
      unfold Tm.command
      rw [if_pos (by rcases hm with h | ⟨h1, h2⟩; exact .inl h; exact .inr ⟨by omega, h2⟩)]
    rw [this]; exact h
  · by_cases h72 : c = 72
    · subst h72
      match l, hl with
      | [a], _ => exact command_H h hg g cp Bl a (-1) [a] (.inl ⟨rfl, rfl⟩) (hb a (by simp)) (by omega) hown hBl hno
      | [a, b], _ => exact command_H h hg g cp Bl a b [a, b] (.inr rfl) (hb a (by simp)) (hb b (by simp)) hown hBl hno
      | a :: b :: d :: l', _ => exact absurd (.inl (by simp)) hm
    · match l, hl with
      | a :: b :: l', _ =>
        exfalso; apply hm
        rcases l' with _ | ⟨d, l'⟩
        · exact .inr ⟨rfl, h72⟩
        · exact .inl (by simp)
      | [a], _ =>
        have h0 : w.cell? ⟨g, 0, none⟩ = some (.int .i64 a) := by rw [hown.cellAt 0 (by simp)]; rfl
        have ha := hb a (by simp)
        by_cases c65 : c = 65
        · subst c65; exact command_A h hg g cp a ha h0 _
        by_cases c66 : c = 66
        · subst c66; exact command_B h hg g cp a ha h0 _
        by_cases c67 : c = 67
        · subst c67; exact command_C h hg g cp a ha h0 _
        by_cases c68 : c = 68
        · subst c68; exact command_D h hg g cp a ha h0 _
        by_cases c74 : c = 74
        · subst c74; exact command_J h hg g cp a ha h0 _
        by_cases c75 : c = 75
        · subst c75; exact command_K h hg g cp a ha h0 _
        refine (command_no c g cp a ⟨h72, c65, c66, c67, c68, c74, c75⟩ h0).mono ?_
        rintro e w' ⟨he, rfl⟩
        refine ⟨he, CmdPost.same (os' := os) ?_ (KeepT.refl _ _)⟩
        rw [cmd_other ⟨h72, c65, c66, c67, c68, c74, c75⟩]; exact h
end Go.Proofs.YtcgaaadcbhkfoaaGreatDoor
