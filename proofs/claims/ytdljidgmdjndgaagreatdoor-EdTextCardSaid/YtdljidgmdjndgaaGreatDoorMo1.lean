/- What moved lines come to, in plain Lean. No program in sight. -/
import Derived.Test.YtdljidgmdjndgaaGreatDoorSpl2
import Derived.Test.YtdljidgmdjndgaaGreatDoorRn3
namespace Go.Proofs.YtdljidgmdjndgaaGreatDoor
open Go

def moveL (l : List Line) (a b : Nat) : List Line := (l.drop (a - 1)).take (b - (a - 1))
def moveR (l : List Line) (a b : Nat) : List Line := l.take (a - 1) ++ l.drop b
def moveK (a b d : Nat) : Nat := if b ≤ d then d - (b - a + 1) else d
def moveW (l : List Line) (a b d : Nat) : List Line := (moveR l a b).take (moveK a b d) ++ moveL l a b ++ (moveR l a b).drop (moveK a b d)
theorem moveL_len {l : List Line} {a b : Nat} (h1 : 1 ≤ a) (h2 : a ≤ b) (h3 : b ≤ l.length) : (moveL l a b).length = b - a + 1 := by
  unfold moveL
  rw [List.length_take, List.length_drop]; omega
theorem moveR_len {l : List Line} {a b : Nat} (h1 : 1 ≤ a) (h2 : a ≤ b) (h3 : b ≤ l.length) : (moveR l a b).length = l.length - (b - a + 1) := by
  unfold moveR
  rw [List.length_append, List.length_take, List.length_drop]; omega
theorem checkL_sub {l m : List Line} (h : checkL l = 0) (hs : ∀ t ∈ m, t ∈ l) (hl : m.length ≤ l.length) : checkL m = 0 := by
  rw [checkL_ok] at h ⊢
  exact ⟨fun t ht => h.1 t (hs t ht), by omega, fun t ht => h.2.2 t (hs t ht)⟩
theorem checkL_nil : checkL [] = 0 := by decide
theorem move_check {l : List Line} {a b : Nat} (h : checkL l = 0) (h1 : 1 ≤ a) (h2 : a ≤ b) (h3 : b ≤ l.length) : checkL (moveL l a b) = 0 :=
  checkL_sub h (fun t ht => List.mem_of_mem_drop (List.mem_of_mem_take ht)) (by rw [moveL_len h1 h2 h3]; omega)
theorem move_cut {l : List Line} {a b : Nat} (h : checkL l = 0) (h1 : 1 ≤ a) (h2 : a ≤ b) (h3 : b ≤ l.length) : doneS l ⟨((a - 1 : Nat) : Int), ((b - a + 1 : Nat) : Int), []⟩ = (moveR l a b, 0) := by
  have hl := (checkL_ok.1 h).2.1
  rw [doneS_of (by unfold checkS; rw [if_neg (by simp only; omega)]; exact checkL_nil) (by simp only [Int.toNat_natCast]; omega) (by simp only [Int.toNat_natCast, List.length_nil]; omega)]
  simp only [Int.toNat_natCast, List.append_nil]
  unfold moveR
  rw [show a - 1 + (b - a + 1) = b by omega]
theorem move_lay {l : List Line} {a b d : Nat} (h : checkL l = 0) (h1 : 1 ≤ a) (h2 : a ≤ b) (h3 : b ≤ l.length) (h4 : d ≤ l.length) (h5 : ¬ (a ≤ d ∧ d < b)) : doneS (moveR l a b) ⟨(moveK a b d : Int), 0, moveL l a b⟩ = (moveW l a b d, 0) := by
  have hl := (checkL_ok.1 h).2.1
  have hr := moveR_len h1 h2 h3
  have hm := moveL_len h1 h2 h3
  have hk : moveK a b d ≤ (moveR l a b).length := by unfold moveK; split <;> omega
  rw [doneS_of (by unfold checkS; rw [if_neg (by simp only; omega)]; exact move_check h h1 h2 h3) (by simp only [Int.toNat_natCast, Int.toNat_zero]; omega) (by simp only [Int.toNat_zero]; omega)]
  simp only [Int.toNat_natCast, Int.toNat_zero, Nat.add_zero]
  rfl
/-- Nothing moves. -/
theorem move_same {l : List Line} {a b d : Nat} (h1 : 1 ≤ a) (h2 : a ≤ b) (h3 : b ≤ l.length) (h : d = b ∨ d = a - 1) : moveW l a b d = l ∧ moveK a b d + (b - a + 1) = b := by
  have hk : moveK a b d = a - 1 := by unfold moveK; rcases h with rfl | rfl; · rw [if_pos (Nat.le_refl _)]; omega
                                      · rw [if_neg (by omega)]
  refine ⟨?_, by rw [hk]; omega⟩
  unfold moveW moveR moveL
  rw [hk, List.take_left' (by rw [List.length_take]; omega), List.drop_left' (by rw [List.length_take]; omega)]
  have e : l.drop b = (l.drop (a - 1)).drop (b - (a - 1)) := by rw [List.drop_drop]; congr 1; omega
  rw [e, List.append_assoc, List.take_append_drop, List.take_append_drop]
end Go.Proofs.YtdljidgmdjndgaaGreatDoor
/- runs: lines moved. -/
namespace Go.Proofs.YtdljidgmdjndgaaGreatDoor
open Go Go.Proofs Go.RowKit Go.Ink Go.Sort

theorem move_tab {ps : List (List Line)} {i j d : Nat} (h : checkL ps.flatten = 0) (h1 : 1 ≤ i) (h2 : i ≤ j) (h3 : j ≤ manyS ps) (h4 : d ≤ manyS ps) (h5 : ¬ (i ≤ d ∧ d < j)) :
    (moveL ps.flatten i j).length = j - i + 1 ∧ tabErr (manyS ps) ⟨((i - 1 : Nat) : Int), ((j - i + 1 : Nat) : Int), []⟩ = 0 ∧ (tabSpl ps ⟨((i - 1 : Nat) : Int), ((j - i + 1 : Nat) : Int), []⟩).flatten = moveR ps.flatten i j ∧
      tabErr (manyS (tabSpl ps ⟨((i - 1 : Nat) : Int), ((j - i + 1 : Nat) : Int), []⟩)) ⟨(moveK i j d : Int), ((0 : Nat) : Int), moveL ps.flatten i j⟩ = 0 ∧
      (tabSpl (tabSpl ps ⟨((i - 1 : Nat) : Int), ((j - i + 1 : Nat) : Int), []⟩) ⟨(moveK i j d : Int), 0, moveL ps.flatten i j⟩).flatten = moveW ps.flatten i j d := by
  rw [manyS_flat] at h3 h4
  have hc := move_cut h h1 h2 h3
  have hl := move_lay h h1 h2 h3 h4 h5
  have e1 : (doneS ps.flatten ⟨((i - 1 : Nat) : Int), ((j - i + 1 : Nat) : Int), []⟩).2 = 0 := by rw [hc]
  have f1 : (tabSpl ps ⟨((i - 1 : Nat) : Int), ((j - i + 1 : Nat) : Int), []⟩).flatten = moveR ps.flatten i j := by rw [tabSpl_flat e1, hc]
  have e2 : (doneS (tabSpl ps ⟨((i - 1 : Nat) : Int), ((j - i + 1 : Nat) : Int), []⟩).flatten ⟨(moveK i j d : Int), 0, moveL ps.flatten i j⟩).2 = 0 := by rw [f1, hl]
  refine ⟨moveL_len h1 h2 h3, by rw [manyS_flat]; exact (tabErr_iff _ _).2 e1, f1, by rw [manyS_flat]; exact (tabErr_iff _ _).2 e2, by rw [tabSpl_flat e2, f1, hl]⟩
section
variable {S : Nat → Prop} {w w' : World} {rb c t : Nat} {lv sv : Value} {dp : Nat} {r : Nat} {dirty : Bool} {undo held : Option Addr} {was : Addr} {ps : List (List Line)}
set_option maxRecDepth 100000 in
/-- Among the lines that are moved nothing can stand. -/
theorem runMove_no {i j d k : Nat} {dn : Value} (h : RunB w rb c lv sv d (i : Int) (j : Int) 2 dp) (hc : CoreB w c t (k : Int) [] r dirty undo (some was) held dn) (ht : TabOf S w t ps) (hcr : c ≠ rb) (hl : ps.length ≤ 100000) (hm : manyS ps ≤ 1000000) (h1 : 1 ≤ manyS ps) (h4 : d ≤ manyS ps) (h5 : i ≤ d) (h6 : d < j) :
    Calls Tryz.prog 119 #[.pointer (some ⟨rb, 0, none⟩)] w fun e w' => e = .returned (.int .i64 212) ∧ RunB w' rb c lv sv d (i : Int) (j : Int) 2 dp ∧ CoreB w' c t (k : Int) [] r dirty undo (some was) held dn ∧ KeepT (Only c) w w' := by
  have HDE := Lib.hid (runDest_ok h hc ht hcr hl hm h1 h4)
  have g1 : decide (i ≤ d) = true := decide_eq_true h5
  have g2 : decide (d < j) = true := decide_eq_true h6
  have g3 : (i : Int) ≤ (d : Int) := by omega
  have g4 : (d : Int) < (j : Int) := by omega
  clear h hc ht
  go_enter Tryz.func119, Tryz.ntmps119
  go_wp2_with fail
  refine HDE.out.mono ?_
  rintro e w1 ⟨rfl, hR1, hC1, hk1⟩
  have HR1 := Lib.hid hR1
  have HC1 := Lib.hid hC1
  have HK1 := Lib.hid hk1
  have q17 := hR1.c17
  have q18 := hR1.c18
  clear hR1 hC1 hk1
  go_wp2_with fail
  go_returns
  exact ⟨rfl, HR1.out, HC1.out, HK1.out⟩
set_option maxRecDepth 100000 in
set_option maxHeartbeats 1000000 in
theorem runMove_same {i j d k : Nat} {dn : Value} (h : RunB w rb c lv sv d (i : Int) (j : Int) 2 dp) (hc : CoreB w c t (k : Int) [] r dirty undo (some was) held dn) (ht : TabOf S w t ps) (hSc : S c) (hcr : c ≠ rb) (hl : ps.length ≤ 100000) (hm : manyS ps ≤ 1000000) (h1 : 1 ≤ i) (h2 : i ≤ j) (h3 : j ≤ manyS ps) (h5 : d = j ∨ d = i - 1) :
    Calls Tryz.prog 119 #[.pointer (some ⟨rb, 0, none⟩)] w fun e w' => e = .returned (.int .i64 0) ∧ RunB w' rb c lv sv d (i : Int) (j : Int) 2 dp ∧ CoreB w' c t (j : Int) [] r dirty undo (some was) held dn ∧ KeepT (Only c) w w' := by
  have h4 : d ≤ manyS ps := by omega
  have HDE := Lib.hid (runDest_ok h hc ht hcr hl hm (by omega) h4)
  have HGO := Lib.hid (fun (X : World) (hC : CoreB X c t (k : Int) [] r dirty undo (some was) held dn) (hT : TabOf S X t ps) => coreGo_of (⟨hC.c0, hC.c1, hT, hl, hm⟩ : CoreOf S X c t (k : Int) ps) hC j h3)
  have HT := Lib.hid ht
  have hsub : IntKind.i64.wrap ((i : Int) - 1) = ((i - 1 : Nat) : Int) := by rw [IntWalk.i64_in _ (by omega)]; omega
  clear h hc ht
  have key : ∀ w1 : World, Hid (RunB w1 rb c lv sv d (i : Int) (j : Int) 2 dp) → Hid (CoreB w1 c t (k : Int) [] r dirty undo (some was) held dn) → Hid (KeepT (Only c) w w1) → Hid (TabOf S w1 t ps) := fun w1 _ _ hk => Lib.hid (HT.out.kept (hk.out.mono (fun x _ hx => by unfold Only at hx; subst hx; exact hSc)))
  rcases h5 with rfl | h5
  · have g1 : decide (d < d) = false := decide_eq_false (by omega)
    have g2 : decide (i ≤ d) = true := decide_eq_true h2
    have g3 : (i : Int) ≤ (d : Int) := by omega
    go_enter Tryz.func119, Tryz.ntmps119
    go_wp2_with fail
    refine HDE.out.mono ?_
    rintro e w1 ⟨rfl, hR1, hC1, hk1⟩
    have HR1 := Lib.hid hR1
    have HC1 := Lib.hid hC1
    have HK1 := Lib.hid hk1
    have HT1 := key w1 HR1 HC1 HK1
    have q0 := hR1.c0
    have q17 := hR1.c17
    have q18 := hR1.c18
    clear hR1 hC1 hk1
    go_wp2_with fail
    have HRK := Lib.hid (fun (X : World) (hk : KeepT (Only c) w1 X) => (show X.cell? ⟨rb, 0, none⟩ = some (.pointer (some ⟨c, 0, none⟩)) ∧ X.cell? ⟨rb, 18, none⟩ = some (.int .i64 (d : Int)) from
      have q := HR1.out.kept hk (by unfold Only; exact fun h => hcr h.symm)
      ⟨q.c0, q.c18⟩))
    go_region_held3 (fun w' => w'.cell? ⟨rb, 0, none⟩ = some (.pointer (some ⟨c, 0, none⟩)) ∧ w'.cell? ⟨rb, 18, none⟩ = some (.int .i64 (d : Int)))
      (first | exact HRK.out _ (KeepT.refl _ w1).drew | exact HRK.out _ (keepIn (eqIn c) (KeepT.refl _ w1).drew 1 _))
      (first
        | ((with_reducible refine (HGO.out _ (HC1.out.later (below_alloc_drew w1)) (HT1.out.later (below_alloc_drew w1))).mono ?_); rintro e w2 ⟨rfl, rfl⟩)
        | (fail "no arm"))
    go_wp2_with fail
    go_returns
    exact ⟨rfl, HR1.out.kept (S := Only c) (keepIn (eqIn c) (KeepT.refl _ w1).drew 1 _) (by unfold Only; exact fun h => hcr h.symm), (HC1.out.later (below_alloc_drew w1)).set1 _, HK1.out.trans (keepIn (eqIn c) (KeepT.refl _ w1).drew 1 _) (fun _ _ h => h)⟩
  · have g1 : decide (i ≤ d) = false := decide_eq_false (by omega)
    have g3 : ¬ (i : Int) ≤ (d : Int) := by omega
    have g4 : decide (d = j) = false := decide_eq_false (by omega)
    have g5 : ((d : Int) == (j : Int)) = false := by rw [beq_eq_false_iff_ne]; omega
    have g6 : ((d : Int) == ((i - 1 : Nat) : Int)) = true := by rw [h5]; exact beq_self_eq_true _
    have g7 : (d == j) = false := by rw [beq_eq_false_iff_ne]; omega
    have g8 : (d == i - 1) = true := by rw [h5]; exact beq_self_eq_true _
    go_enter Tryz.func119, Tryz.ntmps119
    go_wp2_with fail
    refine HDE.out.mono ?_
    rintro e w1 ⟨rfl, hR1, hC1, hk1⟩
    have HR1 := Lib.hid hR1
    have HC1 := Lib.hid hC1
    have HK1 := Lib.hid hk1
    have HT1 := key w1 HR1 HC1 HK1
    have q0 := hR1.c0
    have q17 := hR1.c17
    have q18 := hR1.c18
    clear hR1 hC1 hk1
    go_wp2_with fail
    have HRK := Lib.hid (fun (X : World) (hk : KeepT (Only c) w1 X) => (show X.cell? ⟨rb, 0, none⟩ = some (.pointer (some ⟨c, 0, none⟩)) ∧ X.cell? ⟨rb, 18, none⟩ = some (.int .i64 (j : Int)) from
      have q := HR1.out.kept hk (by unfold Only; exact fun h => hcr h.symm)
      ⟨q.c0, q.c18⟩))
    go_region_held3 (fun w' => w'.cell? ⟨rb, 0, none⟩ = some (.pointer (some ⟨c, 0, none⟩)) ∧ w'.cell? ⟨rb, 18, none⟩ = some (.int .i64 (j : Int)))
      (first | exact HRK.out _ (KeepT.refl _ w1).drew | exact HRK.out _ (keepIn (eqIn c) (KeepT.refl _ w1).drew 1 _))
      (first
        | ((with_reducible refine (HGO.out _ (HC1.out.later (below_alloc_drew w1)) (HT1.out.later (below_alloc_drew w1))).mono ?_); rintro e w2 ⟨rfl, rfl⟩)
        | (fail "no arm"))
    go_wp2_with fail
    go_returns
    exact ⟨rfl, HR1.out.kept (S := Only c) (keepIn (eqIn c) (KeepT.refl _ w1).drew 1 _) (by unfold Only; exact fun h => hcr h.symm), (HC1.out.later (below_alloc_drew w1)).set1 _, HK1.out.trans (keepIn (eqIn c) (KeepT.refl _ w1).drew 1 _) (fun _ _ h => h)⟩
end
end Go.Proofs.YtdljidgmdjndgaaGreatDoor
/- runs: lines moved elsewhere. -/
namespace Go.Proofs.YtdljidgmdjndgaaGreatDoor
open Go Go.Proofs Go.RowKit Go.Ink Go.Sort

theorem own_eq {g n c x : Nat} (h : (Value.slice (some ⟨g, 0, none⟩) n c).ownBlock = some x) : x = g := by simpa [Value.ownBlock] using h.symm
theorem turn_nil {c dp j : Nat} (h : Turn c dp (.slice none 0 0) (.slice none 0 0) j) : j = c ∨ j = dp := by
  rcases h with h | h | h | h
  · exact .inl h
  · exact .inr h
  · cases h
  · cases h
section
variable {S : Nat → Prop} {w w' : World} {rb c t : Nat} {lv sv : Value} {dp : Nat} {r : Nat} {dirty : Bool} {undo held : Option Addr} {was : Addr} {ps : List (List Line)}
set_option maxRecDepth 100000 in
set_option maxHeartbeats 2000000 in
theorem runMove_ok {B i j d k : Nat} (hw : 6 ≤ w.heap.size) (h : RunB w rb c lv sv d (i : Int) (j : Int) 2 dp) (hc : CoreB w c t (k : Int) [] r dirty undo (some was) held (.slice none 0 0)) (ht : TabOf S w t ps) (hv : DidB w dp (.slice none 0 0))
    (hS : ∀ x, S x → x < w.heap.size) (hSc : S c) (hSp : S dp) (hcr : c ≠ rb) (hps : ps.length ≤ 1000) (hk : k ≤ manyS ps) (hM : manyS ps ≤ 2000) (hck : checkL ps.flatten = 0)
    (h1 : 1 ≤ i) (h2 : i ≤ j) (h3 : j ≤ manyS ps) (h4 : d ≤ manyS ps) (h5 : j < d ∨ d < i - 1) (hB : B ≤ w.heap.size) (hBc : B ≤ c) (hBp : B ≤ dp) :
    Calls Tryz.prog 119 #[.pointer (some ⟨rb, 0, none⟩)] w fun e w' => e = .returned (.int .i64 0) ∧ ∃ t' g cp n, RunB w' rb c lv sv d (i : Int) (j : Int) 2 dp ∧
      CoreB w' c t' ((moveK i j d + (j - i + 1) : Nat) : Int) [] r dirty undo (some was) held (.slice (some ⟨g, 0, none⟩) n cp) ∧
      (∃ (S' : Nat → Prop) (ps' : List (List Line)), S' c ∧ TabOf S' w' t' ps' ∧ ps'.flatten = moveW ps.flatten i j d ∧ ps'.length ≤ 100000) ∧ Below B w w' := by
  obtain ⟨hL, hE1, hF1, hE2, hF2⟩ := move_tab hck h1 h2 h3 h4 (by omega)
  obtain ⟨_, hN1, hN1'⟩ := tabSpl_many hE1
  have hl1 := tabSpl_len ps ⟨((i - 1 : Nat) : Int), ((j - i + 1 : Nat) : Int), []⟩
  have HDE := Lib.hid (runDest_ok h hc ht hcr (by omega) (by omega) (by omega) h4)
  have HT := Lib.hid ht
  have HV := Lib.hid hv
  have HC := Lib.hid hc
  have hsub : IntKind.i64.wrap ((i : Int) - 1) = ((i - 1 : Nat) : Int) := by rw [IntWalk.i64_in _ (by omega)]; omega
  clear h hc ht hv
  obtain ⟨L, hLe⟩ : ∃ L, L = moveL ps.flatten i j := ⟨_, rfl⟩
  have HLL := Lib.hid hLe
  rw [← hLe] at hL hE2 hF2
  clear hLe
  have HL := Lib.hid hL
  rcases h5 with h5 | h5
  · have g1 : decide (d < j) = false := decide_eq_false (by omega)
    have g2 : decide (i ≤ d) = true := decide_eq_true (by omega)
    have g3 : (i : Int) ≤ (d : Int) := by omega
    have g4 : ¬ (d : Int) < (j : Int) := by omega
    have g5 : ((d : Int) == (j : Int)) = false := by rw [beq_eq_false_iff_ne]; omega
    have g6 : ((d : Int) == ((i - 1 : Nat) : Int)) = false := by rw [beq_eq_false_iff_ne]; omega
    have g7 : (d == j) = false := by rw [beq_eq_false_iff_ne]; omega
    have g8 : (d == i - 1) = false := by rw [beq_eq_false_iff_ne]; omega
    have g9 : (j : Int) < (d : Int) := by omega
    have hkd : moveK i j d = d - (j - i + 1) := by unfold moveK; rw [if_pos (by omega)]
    have hds : IntKind.i64.wrap ((d : Int) - (L.length : Int)) = (moveK i j d : Int) := by rw [IntWalk.i64_in _ (by omega), hkd]; omega
    clear hkd hL
    generalize hmk : moveK i j d = MK at *
    have hcp : c ≠ dp := fun h => by
      have h1 := HC.out
      have h2 := HV.out
      unfold CoreB at h1
      unfold DidB at h2
      rw [h] at h1
      rw [h1] at h2
      simp only [Option.some.injEq, Obj.cells.injEq] at h2
      exact absurd h2.2.1 (by decide)
    go_enter Tryz.func119, Tryz.ntmps119
    go_wp2_with fail
    refine HDE.out.mono ?_
    rintro e w1 ⟨rfl, hR1, hC1, hk1⟩
    have HR1 := Lib.hid hR1
    have HC1 := Lib.hid hC1
    have HK1 := Lib.hid hk1
    have HT1 := Lib.hid (HT.out.kept (hk1.mono (fun x _ hx => by unfold Only at hx; subst hx; exact hSc)))
    have HV1 := Lib.hid (show DidB w1 dp (.slice none 0 0) from (hk1.block dp (lt_of_heap HV.out) (by unfold Only; exact fun h => hcp h.symm)).trans HV.out)
    have HZ1 := Lib.hid hk1.size
    have q0 := hR1.c0
    have q17 := hR1.c17
    have q18 := hR1.c18
    clear hR1 hC1 hk1
    go_wp2_with fail
    have HLN := Lib.hid (fun (X : World) (hb : Below w1.heap.size w1 X) => coreLines_of (⟨(HC1.out.later hb).c0, (HC1.out.later hb).c1, HT1.out.later hb, by omega, by omega⟩ : CoreOf S X c t (k : Int) ps) i j h1 h2 h3)
    rw [show (ps.flatten.drop (i - 1)).take (j - (i - 1)) = L from HLL.out.symm] at HLN
    have HX := Lib.hid (Below.refl w1.heap.size w1)
    go_region_held3 (fun w' => w'.cell? ⟨rb, 0, none⟩ = some (.pointer (some ⟨c, 0, none⟩)) ∧ w'.cell? ⟨rb, 17, none⟩ = some (.int .i64 (i : Int)) ∧ w'.cell? ⟨rb, 18, none⟩ = some (.int .i64 (j : Int)))
      (first | exact ⟨q0, q17, q18⟩ | exact ⟨p0, p17, p18⟩ | go_keep)
      (first
        | ((with_reducible refine (HLN.out _ HX.out.drew).mono ?_); rintro e w2 ⟨v, rfl, ho, hb2⟩; obtain ⟨la, lc, hv2⟩ := ownsRow_shape ho; subst hv2
           have HB2 := Lib.hid (HX.out.drew.trans hb2)
           have HO2 := Lib.hid (own_slA (S := Turn c dp (.slice none 0 0) (.slice none 0 0)) rfl ho (fun x hx => by
             rcases turn_nil hx with rfl | rfl
             · exact HC1.out.lt
             · exact lt_of_heap HV1.out))
           have p0 := (HR1.out.later HB2.out).c0
           have p17 := (HR1.out.later HB2.out).c17
           have p18 := (HR1.out.later HB2.out).c18
           clear ho hb2)
        | (fail "no arm"))
    have hsp := (runSplice_ok (S := S) (w := w2) (dn := .slice none 0 0) (dv := .slice none 0 0) (k := k) (p := i - 1) (dl := L.length) (m := 0) (mv := 0) (ins := []) (ai := none) (ci := 0) (Nat.le_trans hw (Nat.le_trans HZ1.out HB2.out.size)) (HR1.out.later HB2.out) (HC1.out.later HB2.out) (HT1.out.later HB2.out) (DoneOf.nil _) (show DidB w2 dp _ from (HB2.out.block dp (lt_of_heap HV1.out)).trans HV1.out) (DoneOf.nil _) (slOf_none _)
      (fun x hx => Nat.lt_of_lt_of_le (hS x hx) (Nat.le_trans HZ1.out HB2.out.size)) hSc hSp (fun g hg => by cases hg) (fun g hg => by cases hg) (fun g hg => by cases hg) hcr (by omega) hk hM (by omega) (by omega) (by rw [HL.out]; exact hE1))
    simp only [List.length_nil] at hsp
    have HSP := Lib.hid hsp
    clear hsp
    go_wp2_with fail
    refine HSP.out.mono ?_
    rintro e w3 ⟨rfl, t3, g, cp, g2, cp2, hR3, hC3, hD3, hV3, hDV3, hT3, hat, hat2, hne, hlt, hlt2, hk3⟩
    rw [HL.out] at hC3 hT3
    have HR3 := Lib.hid hR3
    have HK3 := Lib.hid hk3
    have HO3 := Lib.hid (HO2.out.kept hk3)
    have hgw : w2.heap.size ≤ g := by rcases hat with h | h; cases h; exact h
    have hgw2 : w2.heap.size ≤ g2 := by rcases hat2 with h | h; cases h; exact h
    have HZ3 := Lib.hid (Nat.le_trans HZ1.out (Nat.le_trans HB2.out.size hk3.size))
    have HLY := Lib.hid (runLay_ok (S := fun x => (S x ∨ x = g) ∨ x = g2) (w := w3) (k := curS k (i - 1) (j - i + 1) 0 (manyS (tabSpl ps ⟨((i - 1 : Nat) : Int), ((j - i + 1 : Nat) : Int), []⟩))) (p := MK) (m := 1) (mv := 1) (ins := L) (ai := la) (ci := lc) (Nat.le_trans hw HZ3.out) hR3 hC3 hT3 hD3 hV3 hDV3 HO3.out.1
      (fun x hx => by
        rcases hx with (hx | rfl) | rfl
        · exact Nat.lt_of_lt_of_le (hS x hx) HZ3.out
        · exact hlt
        · exact hlt2) (.inl (.inl hSc)) (.inl (.inl hSp)) (fun x hx => .inl (.inr (own_eq hx))) (fun x hx => .inr (own_eq hx)) (fun x hx hy => by
        exact hne ((own_eq hx).symm.trans (own_eq hy))) hcr (by have := hl1; omega) (curS_le hk (by omega) (by rw [hN1]; simp)) (by rw [hN1]; omega) (by omega) (by omega) hE2 (by rw [HL.out]; omega))
    have q3 := hR3.c18
    clear hR3 hC3 hD3 hV3 hDV3 hT3 hat hat2 p0 p17 p18 q0 q17 q18
    have HBB := Lib.hid (show ∀ X, KeepT (Turn c dp (.slice (some ⟨g, 0, none⟩) 1 cp) (.slice (some ⟨g2, 0, none⟩) 1 cp2)) w3 X → Below B w X from fun X hx => by
      have z12 := Nat.le_trans HZ1.out HB2.out.size
      have b1 : Below B w w1 := HK1.out.below hB (fun x hx => by unfold Only at hx; omega)
      have b2 : Below B w1 w2 := HB2.out.mono (Nat.le_trans hB HZ1.out)
      have b3 : Below B w2 w3 := HK3.out.below (by omega) (fun x hx => by rcases turn_nil hx with rfl | rfl <;> assumption)
      have b4 : Below B w3 X := hx.below (Nat.le_trans hB HZ3.out) (fun x hx => by
        rcases hx with rfl | rfl | hx | hx
        · exact hBc
        · exact hBp
        · have := own_eq hx
          omega
        · have := own_eq hx
          omega)
      exact ((b1.trans b2).trans b3).trans b4)
    go_wp2_with fail
    refine HLY.out.mono ?_
    rintro e w4 ⟨rfl, t4, g4, cp4, hR4, hC4, ⟨S4, hs4, hT4⟩, hk4⟩
    have HR4 := Lib.hid hR4
    have HC4 := Lib.hid hC4
    have HT4 := Lib.hid hT4
    have HK4 := Lib.hid (HBB.out _ hk4)
    clear hR4 hC4 hT4 hk4
    go_wp2_with fail
    go_returns
    refine ⟨rfl, t4, g4, cp4, 2, HR4.out, by rw [← HL.out]; exact HC4.out, ⟨S4, _, hs4, HT4.out, hF2, ?_⟩, HK4.out⟩
    have := tabSpl_len (tabSpl ps ⟨((i - 1 : Nat) : Int), ((j - i + 1 : Nat) : Int), []⟩) ⟨(MK : Int), 0, L⟩
    omega
  · have g1 : decide (i ≤ d) = false := decide_eq_false (by omega)
    have g3 : ¬ (i : Int) ≤ (d : Int) := by omega
    have g5 : ((d : Int) == (j : Int)) = false := by rw [beq_eq_false_iff_ne]; omega
    have g6 : ((d : Int) == ((i - 1 : Nat) : Int)) = false := by rw [beq_eq_false_iff_ne]; omega
    have g7 : (d == j) = false := by rw [beq_eq_false_iff_ne]; omega
    have g8 : (d == i - 1) = false := by rw [beq_eq_false_iff_ne]; omega
    have g9 : ¬ (j : Int) < (d : Int) := by omega
    have hkd : moveK i j d = d := by unfold moveK; rw [if_neg (by omega)]
    rw [hkd] at hE2 hF2
    clear hkd hL
    have hcp : c ≠ dp := fun h => by
      have h1 := HC.out
      have h2 := HV.out
      unfold CoreB at h1
      unfold DidB at h2
      rw [h] at h1
      rw [h1] at h2
      simp only [Option.some.injEq, Obj.cells.injEq] at h2
      exact absurd h2.2.1 (by decide)
    go_enter Tryz.func119, Tryz.ntmps119
    go_wp2_with fail
    refine HDE.out.mono ?_
    rintro e w1 ⟨rfl, hR1, hC1, hk1⟩
    have HR1 := Lib.hid hR1
    have HC1 := Lib.hid hC1
    have HK1 := Lib.hid hk1
    have HT1 := Lib.hid (HT.out.kept (hk1.mono (fun x _ hx => by unfold Only at hx; subst hx; exact hSc)))
    have HV1 := Lib.hid (show DidB w1 dp (.slice none 0 0) from (hk1.block dp (lt_of_heap HV.out) (by unfold Only; exact fun h => hcp h.symm)).trans HV.out)
    have HZ1 := Lib.hid hk1.size
    have q0 := hR1.c0
    have q17 := hR1.c17
    have q18 := hR1.c18
    clear hR1 hC1 hk1
    go_wp2_with fail
    have HLN := Lib.hid (fun (X : World) (hb : Below w1.heap.size w1 X) => coreLines_of (⟨(HC1.out.later hb).c0, (HC1.out.later hb).c1, HT1.out.later hb, by omega, by omega⟩ : CoreOf S X c t (k : Int) ps) i j h1 h2 h3)
    rw [show (ps.flatten.drop (i - 1)).take (j - (i - 1)) = L from HLL.out.symm] at HLN
    have HX := Lib.hid (Below.refl w1.heap.size w1)
    go_region_held3 (fun w' => w'.cell? ⟨rb, 0, none⟩ = some (.pointer (some ⟨c, 0, none⟩)) ∧ w'.cell? ⟨rb, 17, none⟩ = some (.int .i64 (i : Int)) ∧ w'.cell? ⟨rb, 18, none⟩ = some (.int .i64 (j : Int)))
      (first | exact ⟨q0, q17, q18⟩ | exact ⟨p0, p17, p18⟩ | go_keep)
      (first
        | ((with_reducible refine (HLN.out _ HX.out.drew).mono ?_); rintro e w2 ⟨v, rfl, ho, hb2⟩; obtain ⟨la, lc, hv2⟩ := ownsRow_shape ho; subst hv2
           have HB2 := Lib.hid (HX.out.drew.trans hb2)
           have HO2 := Lib.hid (own_slA (S := Turn c dp (.slice none 0 0) (.slice none 0 0)) rfl ho (fun x hx => by
             rcases turn_nil hx with rfl | rfl
             · exact HC1.out.lt
             · exact lt_of_heap HV1.out))
           have p0 := (HR1.out.later HB2.out).c0
           have p17 := (HR1.out.later HB2.out).c17
           have p18 := (HR1.out.later HB2.out).c18
           clear ho hb2)
        | (fail "no arm"))
    have hsp := (runSplice_ok (S := S) (w := w2) (dn := .slice none 0 0) (dv := .slice none 0 0) (k := k) (p := i - 1) (dl := L.length) (m := 0) (mv := 0) (ins := []) (ai := none) (ci := 0) (Nat.le_trans hw (Nat.le_trans HZ1.out HB2.out.size)) (HR1.out.later HB2.out) (HC1.out.later HB2.out) (HT1.out.later HB2.out) (DoneOf.nil _) (show DidB w2 dp _ from (HB2.out.block dp (lt_of_heap HV1.out)).trans HV1.out) (DoneOf.nil _) (slOf_none _)
      (fun x hx => Nat.lt_of_lt_of_le (hS x hx) (Nat.le_trans HZ1.out HB2.out.size)) hSc hSp (fun g hg => by cases hg) (fun g hg => by cases hg) (fun g hg => by cases hg) hcr (by omega) hk hM (by omega) (by omega) (by rw [HL.out]; exact hE1))
    simp only [List.length_nil] at hsp
    have HSP := Lib.hid hsp
    clear hsp
    go_wp2_with fail
    refine HSP.out.mono ?_
    rintro e w3 ⟨rfl, t3, g, cp, g2, cp2, hR3, hC3, hD3, hV3, hDV3, hT3, hat, hat2, hne, hlt, hlt2, hk3⟩
    rw [HL.out] at hC3 hT3
    have HR3 := Lib.hid hR3
    have HK3 := Lib.hid hk3
    have HO3 := Lib.hid (HO2.out.kept hk3)
    have hgw : w2.heap.size ≤ g := by rcases hat with h | h; cases h; exact h
    have hgw2 : w2.heap.size ≤ g2 := by rcases hat2 with h | h; cases h; exact h
    have HZ3 := Lib.hid (Nat.le_trans HZ1.out (Nat.le_trans HB2.out.size hk3.size))
    have HLY := Lib.hid (runLay_ok (S := fun x => (S x ∨ x = g) ∨ x = g2) (w := w3) (k := curS k (i - 1) (j - i + 1) 0 (manyS (tabSpl ps ⟨((i - 1 : Nat) : Int), ((j - i + 1 : Nat) : Int), []⟩))) (p := d) (m := 1) (mv := 1) (ins := L) (ai := la) (ci := lc) (Nat.le_trans hw HZ3.out) hR3 hC3 hT3 hD3 hV3 hDV3 HO3.out.1
      (fun x hx => by
        rcases hx with (hx | rfl) | rfl
        · exact Nat.lt_of_lt_of_le (hS x hx) HZ3.out
        · exact hlt
        · exact hlt2) (.inl (.inl hSc)) (.inl (.inl hSp)) (fun x hx => .inl (.inr (own_eq hx))) (fun x hx => .inr (own_eq hx)) (fun x hx hy => by
        exact hne ((own_eq hx).symm.trans (own_eq hy))) hcr (by have := hl1; omega) (curS_le hk (by omega) (by rw [hN1]; simp)) (by rw [hN1]; omega) (by omega) (by omega) hE2 (by rw [HL.out]; omega))
    have q3 := hR3.c18
    clear hR3 hC3 hD3 hV3 hDV3 hT3 hat hat2 p0 p17 p18 q0 q17 q18
    have HBB := Lib.hid (show ∀ X, KeepT (Turn c dp (.slice (some ⟨g, 0, none⟩) 1 cp) (.slice (some ⟨g2, 0, none⟩) 1 cp2)) w3 X → Below B w X from fun X hx => by
      have z12 := Nat.le_trans HZ1.out HB2.out.size
      have b1 : Below B w w1 := HK1.out.below hB (fun x hx => by unfold Only at hx; omega)
      have b2 : Below B w1 w2 := HB2.out.mono (Nat.le_trans hB HZ1.out)
      have b3 : Below B w2 w3 := HK3.out.below (by omega) (fun x hx => by rcases turn_nil hx with rfl | rfl <;> assumption)
      have b4 : Below B w3 X := hx.below (Nat.le_trans hB HZ3.out) (fun x hx => by
        rcases hx with rfl | rfl | hx | hx
        · exact hBc
        · exact hBp
        · have := own_eq hx
          omega
        · have := own_eq hx
          omega)
      exact ((b1.trans b2).trans b3).trans b4)
    go_wp2_with fail
    refine HLY.out.mono ?_
    rintro e w4 ⟨rfl, t4, g4, cp4, hR4, hC4, ⟨S4, hs4, hT4⟩, hk4⟩
    have HR4 := Lib.hid hR4
    have HC4 := Lib.hid hC4
    have HT4 := Lib.hid hT4
    have HK4 := Lib.hid (HBB.out _ hk4)
    clear hR4 hC4 hT4 hk4
    go_wp2_with fail
    go_returns
    refine ⟨rfl, t4, g4, cp4, 2, HR4.out, by rw [← HL.out, show moveK i j d = d by unfold moveK; rw [if_neg (by omega)]]; exact HC4.out, ⟨S4, _, hs4, HT4.out, hF2, ?_⟩, HK4.out⟩
    have := tabSpl_len (tabSpl ps ⟨((i - 1 : Nat) : Int), ((j - i + 1 : Nat) : Int), []⟩) ⟨(d : Int), 0, L⟩
    omega
end
end Go.Proofs.YtdljidgmdjndgaaGreatDoor
