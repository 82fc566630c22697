/- runs: a command that moves lines, done. -/
import Derived.Test.YtdljidgmdjndgaaGreatDoorMo1
import Derived.Test.YtdljidgmdjndgaaGreatDoorCoB
namespace Go.Proofs.YtdljidgmdjndgaaGreatDoor
open Go Go.Proofs Go.RowKit Go.Ink Go.Sort

/-- A change that is being made: its lines, the current one. -/
def MidB (w w' : World) (B rb c r : Nat) (dirty : Bool) (undo held : Option Addr) (was : Addr) (F : List Line) (cur : Nat) : Prop :=
  ∃ t' a n cp, (∃ lv sv d i j m dp, RunB w' rb c lv sv d i j m dp) ∧ CoreB w' c t' (cur : Int) [] r dirty undo (some was) held (.slice a n cp) ∧ (∃ (S' : Nat → Prop) (ps' : List (List Line)), S' c ∧ TabOf S' w' t' ps' ∧ ps'.flatten = F ∧ ps'.length ≤ 100000) ∧ Below B w w'
section
variable {S : Nat → Prop} {w w' : World} {rb c t : Nat} {lv sv : Value} {dp : Nat} {r : Nat} {dirty : Bool} {undo held : Option Addr} {was : Addr} {ps : List (List Line)}
theorem runMove_all {B i j d k : Nat} (hw : 6 ≤ w.heap.size) (h : RunB w rb c lv sv d (i : Int) (j : Int) 2 dp) (hc : CoreB w c t (k : Int) [] r dirty undo (some was) held (.slice none 0 0)) (ht : TabOf S w t ps) (hv : DidB w dp (.slice none 0 0))
    (hS : ∀ x, S x → x < w.heap.size) (hSc : S c) (hSp : S dp) (hcr : c ≠ rb) (hps : ps.length ≤ 1000) (hk : k ≤ manyS ps) (hM : manyS ps ≤ 2000) (hck : checkL ps.flatten = 0)
    (h1 : 1 ≤ i) (h2 : i ≤ j) (h3 : j ≤ manyS ps) (h4 : d ≤ manyS ps) (h5 : ¬ (i ≤ d ∧ d < j)) (hB : B ≤ w.heap.size) (hBc : B ≤ c) (hBp : B ≤ dp) :
    Calls Tryz.prog 119 #[.pointer (some ⟨rb, 0, none⟩)] w fun e w' => e = .returned (.int .i64 0) ∧ MidB w w' B rb c r dirty undo held was (moveW ps.flatten i j d) (moveK i j d + (j - i + 1)) := by
  by_cases h6 : d = j ∨ d = i - 1
  · have hs := move_same h1 h2 (by rw [← manyS_flat]; exact h3) h6
    rw [hs.1, hs.2]
    refine (runMove_same h hc ht hSc hcr (by omega) (by omega) h1 h2 h3 h6).mono ?_
    rintro e w1 ⟨rfl, hR, hC, hk⟩
    exact ⟨rfl, t, none, 0, 0, ⟨_, _, _, _, _, _, _, hR⟩, hC, ⟨S, ps, hSc, ht.kept (hk.mono (fun x _ hx => by unfold Only at hx; subst hx; exact hSc)), rfl, by omega⟩, hk.below hB (fun x hx => by unfold Only at hx; omega)⟩
  · refine (runMove_ok (B := B) hw h hc ht hv hS hSc hSp hcr hps hk hM hck h1 h2 h3 h4 (by omega) hB hBc hBp).mono ?_
    rintro e w1 ⟨rfl, t', g, cp, n, hR, hC, hT, hb⟩
    exact ⟨rfl, t', _, n, cp, ⟨_, _, _, _, _, _, _, hR⟩, hC, hT, hb⟩
set_option maxRecDepth 100000 in
theorem runAct_m {R : Int → World → Prop} (h : w.cell? ⟨rb, 3, none⟩ = some (.int .u8 109)) (hm : Calls Tryz.prog 119 #[.pointer (some ⟨rb, 0, none⟩)] w fun e w' => ∃ x, e = .returned (.int .i64 x) ∧ R x w') :
    Calls Tryz.prog 78 #[.pointer (some ⟨rb, 0, none⟩)] w fun e w' => ∃ x, e = .returned (.int .i64 x) ∧ R x w' := by
  have HM := Lib.hid hm
  clear hm
  go_enter Tryz.func78, Tryz.ntmps78
  go_wp2_with fail
  refine HM.out.mono ?_
  rintro e w1 ⟨x, rfl, hx⟩
  have HX := Lib.hid hx
  clear hx
  go_wp2_with fail
  go_returns
  exact ⟨x, rfl, HX.out⟩
set_option maxRecDepth 100000 in
/-- What goes wrong is told. -/
theorem runDoes_err {R : World → Prop} {F : World → Prop} (hf : Calls Tryz.prog 77 #[.pointer (some ⟨rb, 0, none⟩)] w fun e w' => e = .returned (.int .i64 0) ∧ F w')
    (ha : ∀ w1, F w1 → Calls Tryz.prog 78 #[.pointer (some ⟨rb, 0, none⟩)] w1 fun e w' => e = .returned (.int .i64 212) ∧ R w') :
    Calls Tryz.prog 54 #[.pointer (some ⟨rb, 0, none⟩)] w fun e w' => e = .returned (.int .i64 212) ∧ R w' := by
  have HF := Lib.hid hf
  have HA := Lib.hid ha
  clear hf ha
  go_enter Tryz.func54, Tryz.ntmps54
  go_wp2_with fail
  refine HF.out.mono ?_
  rintro e w1 ⟨rfl, h1⟩
  have H1 := Lib.hid h1
  clear h1
  go_wp2_with fail
  refine (HA.out w1 H1.out).mono ?_
  rintro e w2 ⟨rfl, h2⟩
  have H2 := Lib.hid h2
  clear h2
  go_wp2_with fail
  go_returns
  exact ⟨rfl, H2.out⟩
set_option maxRecDepth 100000 in
theorem runDoes_ok {B cur : Nat} {L : List Line} {F : World → Prop} (hf : Calls Tryz.prog 77 #[.pointer (some ⟨rb, 0, none⟩)] w fun e w' => e = .returned (.int .i64 0) ∧ F w') (hF : ∀ w1, F w1 → Below B w w1)
    (hLn : L.length ≤ 1000000) (ha : ∀ w1, F w1 → Calls Tryz.prog 78 #[.pointer (some ⟨rb, 0, none⟩)] w1 fun e w' => e = .returned (.int .i64 0) ∧ MidB w1 w' B rb c r dirty undo held was L cur) :
    Calls Tryz.prog 54 #[.pointer (some ⟨rb, 0, none⟩)] w fun e w' => e = .returned (.int .i64 0) ∧ MidB w w' B rb c r dirty undo held was L cur := by
  have HF := Lib.hid hf
  have HA := Lib.hid ha
  have HFB := Lib.hid hF
  clear hf ha hF
  go_enter Tryz.func54, Tryz.ntmps54
  go_wp2_with fail
  refine HF.out.mono ?_
  rintro e w1 ⟨rfl, h1⟩
  have H1 := Lib.hid h1
  clear h1
  go_wp2_with fail
  refine (HA.out w1 H1.out).mono ?_
  rintro e w2 ⟨rfl, t', a, n, cp, ⟨lv, sv, d, i, j, m, dp, hR⟩, hC, ⟨S', ps', hs, hT, hfl, hln⟩, hb⟩
  have HM := Lib.hid (show MidB w w2 B rb c r dirty undo held was L cur from ⟨t', a, n, cp, ⟨lv, sv, d, i, j, m, dp, hR⟩, hC, ⟨S', ps', hs, hT, hfl, hln⟩, (HFB.out w1 H1.out).trans hb⟩)
  have HC := Lib.hid (⟨hC.c0, hC.c1, hT, hln, by rw [manyS_flat, hfl]; exact hLn⟩ : CoreOf S' w2 c t' (cur : Int) ps')
  have q0 := hR.c0
  have q15 := hR.c15
  clear hR hC hT hfl hln hb hs
  go_wp2_with fail
  refine (coreCur_of HC.out).mono ?_
  rintro e w3 ⟨rfl, rfl⟩
  go_wp2_with fail
  go_returns
  exact ⟨rfl, HM.out⟩
end
end Go.Proofs.YtdljidgmdjndgaaGreatDoor
/- runs: the small calls of Run. -/
namespace Go.Proofs.YtdljidgmdjndgaaGreatDoor
open Go Go.Proofs Go.Ev Go.RowKit Go.Ink Go.Sort

theorem coreRegs_of {w : World} {c t : Nat} {cur : Int} {last : List UInt8} {r : Nat} {dirty : Bool} {undo was held : Option Addr} {dn : Value} (h : CoreB w c t cur last r dirty undo was held dn) :
    Calls Tryz.prog 27 #[.pointer (some ⟨c, 0, none⟩)] w fun e w' => e = .returned (.pointer (some ⟨r, 0, none⟩)) ∧ w' = w := by
  have HN := Lib.hid (coreNone_b h.c0)
  have e29 := h.c29
  clear h
  go_enter Tryz.func27, Tryz.ntmps27
  go_wp2_with fail
  refine HN.out.mono ?_
  rintro e w1 ⟨rfl, rfl⟩
  go_wp2_with fail
  go_returns
  exact ⟨rfl, rfl⟩
/-- A command 'm', as a value. -/
def cmdM (lv sv : Value) (d : Nat) : Value := .agg #[lv, sv, .int .u8 109, .int .i64 3, .int .i64 (d : Int), .string ⟨#[]⟩, .int .i64 0, .int .u8 0, .string ⟨#[]⟩, .string ⟨#[]⟩, .bool false, .int .i64 0, .string ⟨#[]⟩, .string ⟨#[]⟩, .int .u8 0]
set_option maxRecDepth 100000 in
theorem mine_run : isTrue (runTop Tryz.prog hooks23 [] 3000 60 51 [.agg [.opq 0, .opq 1, .int .u8 109, .int .i64 3, .opq 2, .str 0 0, .int .i64 0, .int .u8 0, .str 0 0, .str 0 0, .bool false, .int .i64 0, .str 0 0, .str 0 0, .int .u8 0]] (h0 6)) = true := by decide +kernel
def mnX (a b c : Value) : Nat → Value
  | 0 => a
  | 1 => b
  | _ => c
theorem mine_m {w : World} (hw : 6 ≤ w.heap.size) (la : Option Addr) (n cap : Nat) (sa : Option Addr) (m scap d : Nat) :
    Calls Tryz.prog 51 #[cmdM (.slice la n cap) (.slice sa m scap) d] w fun e w' => e = .returned (.bool true) ∧ Below w.heap.size w w' := by
  refine true_args no_count mixed hooks23_ok (by intro p hp; cases hp) mine_run (vars_ro _) (ξ := mnX (.slice la n cap) (.slice sa m scap) (.int .i64 (d : Int))) (vars_rep hw) (vars_glob (by kernel_rfl)) (DenL.one ?_)
  unfold cmdM
  simp only [Den]
  refine ⟨_, rfl, ?_⟩
  have hs : Den (mnX (.slice la n cap) (.slice sa m scap) (.int .i64 (d : Int))) (vars 6) (.str 0 0) (.string ⟨#[]⟩) := by
    simp only [Den]
    exact ⟨by decide, rfl⟩
  have ho : ∀ (G : Gh) (i : Nat) (x : Value), x = mnX (.slice la n cap) (.slice sa m scap) (.int .i64 (d : Int)) i → (∀ cs, x ≠ .agg cs) → Den (mnX (.slice la n cap) (.slice sa m scap) (.int .i64 (d : Int))) G (.opq i) x := fun G i x h1 h2 => by
    simp only [Den]
    exact ⟨h1, h2⟩
  exact DenL.cons (ho _ 0 _ rfl (by simp)) (DenL.cons (ho _ 1 _ rfl (by simp)) (DenL.cons (by simp [Den]) (DenL.cons (by simp [Den]) (DenL.cons (ho _ 2 _ rfl (by simp)) (DenL.cons hs (DenL.cons (by simp [Den]) (DenL.cons (by simp [Den]) (DenL.cons hs (DenL.cons hs (DenL.cons (by simp [Den]) (DenL.cons (by simp [Den]) (DenL.cons hs (DenL.cons hs (DenL.one (by simp [Den])))))))))))))))
theorem bdrString_nil {w : World} {rb : Nat} (h : w.cell? ⟨rb, 21, none⟩ = some (.slice none 0 0)) : Calls Tryz.prog 56 #[.pointer (some ⟨rb, 20, none⟩)] w fun e w' => e = .returned (.string ⟨#[]⟩) ∧ Below w.heap.size w w' := by
  have hq1 : ∀ X : World, (Builtin.unsafeSliceData_ #[31] 132 #[.slice none 0 0]).run Tryz.prog X = .ok (.pointer none) X := fun X => by kernel_rfl
  have hq2 : ∀ X : World, (Builtin.unsafeString_ #[132, 3] 9 #[.pointer none, .int .i64 0]).run Tryz.prog X = .ok (.string ⟨#[]⟩) X := fun X => by kernel_rfl
  go_enter Tryz.func56, Tryz.ntmps56
  go_wp2_with fail
  go_region_held3 (fun w' => w'.cell? ⟨rb, 21, none⟩ = some (.slice none 0 0))
    (first | exact h | go_keep)
    (fail "no arm")
  go_wp2_with fail
  go_returns
  exact ⟨rfl, (Below.refl _ _).drew⟩
end Go.Proofs.YtdljidgmdjndgaaGreatDoor
/- runs.Run at a command that moves lines. -/
namespace Go.Proofs.YtdljidgmdjndgaaGreatDoor
open Go Go.Proofs Go.RowKit Go.Ink Go.Sort

section
variable {S : Nat → Prop} {w w' : World} {rb c t : Nat} {sv : Value} {dp lb lc2 : Nat} {r : Nat} {dirty : Bool} {undo held : Option Addr} {was : Addr} {ps : List (List Line)}
theorem block_ne {w : World} {x y : Nat} {cs cs' : Array Value} {T T' : TypeId} {fr fr' : Nat × Nat} (h1 : w.heap[x]? = some (.cells cs T fr)) (h2 : w.heap[y]? = some (.cells cs' T' fr')) (h : T ≠ T') : x ≠ y := fun e => by
  subst e
  rw [h1] at h2
  simp only [Option.some.injEq, Obj.cells.injEq] at h2
  exact h h2.2.1
theorem doesM_ok {B i j d k : Nat} (hw : 6 ≤ w.heap.size) (h : RunB w rb c (.slice (some ⟨lb, 0, none⟩) 2 lc2) sv d 0 0 0 dp) (hc : CoreB w c t (k : Int) [] r dirty undo (some was) held (.slice none 0 0)) (ht : TabOf S w t ps) (hv : DidB w dp (.slice none 0 0)) (hr : NumRow w lb [i, j]) (hsv : NoSemi w sv) (hlc : 2 ≤ lc2) (hlm : lc2 ≤ maxLen)
    (hS : ∀ x, S x → x < w.heap.size) (hSc : S c) (hSr : S rb) (hSp : S dp) (hps : ps.length ≤ 1000) (hk : k ≤ manyS ps) (hM : manyS ps ≤ 2000) (hck : checkL ps.flatten = 0)
    (h1 : 1 ≤ i) (h2 : i ≤ j) (h3 : j ≤ manyS ps) (h4 : d ≤ manyS ps) (h5 : ¬ (i ≤ d ∧ d < j)) (hB : B ≤ w.heap.size) (hBc : B ≤ c) (hBr : B ≤ rb) (hBp : B ≤ dp) :
    Calls Tryz.prog 54 #[.pointer (some ⟨rb, 0, none⟩)] w fun e w' => e = .returned (.int .i64 0) ∧ MidB w w' B rb c r dirty undo held was (moveW ps.flatten i j d) (moveK i j d + (j - i + 1)) := by
  have hcr : c ≠ rb := block_ne hc h (by decide)
  have hpc : dp ≠ c := block_ne hv hc (by decide)
  have hpr : dp ≠ rb := block_ne hv h (by decide)
  have hWl : (moveW ps.flatten i j d).length ≤ 1000000 := by
    have hl := manyS_flat ps
    unfold moveW moveL moveR
    simp only [List.length_append, List.length_take, List.length_drop]
    omega
  refine runDoes_ok (F := fun w1 => RunB w1 rb c (.slice (some ⟨lb, 0, none⟩) 2 lc2) sv d (i : Int) (j : Int) 2 dp ∧ CoreB w1 c t (k : Int) [] r dirty undo (some was) held (.slice none 0 0) ∧ KeepT (Two2 c rb) w w1) ((runFind_ok h hc ht hr hsv hlc hlm hSc hSr hcr (by omega) (by omega) h1 h2 h3).mono ?_) ?_ hWl ?_
  · rintro e w1 ⟨rfl, a1, a2, a3⟩
    exact ⟨rfl, a1, a2, a3⟩
  · rintro w1 ⟨_, _, a3⟩
    exact a3.below hB (fun x hx => by rcases hx with rfl | rfl <;> assumption)
  · rintro w1 ⟨a1, a2, a3⟩
    have hT1 := ht.kept (a3.mono (fun x _ hx => by rcases hx with rfl | rfl <;> assumption))
    have hV1 : DidB w1 dp (.slice none 0 0) := (a3.block dp (lt_of_heap hv) (by rintro (h | h); exact hpc h; exact hpr h)).trans hv
    refine (runAct_m (R := fun x w' => x = 0 ∧ MidB w1 w' B rb c r dirty undo held was (moveW ps.flatten i j d) (moveK i j d + (j - i + 1))) a1.c3 ((runMove_all (Nat.le_trans hw a3.size) a1 a2 hT1 hV1 (fun x hx => Nat.lt_of_lt_of_le (hS x hx) a3.size) hSc hSp hcr hps hk hM hck h1 h2 h3 h4 h5 (Nat.le_trans hB a3.size) hBc hBp).mono ?_)).mono ?_
    · rintro e w2 ⟨rfl, hm⟩
      exact ⟨0, rfl, rfl, hm⟩
    · rintro e w2 ⟨x, rfl, rfl, hm⟩
      exact ⟨rfl, hm⟩
theorem doesM_no {i j d k : Nat} (h : RunB w rb c (.slice (some ⟨lb, 0, none⟩) 2 lc2) sv d 0 0 0 dp) (hc : CoreB w c t (k : Int) [] r dirty undo (some was) held (.slice none 0 0)) (ht : TabOf S w t ps) (hr : NumRow w lb [i, j]) (hsv : NoSemi w sv) (hlc : 2 ≤ lc2) (hlm : lc2 ≤ maxLen)
    (hSc : S c) (hSr : S rb) (hps : ps.length ≤ 1000) (hM : manyS ps ≤ 2000) (h1 : 1 ≤ i) (h2 : i ≤ j) (h3 : j ≤ manyS ps) (h4 : d ≤ manyS ps) (h5 : i ≤ d) (h6 : d < j) :
    Calls Tryz.prog 54 #[.pointer (some ⟨rb, 0, none⟩)] w fun e w' => e = .returned (.int .i64 212) ∧ CoreB w' c t (k : Int) [] r dirty undo (some was) held (.slice none 0 0) ∧ KeepT (Two2 c rb) w w' := by
  have hcr : c ≠ rb := block_ne hc h (by decide)
  refine runDoes_err (F := fun w1 => RunB w1 rb c (.slice (some ⟨lb, 0, none⟩) 2 lc2) sv d (i : Int) (j : Int) 2 dp ∧ CoreB w1 c t (k : Int) [] r dirty undo (some was) held (.slice none 0 0) ∧ KeepT (Two2 c rb) w w1) ((runFind_ok h hc ht hr hsv hlc hlm hSc hSr hcr (by omega) (by omega) h1 h2 h3).mono ?_) ?_
  · rintro e w1 ⟨rfl, a1, a2, a3⟩
    exact ⟨rfl, a1, a2, a3⟩
  · rintro w1 ⟨a1, a2, a3⟩
    have hT1 := ht.kept (a3.mono (fun x _ hx => by rcases hx with rfl | rfl <;> assumption))
    refine (runAct_m (R := fun x w' => x = 212 ∧ CoreB w' c t (k : Int) [] r dirty undo (some was) held (.slice none 0 0) ∧ KeepT (Two2 c rb) w w') a1.c3 ((runMove_no a1 a2 hT1 hcr (by omega) (by omega) (by omega) h4 h5 h6).mono ?_)).mono ?_
    · rintro e w2 ⟨rfl, _, b2, b3⟩
      exact ⟨212, rfl, rfl, b2, a3.trans b3 (fun x _ hx => .inl hx)⟩
    · rintro e w2 ⟨x, rfl, rfl, hm⟩
      exact ⟨rfl, hm⟩
end
end Go.Proofs.YtdljidgmdjndgaaGreatDoor
/- runs.Run at a command that moves lines, walked. -/
namespace Go.Proofs.YtdljidgmdjndgaaGreatDoor
open Go Go.Proofs Go.RowKit Go.Ink Go.Sort

theorem NumRow.kept {S : Nat → Prop} {w w' : World} {b : Nat} {ns : List Nat} (h : NumRow w b ns) (hk : KeepT S w w') (hn : ¬ S b) : NumRow w' b ns := fun k i hi => by
  obtain ⟨h0, h1, h2, h3⟩ := h k i hi
  exact ⟨(hk.cell (p := ⟨b, k * 4, none⟩) (lt_of_cell h0) hn).trans h0, (hk.cell (p := ⟨b, k * 4 + 1, none⟩) (lt_of_cell h1) hn).trans h1, (hk.cell (p := ⟨b, k * 4 + 2, none⟩) (lt_of_cell h2) hn).trans h2, (hk.cell (p := ⟨b, k * 4 + 3, none⟩) (lt_of_cell h3) hn).trans h3⟩
theorem NoSemi.kept {S : Nat → Prop} {w w' : World} {sv : Value} (h : NoSemi w sv) (hk : KeepT S w w') (hn : ∀ b, sv = .slice (some ⟨b, 0, none⟩) 1 1 → ¬ S b) : NoSemi w' sv := by
  rcases h with h | ⟨b, h, hc⟩
  · exact .inl h
  · exact .inr ⟨b, h, (hk.cell (p := ⟨b, 0, none⟩) (lt_of_cell hc) (hn b h)).trans hc⟩
/-- The cells of a command 'm'. -/
def cmdL (lv sv : Value) (d : Nat) : List Value := [lv, sv, .int .u8 109, .int .i64 3, .int .i64 (d : Int), .string ⟨#[]⟩, .int .i64 0, .int .u8 0, .string ⟨#[]⟩, .string ⟨#[]⟩, .bool false, .int .i64 0, .string ⟨#[]⟩, .string ⟨#[]⟩, .int .u8 0]
theorem build_run (c lb lc2 d p : Nat) (sa : Option Addr) (m sc : Nat) (X : World) : (Instr.build 111 #[(0, .pointer (some ⟨c, 0, none⟩)), (1, .agg (cmdL (.slice (some ⟨lb, 0, none⟩) 2 lc2) (.slice sa m sc) d).toArray), (2, .slice none 0 0), (7, .pointer (some ⟨p, 0, none⟩))]).run Tryz.prog X = .ok (.agg (runCells c (.slice (some ⟨lb, 0, none⟩) 2 lc2) (.slice sa m sc) d 0 0 0 p)) X := by
  kernel_rfl
theorem runCells_one (c d p : Nat) {lb lc2 : Nat} {sv : Value} (h : sv.oneCell' = true) : (runCells c (.slice (some ⟨lb, 0, none⟩) 2 lc2) sv d 0 0 0 p).all (·.oneCell') = true := by
  unfold runCells
  rw [List.all_toArray]
  simp only [List.all_cons, List.all_nil, h]
  rfl
theorem wpList_build_at {P : Program} {ops : Array Oper} {rest : List Oper} {o : Oper} {a : Act} {w : World} {Q : Exit → Act → World → Prop} (hgd : o.guard = none) (t : TypeId) (i0 i1 i2 i3 : Nat) (x0 x1 x2 x3 : Operand)
    (ho : o.op = .build t #[(i0, x0), (i1, x1), (i2, x2), (i3, x3)]) (v0 v1 v2 v3 : Value) (h0 : a.eval x0 = v0) (h1 : a.eval x1 = v1) (h2 : a.eval x2 = v2) (h3 : a.eval x3 = v3) (v : Value)
    (hr : (Instr.build t #[(i0, v0), (i1, v1), (i2, v2), (i3, v3)]).run P w = .ok v w) (h : wpList P ops Q rest (a.put o.dst v) w) : wpList P ops Q (o :: rest) a w :=
  wpList_plain hgd fun _ hK => by
    unfold Oper.wp
    simp [execOp, ho, h0, h1, h2, h3, hr, Result.andThen]
    exact hK _ _ h
theorem there_new1 (w : World) (o : Obj) (c : Array Value) (T : TypeId) (n : Nat) (hs : c.size = n) : ((w.alloc o).alloc (.cells c T)).there (w.heap.size + 1) 0 n := by
  have h := there_new (w.alloc o) c T n hs
  rwa [show (w.alloc o).heap.size = w.heap.size + 1 by simp] at h
theorem setCells_new1 (w : World) (o : Obj) (c c' : Array Value) (T : TypeId) (hi : (Tryz.prog.info? T).map (·.size) = some c'.size) (hs : c.size = c'.size) (h1 : c'.all (·.oneCell') = true) :
    ((w.alloc o).alloc (.cells c T)).setCells (w.heap.size + 1) 0 c'.toList = (w.alloc o).alloc (.cells c' T) := by
  have h := setCells_new (w.alloc o) c c' T hi hs h1
  rwa [show (w.alloc o).heap.size = w.heap.size + 1 by simp] at h
/-- A buffer behind a change: its lines, the current one. -/
def EndB (w w' : World) (B c : Nat) (F : List Line) (cur : Nat) : Prop :=
  ∃ t' r' dirty' undo', CoreB w' c t' (cur : Int) [] r' dirty' undo' none none (.slice none 0 0) ∧ (∃ (S' : Nat → Prop) (ps' : List (List Line)), S' c ∧ TabOf S' w' t' ps' ∧ ps'.flatten = F ∧ ps'.length ≤ 100000) ∧ Below B w w'
section
variable {S : Nat → Prop} {w w' : World} {c t : Nat} {sv : Value} {lb lc2 : Nat} {r : Nat} {dirty : Bool} {undo : Option Addr} {dn : Value} {ps : List (List Line)}
set_option maxRecDepth 100000 in
set_option maxHeartbeats 2000000 in
theorem runsRun_ok {B i j d k : Nat} (hw : 6 ≤ w.heap.size) (hc : CoreB w c t (k : Int) [] r dirty undo none none dn) (hreg : NewRegs w r) (ht : TabOf S w t ps) (hr : NumRow w lb [i, j]) (hsv : NoSemi w sv) (hlb : lb ≠ c) (hsb : ∀ b, sv = .slice (some ⟨b, 0, none⟩) 1 1 → b ≠ c) (hlc : 2 ≤ lc2) (hlm : lc2 ≤ maxLen)
    (hS : ∀ x, S x → x < w.heap.size) (hSc : S c) (hps : ps.length ≤ 1000) (hk : k ≤ manyS ps) (hM : manyS ps ≤ 2000) (hck : checkL ps.flatten = 0)
    (h1 : 1 ≤ i) (h2 : i ≤ j) (h3 : j ≤ manyS ps) (h4 : d ≤ manyS ps) (h5 : ¬ (i ≤ d ∧ d < j)) (hB : B ≤ w.heap.size) (hBc : B ≤ c) :
    Calls Tryz.prog 38 #[.pointer (some ⟨c, 0, none⟩), cmdM (.slice (some ⟨lb, 0, none⟩) 2 lc2) sv d, .slice none 0 0] w fun e w' => ∃ v, e = .returned (.tuple #[.string ⟨#[]⟩, v, .int .i64 0]) ∧ EndB w w' B c (moveW ps.flatten i j d) (moveK i j d + (j - i + 1)) := by
  have hcw : c < w.heap.size := hc.lt
  have hMI : ∀ X : World, 6 ≤ X.heap.size → Calls Tryz.prog 51 #[cmdM (.slice (some ⟨lb, 0, none⟩) 2 lc2) sv d] X fun e w' => e = .returned (.bool true) ∧ Below X.heap.size X w' := fun X hX => by
    rcases hsv with rfl | ⟨_, rfl, _⟩
    · exact mine_m hX _ _ _ _ _ _ _
    · exact mine_m hX _ _ _ _ _ _ _
  have hsv1 : sv.oneCell' = true := by rcases hsv with rfl | ⟨_, rfl, _⟩ <;> rfl
  obtain ⟨CM, hCM⟩ : ∃ CM : List Value, CM = cmdL (.slice (some ⟨lb, 0, none⟩) 2 lc2) sv d := ⟨_, rfl⟩
  have hCI : (Tryz.prog.info? 64).map (·.size) = some CM.length := by rw [hCM]; kernel_rfl
  have hC2 : CM.toArray[2]? = some (.int .u8 109) := by rw [hCM]; rfl
  have hBL : ∀ (p : Nat) (X : World), (Instr.build 111 #[(0, .pointer (some ⟨c, 0, none⟩)), (1, .agg CM.toArray), (2, .slice none 0 0), (7, .pointer (some ⟨p, 0, none⟩))]).run Tryz.prog X = .ok (.agg (runCells c (.slice (some ⟨lb, 0, none⟩) 2 lc2) sv d 0 0 0 p)) X := fun p X => by
    rw [hCM]
    rcases hsv with rfl | ⟨_, rfl, _⟩
    · exact build_run _ _ _ _ _ _ _ _ _
    · exact build_run _ _ _ _ _ _ _ _ _
  rw [show cmdM (.slice (some ⟨lb, 0, none⟩) 2 lc2) sv d = .agg CM.toArray by rw [hCM]; rfl] at hMI ⊢
  obtain ⟨RC, hRC⟩ : ∃ RC : Nat → Array Value, RC = fun p => runCells c (.slice (some ⟨lb, 0, none⟩) 2 lc2) sv d 0 0 0 p := ⟨_, rfl⟩
  have hRI : ∀ p, (Tryz.prog.info? 111).map (·.size) = some (RC p).size := fun p => by rw [hRC]; kernel_rfl
  have hRS : ∀ p, (RC p).size = 23 := fun p => by rw [hRC]; rfl
  have hRO : ∀ p, (RC p).all (·.oneCell') = true := fun p => by
    rw [hRC]
    exact runCells_one _ _ _ hsv1
  have HBL := Lib.hid (show ∀ (p : Nat) (X : World), (Instr.build 111 #[(0, .pointer (some ⟨c, 0, none⟩)), (1, .agg CM.toArray), (2, .slice none 0 0), (7, .pointer (some ⟨p, 0, none⟩))]).run Tryz.prog X = .ok (.agg (RC p)) X from fun p X => by rw [hRC]; exact hBL p X)
  have HA := Lib.hid (below_alloc w (.cells CM.toArray 64))
  have HX := Lib.hid (heap_alloc_at w (.cells CM.toArray 64))
  have HC := Lib.hid hc
  have HT := Lib.hid ht
  have HN := Lib.hid hr
  have HV := Lib.hid hsv
  have HG := Lib.hid hreg
  have HMI := Lib.hid hMI
  have HCI := Lib.hid hCI
  have HC2' := Lib.hid hC2
  have HRI := Lib.hid hRI
  have HRS := Lib.hid hRS
  have HRO := Lib.hid hRO
  have HRC := Lib.hid hRC
  clear hc ht hr hsv hreg hMI hBL hCI hC2 hRI hRS hRO hRC hCM
  go_enter Tryz.func38, Tryz.ntmps38
  go_wp2_with fail
  generalize hwA : w.alloc _ = wA
  rw [hwA] at HA HX
  clear hwA
  have HCA := Lib.hid (HC.out.later HA.out)
  refine (coreRegs_of HCA.out).mono ?_
  rintro e w1 ⟨rfl, rfl⟩
  have HG1 := Lib.hid (show w1.rangeAt w.heap.size 0 CM from fun j v hj => by rw [Nat.zero_add, Lib.cell_of_heap HX.out]; simpa using hj)
  go_wp2_with (refine wpList_load_mid rfl 64 _ rfl w.heap.size 0 rfl CM _ HG1.out Tryz.underlying64 rfl HCI.out ?_)
  refine (HMI.out w1 (Nat.le_trans hw HA.out.size)).mono ?_
  rintro e w2 ⟨rfl, hb2⟩
  have HB2 := Lib.hid (HA.out.trans (hb2.mono HA.out.size))
  have HX2 := Lib.hid ((hb2.block _ (lt_of_heap HX.out)).trans HX.out)
  clear hb2
  have c2 : w2.cell? ⟨w.heap.size, 2, none⟩ = some (.int .u8 109) := by rw [Lib.cell_of_heap HX2.out]; exact HC2'.out
  have HC2 := Lib.hid (HC.out.later HB2.out)
  go_wp2_with fail
  refine (coreBegin_of HC2.out (HG.out.later HB2.out)).mono ?_
  rintro e wC ⟨rfl, s, hh, hC3, hs3, hg3, hsge, hhge, hk3⟩
  have hNC : ¬ Only c w.heap.size := by unfold Only; omega
  have hxC : wC.heap[w.heap.size]? = some (.cells CM.toArray 64 (0, 0)) := (hk3.block _ (lt_of_heap HX2.out) hNC).trans HX2.out
  have HGC := Lib.hid (show ∀ o : Obj, (wC.alloc o).rangeAt w.heap.size 0 CM from fun o j v hj => by rw [Nat.zero_add, Lib.cell_of_heap ((Below.heap_alloc wC o _ (lt_of_heap hxC)).trans hxC)]; simpa using hj)
  have HC3 := Lib.hid hC3
  have HS3 := Lib.hid hs3
  have HK3 := Lib.hid hk3
  have HT3 := Lib.hid ((HT.out.later HB2.out).kept (hk3.mono (fun x _ hx => by unfold Only at hx; subst hx; exact hSc)))
  have HN3 := Lib.hid ((HN.out.later HB2.out).kept hk3 (by unfold Only; exact hlb))
  have HV3 := Lib.hid ((HV.out.later HB2.out).kept hk3 (fun b hb => by unfold Only; exact hsb b hb))
  have HZ3 := Lib.hid (Nat.le_trans HB2.out.size hk3.size)
  have hslt : s < wC.heap.size := lt_of_heap hs3
  have hsc : s ≠ c := by have := HB2.out.size; omega
  clear hC3 hs3 hg3 hk3 hxC c2
  go_wp2_with (first
    | refine wpList_load_mid rfl 64 _ rfl w.heap.size 0 rfl CM _ (HGC.out _) Tryz.underlying64 rfl HCI.out ?_
    | refine wpList_build_at rfl 111 0 1 2 7 _ _ _ _ rfl (.pointer (some ⟨c, 0, none⟩)) (.agg CM.toArray) (.slice none 0 0) (.pointer (some ⟨wC.heap.size, 0, none⟩)) rfl rfl rfl rfl (.agg (RC wC.heap.size)) (HBL.out _ _) ?_
    | (refine wpList_store_mid rfl 111 _ _ rfl (wC.heap.size + 1) 0 (RC wC.heap.size) rfl rfl (there_new1 wC _ _ _ _ (by rw [HRS.out]; rfl)) (HRI.out _) (HRO.out _) ?_
       rw [setCells_new1 wC _ _ (RC wC.heap.size) 111 (HRI.out _) (by rw [HRS.out]; rfl) (HRO.out _)]))
  generalize hwE : (wC.alloc _).alloc _ = wE
  have HE := Lib.hid (show Below wC.heap.size wC wE from hwE ▸ ((below_alloc wC _).alloc (by simp) _))
  have HD := Lib.hid (show DidB wE wC.heap.size (.slice none 0 0) from hwE ▸ ((Below.heap_alloc _ _ _ (by simp)).trans (heap_alloc_at wC _)))
  have HR := Lib.hid (show RunB wE (wC.heap.size + 1) c (.slice (some ⟨lb, 0, none⟩) 2 lc2) sv d 0 0 0 wC.heap.size from hwE ▸ (by
    have h := heap_alloc_at (wC.alloc (.cells #[.slice none 0 0] 32)) (.cells (RC wC.heap.size) 111)
    rw [show (wC.alloc (.cells #[.slice none 0 0] 32)).heap.size = wC.heap.size + 1 by simp] at h
    unfold RunB
    rw [h, HRC.out]))
  clear hwE
  have HCE := Lib.hid (HC3.out.later HE.out)
  have HTE := Lib.hid ((HT3.out.apart (S' := fun x => (S x ∨ x = wC.heap.size) ∨ x = wC.heap.size + 1) (fun x hx => by
    rcases hx with (hx | rfl) | rfl
    · exact .inl hx
    · exact .inr (Nat.le_refl _)
    · exact .inr (Nat.le_succ _))).later HE.out)
  have hltE : wC.heap.size + 1 < wE.heap.size := HR.out.lt
  have HDO := Lib.hid (doesM_ok (B := B) (S := fun x => (S x ∨ x = wC.heap.size) ∨ x = wC.heap.size + 1) (Nat.le_trans hw (Nat.le_trans HZ3.out HE.out.size)) HR.out HCE.out HTE.out HD.out (HN3.out.later HE.out) (HV3.out.later HE.out) hlc hlm
    (fun x hx => by
      rcases hx with (hx | rfl) | rfl
      · exact Nat.lt_of_lt_of_le (hS x hx) (Nat.le_trans HZ3.out HE.out.size)
      · omega
      · exact hltE) (.inl (.inl hSc)) (.inr rfl) (.inl (.inr rfl)) hps hk hM hck h1 h2 h3 h4 h5 (Nat.le_trans hB (Nat.le_trans HZ3.out HE.out.size)) hBc (by have := HZ3.out; omega) (by have := HZ3.out; omega))
  refine HDO.out.mono ?_
  rintro e w5 ⟨rfl, t', a, n, cp, ⟨lv', sv', d', i', j', m', dp', hR5⟩, hC5, ⟨S', ps', hs', hT5, hfl, hln⟩, hb5⟩
  have HC5 := Lib.hid hC5
  have HT5 := Lib.hid hT5
  have HB5 := Lib.hid hb5
  have HFL := Lib.hid hfl
  have c21 : w5.cell? ⟨wC.heap.size + 1, 21, none⟩ = some (.slice none 0 0) := by rw [Lib.cell_of_heap hR5]; rfl
  clear hC5 hT5 hb5 hR5 hfl HDO
  go_wp2_with fail
  refine (bdrString_nil c21).mono ?_
  rintro e w6 ⟨rfl, hb6⟩
  have HB6 := Lib.hid hb6
  have HC6 := Lib.hid (HC5.out.later hb6)
  have HT6 := Lib.hid (HT5.out.later hb6)
  clear hb6
  go_wp2_with fail
  refine (coreEnd_of HC6.out).mono ?_
  rintro e w7 ⟨rfl, ⟨dirty', undo', hC7⟩, hk7⟩
  have HC7 := Lib.hid hC7
  have HK7 := Lib.hid hk7
  clear hC7 hk7
  go_wp2_with fail
  go_returns
  refine ⟨_, rfl, t', r, dirty', undo', HC7.out, ⟨S', ps', hs', HT6.out.kept (HK7.out.mono (fun x _ hx => by unfold Only at hx; subst hx; exact hs')), HFL.out, hln⟩, ?_⟩
  have z2 := HB2.out.size
  have z3 := HZ3.out
  have z5 := HB5.out.size
  have z6 := HB6.out.size
  have zE := HE.out.size
  have b3 : Below B w2 wC := HK3.out.below (by omega) (fun x hx => by unfold Only at hx; omega)
  have b7 : Below B w6 w7 := HK7.out.below (by omega) (fun x hx => by unfold Only at hx; omega)
  exact (((((HB2.out.mono hB).trans b3).trans (HE.out.mono (by omega))).trans HB5.out).trans (HB6.out.mono (by omega))).trans b7
set_option maxRecDepth 100000 in
set_option maxHeartbeats 2000000 in
theorem runsRun_no {B i j d k : Nat} (hw : 6 ≤ w.heap.size) (hc : CoreB w c t (k : Int) [] r dirty undo none none dn) (hreg : NewRegs w r) (ht : TabOf S w t ps) (hr : NumRow w lb [i, j]) (hsv : NoSemi w sv) (hlb : lb ≠ c) (hsb : ∀ b, sv = .slice (some ⟨b, 0, none⟩) 1 1 → b ≠ c) (hlc : 2 ≤ lc2) (hlm : lc2 ≤ maxLen)
    (_hS : ∀ x, S x → x < w.heap.size) (hSc : S c) (hps : ps.length ≤ 1000) (_hk : k ≤ manyS ps) (hM : manyS ps ≤ 2000) (_hck : checkL ps.flatten = 0)
    (h1 : 1 ≤ i) (h2 : i ≤ j) (h3 : j ≤ manyS ps) (h4 : d ≤ manyS ps) (h5 : i ≤ d ∧ d < j) (hB : B ≤ w.heap.size) (hBc : B ≤ c) :
    Calls Tryz.prog 38 #[.pointer (some ⟨c, 0, none⟩), cmdM (.slice (some ⟨lb, 0, none⟩) 2 lc2) sv d, .slice none 0 0] w fun e w' => e = .returned (.tuple #[.string ⟨#[]⟩, .slice none 0 0, .int .i64 212]) ∧ EndB w w' B c ps.flatten k := by
  have hcw : c < w.heap.size := hc.lt
  have hMI : ∀ X : World, 6 ≤ X.heap.size → Calls Tryz.prog 51 #[cmdM (.slice (some ⟨lb, 0, none⟩) 2 lc2) sv d] X fun e w' => e = .returned (.bool true) ∧ Below X.heap.size X w' := fun X hX => by
    rcases hsv with rfl | ⟨_, rfl, _⟩
    · exact mine_m hX _ _ _ _ _ _ _
    · exact mine_m hX _ _ _ _ _ _ _
  have hsv1 : sv.oneCell' = true := by rcases hsv with rfl | ⟨_, rfl, _⟩ <;> rfl
  obtain ⟨CM, hCM⟩ : ∃ CM : List Value, CM = cmdL (.slice (some ⟨lb, 0, none⟩) 2 lc2) sv d := ⟨_, rfl⟩
  have hCI : (Tryz.prog.info? 64).map (·.size) = some CM.length := by rw [hCM]; kernel_rfl
  have hC2 : CM.toArray[2]? = some (.int .u8 109) := by rw [hCM]; rfl
  have hBL : ∀ (p : Nat) (X : World), (Instr.build 111 #[(0, .pointer (some ⟨c, 0, none⟩)), (1, .agg CM.toArray), (2, .slice none 0 0), (7, .pointer (some ⟨p, 0, none⟩))]).run Tryz.prog X = .ok (.agg (runCells c (.slice (some ⟨lb, 0, none⟩) 2 lc2) sv d 0 0 0 p)) X := fun p X => by
    rw [hCM]
    rcases hsv with rfl | ⟨_, rfl, _⟩
    · exact build_run _ _ _ _ _ _ _ _ _
    · exact build_run _ _ _ _ _ _ _ _ _
  rw [show cmdM (.slice (some ⟨lb, 0, none⟩) 2 lc2) sv d = .agg CM.toArray by rw [hCM]; rfl] at hMI ⊢
  obtain ⟨RC, hRC⟩ : ∃ RC : Nat → Array Value, RC = fun p => runCells c (.slice (some ⟨lb, 0, none⟩) 2 lc2) sv d 0 0 0 p := ⟨_, rfl⟩
  have hRI : ∀ p, (Tryz.prog.info? 111).map (·.size) = some (RC p).size := fun p => by rw [hRC]; kernel_rfl
  have hRS : ∀ p, (RC p).size = 23 := fun p => by rw [hRC]; rfl
  have hRO : ∀ p, (RC p).all (·.oneCell') = true := fun p => by
    rw [hRC]
    exact runCells_one _ _ _ hsv1
  have HBL := Lib.hid (show ∀ (p : Nat) (X : World), (Instr.build 111 #[(0, .pointer (some ⟨c, 0, none⟩)), (1, .agg CM.toArray), (2, .slice none 0 0), (7, .pointer (some ⟨p, 0, none⟩))]).run Tryz.prog X = .ok (.agg (RC p)) X from fun p X => by rw [hRC]; exact hBL p X)
  have HA := Lib.hid (below_alloc w (.cells CM.toArray 64))
  have HX := Lib.hid (heap_alloc_at w (.cells CM.toArray 64))
  have HC := Lib.hid hc
  have HT := Lib.hid ht
  have HN := Lib.hid hr
  have HV := Lib.hid hsv
  have HG := Lib.hid hreg
  have HMI := Lib.hid hMI
  have HCI := Lib.hid hCI
  have HC2' := Lib.hid hC2
  have HRI := Lib.hid hRI
  have HRS := Lib.hid hRS
  have HRO := Lib.hid hRO
  have HRC := Lib.hid hRC
  clear hc ht hr hsv hreg hMI hBL hCI hC2 hRI hRS hRO hRC hCM
  go_enter Tryz.func38, Tryz.ntmps38
  go_wp2_with fail
  generalize hwA : w.alloc _ = wA
  rw [hwA] at HA HX
  clear hwA
  have HCA := Lib.hid (HC.out.later HA.out)
  refine (coreRegs_of HCA.out).mono ?_
  rintro e w1 ⟨rfl, rfl⟩
  have HG1 := Lib.hid (show w1.rangeAt w.heap.size 0 CM from fun j v hj => by rw [Nat.zero_add, Lib.cell_of_heap HX.out]; simpa using hj)
  go_wp2_with (refine wpList_load_mid rfl 64 _ rfl w.heap.size 0 rfl CM _ HG1.out Tryz.underlying64 rfl HCI.out ?_)
  refine (HMI.out w1 (Nat.le_trans hw HA.out.size)).mono ?_
  rintro e w2 ⟨rfl, hb2⟩
  have HB2 := Lib.hid (HA.out.trans (hb2.mono HA.out.size))
  have HX2 := Lib.hid ((hb2.block _ (lt_of_heap HX.out)).trans HX.out)
  clear hb2
  have c2 : w2.cell? ⟨w.heap.size, 2, none⟩ = some (.int .u8 109) := by rw [Lib.cell_of_heap HX2.out]; exact HC2'.out
  have HC2 := Lib.hid (HC.out.later HB2.out)
  go_wp2_with fail
  refine (coreBegin_of HC2.out (HG.out.later HB2.out)).mono ?_
  rintro e wC ⟨rfl, s, hh, hC3, hs3, hg3, hsge, hhge, hk3⟩
  have hNC : ¬ Only c w.heap.size := by unfold Only; omega
  have hxC : wC.heap[w.heap.size]? = some (.cells CM.toArray 64 (0, 0)) := (hk3.block _ (lt_of_heap HX2.out) hNC).trans HX2.out
  have HGC := Lib.hid (show ∀ o : Obj, (wC.alloc o).rangeAt w.heap.size 0 CM from fun o j v hj => by rw [Nat.zero_add, Lib.cell_of_heap ((Below.heap_alloc wC o _ (lt_of_heap hxC)).trans hxC)]; simpa using hj)
  have HC3 := Lib.hid hC3
  have HS3 := Lib.hid hs3
  have HK3 := Lib.hid hk3
  have HT3 := Lib.hid ((HT.out.later HB2.out).kept (hk3.mono (fun x _ hx => by unfold Only at hx; subst hx; exact hSc)))
  have HN3 := Lib.hid ((HN.out.later HB2.out).kept hk3 (by unfold Only; exact hlb))
  have HV3 := Lib.hid ((HV.out.later HB2.out).kept hk3 (fun b hb => by unfold Only; exact hsb b hb))
  have HZ3 := Lib.hid (Nat.le_trans HB2.out.size hk3.size)
  have hslt : s < wC.heap.size := lt_of_heap hs3
  have hsc : s ≠ c := by have := HB2.out.size; omega
  clear hC3 hs3 hg3 hk3 hxC c2
  go_wp2_with (first
    | refine wpList_load_mid rfl 64 _ rfl w.heap.size 0 rfl CM _ (HGC.out _) Tryz.underlying64 rfl HCI.out ?_
    | refine wpList_build_at rfl 111 0 1 2 7 _ _ _ _ rfl (.pointer (some ⟨c, 0, none⟩)) (.agg CM.toArray) (.slice none 0 0) (.pointer (some ⟨wC.heap.size, 0, none⟩)) rfl rfl rfl rfl (.agg (RC wC.heap.size)) (HBL.out _ _) ?_
    | (refine wpList_store_mid rfl 111 _ _ rfl (wC.heap.size + 1) 0 (RC wC.heap.size) rfl rfl (there_new1 wC _ _ _ _ (by rw [HRS.out]; rfl)) (HRI.out _) (HRO.out _) ?_
       rw [setCells_new1 wC _ _ (RC wC.heap.size) 111 (HRI.out _) (by rw [HRS.out]; rfl) (HRO.out _)]))
  generalize hwE : (wC.alloc _).alloc _ = wE
  have HE := Lib.hid (show Below wC.heap.size wC wE from hwE ▸ ((below_alloc wC _).alloc (by simp) _))
  have HD := Lib.hid (show DidB wE wC.heap.size (.slice none 0 0) from hwE ▸ ((Below.heap_alloc _ _ _ (by simp)).trans (heap_alloc_at wC _)))
  have HR := Lib.hid (show RunB wE (wC.heap.size + 1) c (.slice (some ⟨lb, 0, none⟩) 2 lc2) sv d 0 0 0 wC.heap.size from hwE ▸ (by
    have h := heap_alloc_at (wC.alloc (.cells #[.slice none 0 0] 32)) (.cells (RC wC.heap.size) 111)
    rw [show (wC.alloc (.cells #[.slice none 0 0] 32)).heap.size = wC.heap.size + 1 by simp] at h
    unfold RunB
    rw [h, HRC.out]))
  clear hwE
  have HCE := Lib.hid (HC3.out.later HE.out)
  have HTE := Lib.hid ((HT3.out.apart (S' := fun x => (S x ∨ x = wC.heap.size) ∨ x = wC.heap.size + 1) (fun x hx => by
    rcases hx with (hx | rfl) | rfl
    · exact .inl hx
    · exact .inr (Nat.le_refl _)
    · exact .inr (Nat.le_succ _))).later HE.out)
  have hltE : wC.heap.size + 1 < wE.heap.size := HR.out.lt
  have HDO := Lib.hid (doesM_no (S := fun x => (S x ∨ x = wC.heap.size) ∨ x = wC.heap.size + 1) HR.out HCE.out HTE.out (HN3.out.later HE.out) (HV3.out.later HE.out) hlc hlm (.inl (.inl hSc)) (.inr rfl) hps hM h1 h2 h3 h4 h5.1 h5.2)
  refine HDO.out.mono ?_
  rintro e w5 ⟨rfl, hC5, hk5⟩
  have HC5 := Lib.hid hC5
  have HK5 := Lib.hid hk5
  have HS5 := Lib.hid ((hk5.block s (Nat.lt_of_lt_of_le hslt HE.out.size) (by
    rintro (h | h)
    · exact hsc h
    · omega)).trans ((HE.out.block s hslt).trans HS3.out))
  have HT5 := Lib.hid (HTE.out.kept (hk5.mono (fun x _ hx => by
    rcases hx with rfl | rfl
    · exact .inl (.inl hSc)
    · exact .inr rfl)))
  clear hC5 hk5 HDO
  go_wp2_with fail
  refine (coreAbort_same HC5.out HS5.out).mono ?_
  rintro e w6 ⟨rfl, hC6, hk6⟩
  have HC6 := Lib.hid hC6
  have HK6 := Lib.hid hk6
  clear hC6 hk6
  go_wp2_with fail
  go_returns
  refine ⟨rfl, t, hh, dirty, undo, HC6.out, ⟨_, ps, .inl (.inl hSc), HT5.out.kept (HK6.out.mono (fun x _ hx => by unfold Only at hx; subst hx; exact .inl (.inl hSc))), rfl, by omega⟩, ?_⟩
  have z2 := HB2.out.size
  have z3 := HZ3.out
  have z5 := HK5.out.size
  have zE := HE.out.size
  have b3 : Below B w2 wC := HK3.out.below (by omega) (fun x hx => by unfold Only at hx; omega)
  have b5 : Below B wE w5 := HK5.out.below (by omega) (fun x hx => by rcases hx with rfl | rfl <;> omega)
  have b6 : Below B w5 w6 := HK6.out.below (by omega) (fun x hx => by unfold Only at hx; omega)
  exact ((((HB2.out.mono hB).trans b3).trans (HE.out.mono (by omega))).trans b5).trans b6
end
end Go.Proofs.YtdljidgmdjndgaaGreatDoor
