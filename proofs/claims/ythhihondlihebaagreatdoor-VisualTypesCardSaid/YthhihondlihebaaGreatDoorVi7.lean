/- A visual editor asks for a motion (chapter 28). -/
import Derived.Test.YthhihondlihebaaGreatDoorVi2
import Derived.Test.YthhihondlihebaaGreatDoorCoB
import Derived.Test.YthhihondlihebaaGreatDoorMv8
namespace Go.Proofs.YthhihondlihebaaGreatDoor
open Go Go.Proofs Go.RowKit Go.Ink Go.Sort

def keyV (kr kn kc km kl : Int) : Value := .agg #[.int .u8 kr, .int .i64 kn, .int .u8 kc, .int .u8 km, .int .u8 kl]
def marksV : Value := .agg (noMarks.map fun m => (Value.int .i64 m)).toArray
theorem built_ask (ao : Option Addr) (n cap : Nat) (ln col nm kn kl : Int) : Tryz.prog.built 113 [(0, .slice ao n cap), (1, .agg #[.int .i64 ln, .int .i64 col]), (2, .int .u8 nm), (3, .int .i64 kn), (4, .int .u8 kl), (5, marksV), (6, .string ⟨#[]⟩), (7, .bool false), (8, .agg #[.int .u8 0, .int .u8 0])] = some (askA (.slice ao n cap) ln col nm kn kl) := by
  kernel_rfl
theorem field_view (la : Option Addr) (n lc : Nat) (cur : Int) (last : List UInt8) (X : World) : (Instr.field 41 (.agg (viewCells (.slice la n lc) cur last).toArray) 2).run Tryz.prog X = .ok marksV X := by
  kernel_rfl
theorem wpList_builtL {P : Program} {ops : Array Oper} {rest : List Oper} {o : Oper} {a : Act} {w : World} {Q : Exit → Act → World → Prop} (hg : o.guard = none) (t : TypeId) (parts : Array (Nat × Operand)) (ho : o.op = .build t parts) (cells : Array Value) (vs : List (Nat × Value))
    (hv : (parts.map fun (i, x) => (i, a.eval x)).toList = vs) (hc : P.built t vs = some cells) (h : wpList P ops Q rest (a.put o.dst (.agg cells)) w) : wpList P ops Q (o :: rest) a w :=
  wpList_built hg t parts ho cells (by rw [hv]; exact hc) h
section
variable {S : Nat → Prop} {w w' : World} {d : Nat} {v : Vis}
set_option maxRecDepth 100000 in
set_option maxHeartbeats 2000000 in
theorem visAsk {t : Nat} {cur : Int} {last : List UInt8} {r : Nat} {dirty : Bool} {undo was held : Option Addr} {dn : Value} {ps : List (List Line)} {F : List Line} (h : VisB w d v) (hc : CoreB w v.c t cur last r dirty undo was held dn) (ht : TabOf S w t ps) (hl : ps.length ≤ 100000) (hm : manyS ps ≤ 1000000) (hF : ps.flatten = F) (nm kr kn kc km kl : Int) :
    Calls Tryz.prog 52 #[.pointer (some ⟨d, 0, none⟩), .int .u8 nm, keyV kr kn kc km kl] w fun e w' => ∃ ao cap, e = .returned (.agg (askA (.slice ao F.length cap) v.ln v.col nm kn kl)) ∧ SlOf IsStr w' ao cap F ∧ Below w.heap.size w w' := by
  have hdl := h.lt
  have hba := (below_alloc w (.cells #[.int .u8 kr, .int .i64 kn, .int .u8 kc, .int .u8 km, .int .u8 kl] 72))
  have hka := heap_alloc_at w (.cells #[.int .u8 kr, .int .i64 kn, .int .u8 kc, .int .u8 km, .int .u8 kl] 72)
  have hsz : (w.alloc (.cells #[.int .u8 kr, .int .i64 kn, .int .u8 kc, .int .u8 km, .int .u8 kl] 72)).heap.size = w.heap.size + 1 := Array.size_push _
  obtain ⟨w1, hw1⟩ : ∃ w1, w.alloc (.cells #[.int .u8 kr, .int .i64 kn, .int .u8 kc, .int .u8 km, .int .u8 kl] 72) = w1 := ⟨_, rfl⟩
  rw [hw1] at hba hka hsz
  obtain ⟨VQ, hVQ⟩ : ∃ VQ : Option Addr → Nat → List Value, ∀ ao cap, askA (.slice ao F.length cap) v.ln v.col nm kn kl = (VQ ao cap).toArray := ⟨fun ao cap => (askA (.slice ao F.length cap) v.ln v.col nm kn kl).toList, fun _ _ => rfl⟩
  have HVQ := Lib.hid hVQ
  have HQL := Lib.hid (show ∀ ao cap, (VQ ao cap).length = 36 from fun ao cap => (congrArg List.length (show VQ ao cap = (askA (.slice ao F.length cap) v.ln v.col nm kn kl).toList by rw [hVQ])).trans rfl)
  have HQI := Lib.hid (show ∀ ao cap, (Tryz.prog.info? 113).map (·.size) = some (VQ ao cap).length from fun ao cap => by rw [HQL.out]; kernel_rfl)
  have HQO := Lib.hid (show ∀ ao cap, ∀ u ∈ VQ ao cap, u.oneCell' = true from fun ao cap u hu => by
    have h1 : u ∈ askA (.slice ao F.length cap) v.ln v.col nm kn kl := by rw [hVQ]; simpa using hu
    unfold askA at h1
    simp only [List.mem_toArray, List.mem_cons, List.not_mem_nil, or_false] at h1
    repeat (first | (rcases h1 with rfl | h1; rfl) | (subst h1; rfl)))
  have HBU := Lib.hid (show ∀ ao cap, Tryz.prog.built 113 [(0, .slice ao F.length cap), (1, .agg #[.int .i64 v.ln, .int .i64 v.col]), (2, .int .u8 nm), (3, .int .i64 kn), (4, .int .u8 kl), (5, marksV), (6, .string ⟨#[]⟩), (7, .bool false), (8, .agg #[.int .u8 0, .int .u8 0])] = some (VQ ao cap).toArray from fun ao cap => by rw [← hVQ]; exact built_ask ao F.length cap v.ln v.col nm kn kl)
  obtain ⟨VW, hVW⟩ : ∃ VW : Option Addr → Nat → List Value, ∀ la lc, viewCells (.slice la (manyS ps) lc) cur last = VW la lc := ⟨_, fun _ _ => rfl⟩
  have HFD := Lib.hid (show ∀ la lc X, (Instr.field 41 (.agg (VW la lc).toArray) 2).run Tryz.prog X = .ok marksV X from fun la lc X => by rw [← hVW]; exact field_view la (manyS ps) lc cur last X)
  have hmk : marksV = marksV := rfl
  generalize marksV = MK at HBU HFD hmk
  have HVA := Lib.hid (h.later hba)
  have HCA := Lib.hid (hc.later hba)
  have HTA := Lib.hid (ht.later hba)
  clear hVQ hmk
  go_enter Tryz.func52, Tryz.ntmps52
  unfold keyV
  go_upto_region 1 with fail
  generalize hwA : w1.alloc _ = wA
  have htA : wA.there (w.heap.size + 1) 0 36 := by rw [← hwA, ← hsz]; exact there_new w1 _ _ 36 rfl
  have hAw := below_alloc w1 (.cells (askA (.slice none 0 0) 0 0 0 0 0) 113)
  have hba1 : Below w1.heap.size w1 wA := by rw [← hwA]; exact below_alloc w1 _
  have HA := Lib.hid (hba.trans (hba1.mono hba.size))
  have HKA := Lib.hid ((hba1.block _ (lt_of_heap hka)).trans hka)
  have HVB := Lib.hid (HVA.out.later hba1)
  have HCB := Lib.hid (HCA.out.later hba1)
  have HTB := Lib.hid (HTA.out.later hba1)
  have HZA := Lib.hid (show w.heap.size + 1 < wA.heap.size by
    obtain ⟨u, hu⟩ := Option.isSome_iff_exists.1 (htA 0 (by omega)).1
    exact lt_of_cell hu)
  have HSV := Lib.hid (fun (X : World) (hb : Below wA.heap.size wA X) => (show X.cell? ⟨d, 0, none⟩ = some (.pointer (some ⟨v.c, 0, none⟩)) ∧ X.cell? ⟨d, 1, none⟩ = some (.int .i64 v.ln) ∧ X.cell? ⟨d, 2, none⟩ = some (.int .i64 v.col) ∧ X.cell? ⟨d, 10, none⟩ = some (.int .u8 0) ∧ X.cell? ⟨d, 11, none⟩ = some (.int .u8 0) ∧ X.cell? ⟨d, 12, none⟩ = some (.string ⟨#[]⟩) ∧ X.cell? ⟨d, 13, none⟩ = some (.bool false) ∧ X.cell? ⟨w.heap.size, 1, none⟩ = some (.int .i64 kn) ∧ X.cell? ⟨w.heap.size, 4, none⟩ = some (.int .u8 kl) from by
    have hv := HVB.out.later hb
    have hk := (hb.block _ (lt_of_heap HKA.out)).trans HKA.out
    exact ⟨hv.at 0 rfl, hv.at 1 rfl, hv.at 2 rfl, hv.at 10 rfl, hv.at 11 rfl, hv.at 12 rfl, hv.at 13 rfl, by rw [Lib.cell_of_heap hk]; rfl, by rw [Lib.cell_of_heap hk]; rfl⟩))
  have HLI := Lib.hid (fun (X : World) (hb : Below wA.heap.size wA X) => visLines (v := v) (d := d) (t := t) (cur := cur) (ps := ps) (S := S) (HVB.out.later hb) ⟨(HCB.out.later hb).c0, (HCB.out.later hb).c1, HTB.out.later hb, hl, hm⟩ hF)
  have HVW := Lib.hid (fun (X : World) (hb : Below wA.heap.size wA X) => (coreView_any (HCB.out.later hb) (HTB.out.later hb) hl hm).mono (R' := fun e w' => ∃ la lc, e = .returned (.agg (VW la lc).toArray) ∧ Below X.heap.size X w') (fun e w' h => by
    obtain ⟨la, lc, rfl, -, hb⟩ := h
    exact ⟨la, lc, by rw [hVW], hb⟩))
  have HX := Lib.hid (Below.refl wA.heap.size wA)
  clear hwA hAw hba1 hba hka hsz hw1 hVW HVA HCA HTA
  refine wp_region_noPanic ?_
  refine wp_region_any (by kernel_rfl) ?_
  change wpAny _ _ _ _ _ _ _ wA.drew
  refine wpAny_parted_held 29 29 (Array.replicate 31 false) (fun w' => w'.cell? ⟨d, 0, none⟩ = some (.pointer (some ⟨v.c, 0, none⟩)) ∧ w'.cell? ⟨d, 1, none⟩ = some (.int .i64 v.ln) ∧ w'.cell? ⟨d, 2, none⟩ = some (.int .i64 v.col) ∧ w'.cell? ⟨d, 10, none⟩ = some (.int .u8 0) ∧ w'.cell? ⟨d, 11, none⟩ = some (.int .u8 0) ∧ w'.cell? ⟨d, 12, none⟩ = some (.string ⟨#[]⟩) ∧ w'.cell? ⟨d, 13, none⟩ = some (.bool false) ∧ w'.cell? ⟨w.heap.size, 1, none⟩ = some (.int .i64 kn) ∧ w'.cell? ⟨w.heap.size, 4, none⟩ = some (.int .u8 kl)) (by kernel_rfl) (HSV.out _ HX.out.drew) (fun hHeld => ?_)
  simp only [List.take_succ_cons, List.take_zero, List.drop_succ_cons, List.drop_zero]
  refine wpAnyH_takeL (i := 0) (v := ?_) rfl (by kernel_rfl) (by kernel_rfl) (by kernel_rfl) (fun _ _ _ h => h) (Or.inl ⟨by rfl, ?_⟩) (by assumption) ?_
  rotate_left
  · intro w hSw
    (try dsimp only at hSw)
    go_simp
    (try with_reducible rfl)
  (try simp only [Act.put, List.setIfInBounds_toArray, List.set_cons_zero, List.set_cons_succ])
  refine wpAnyH_takeL (i := 2) (v := ?_) rfl (by kernel_rfl) (by kernel_rfl) (by kernel_rfl) (fun _ _ _ h => h) (Or.inl ⟨by rfl, ?_⟩) (by assumption) ?_
  rotate_left
  · intro w hSw
    (try dsimp only at hSw)
    go_simp
    (try with_reducible rfl)
  (try simp only [Act.put, List.setIfInBounds_toArray, List.set_cons_zero, List.set_cons_succ])
  refine wpAnyH_takeL (i := 3) (v := ?_) rfl (by kernel_rfl) (by kernel_rfl) (by kernel_rfl) (fun _ _ _ h => h) (Or.inl ⟨by rfl, ?_⟩) (by assumption) ?_
  rotate_left
  · intro w hSw
    (try dsimp only at hSw)
    go_simp
    (try with_reducible rfl)
  (try simp only [Act.put, List.setIfInBounds_toArray, List.set_cons_zero, List.set_cons_succ])
  refine wpAnyH_takeL (i := 4) (v := ?_) rfl (by kernel_rfl) (by kernel_rfl) (by kernel_rfl) (fun _ _ _ h => h) (Or.inl ⟨by rfl, ?_⟩) (by assumption) ?_
  rotate_left
  · intro w hSw
    (try dsimp only at hSw)
    go_simp
    (try with_reducible rfl)
  (try simp only [Act.put, List.setIfInBounds_toArray, List.set_cons_zero, List.set_cons_succ])
  refine wpAnyH_takeL (i := 5) (v := ?_) rfl (by kernel_rfl) (by kernel_rfl) (by kernel_rfl) (fun _ _ _ h => h) (Or.inl ⟨by rfl, ?_⟩) (by assumption) ?_
  rotate_left
  · intro w hSw
    (try dsimp only at hSw)
    go_simp
    (try with_reducible rfl)
  (try simp only [Act.put, List.setIfInBounds_toArray, List.set_cons_zero, List.set_cons_succ])
  refine wpAnyH_takeL (i := 6) (v := ?_) rfl (by kernel_rfl) (by kernel_rfl) (by kernel_rfl) (fun _ _ _ h => h) (Or.inl ⟨by rfl, ?_⟩) (by assumption) ?_
  rotate_left
  · intro w hSw
    (try dsimp only at hSw)
    go_simp
    (try with_reducible rfl)
  (try simp only [Act.put, List.setIfInBounds_toArray, List.set_cons_zero, List.set_cons_succ])
  refine wpAnyH_takeL (i := 7) (v := ?_) rfl (by kernel_rfl) (by kernel_rfl) (by kernel_rfl) (fun _ _ _ h => h) (Or.inl ⟨by rfl, ?_⟩) (by assumption) ?_
  rotate_left
  · intro w hSw
    (try dsimp only at hSw)
    go_simp
    (try with_reducible rfl)
  (try simp only [Act.put, List.setIfInBounds_toArray, List.set_cons_zero, List.set_cons_succ])
  refine wpAnyH_takeL (i := 8) (v := ?_) rfl (by kernel_rfl) (by kernel_rfl) (by kernel_rfl) (fun _ _ _ h => h) (Or.inl ⟨by rfl, ?_⟩) (by assumption) ?_
  rotate_left
  · intro w hSw
    (try dsimp only at hSw)
    go_simp
    (try with_reducible rfl)
  (try simp only [Act.put, List.setIfInBounds_toArray, List.set_cons_zero, List.set_cons_succ])
  refine wpAnyH_takeL (i := 9) (v := ?_) rfl (by kernel_rfl) (by kernel_rfl) (by kernel_rfl) (fun _ _ _ h => h) (Or.inl ⟨by rfl, ?_⟩) (by assumption) ?_
  rotate_left
  · intro w hSw
    (try dsimp only at hSw)
    go_simp
    (try with_reducible rfl)
  (try simp only [Act.put, List.setIfInBounds_toArray, List.set_cons_zero, List.set_cons_succ])
  refine wpAnyH_takeL (i := 10) (v := ?_) rfl (by kernel_rfl) (by kernel_rfl) (by kernel_rfl) (fun _ _ _ h => h) (Or.inl ⟨by rfl, ?_⟩) (by assumption) ?_
  rotate_left
  · intro w hSw
    (try dsimp only at hSw)
    go_simp
    (try with_reducible rfl)
  (try simp only [Act.put, List.setIfInBounds_toArray, List.set_cons_zero, List.set_cons_succ])
  refine wpAnyH_takeL (i := 11) (v := ?_) rfl (by kernel_rfl) (by kernel_rfl) (by kernel_rfl) (fun _ _ _ h => h) (Or.inl ⟨by rfl, ?_⟩) (by assumption) ?_
  rotate_left
  · intro w hSw
    (try dsimp only at hSw)
    go_simp
    (try with_reducible rfl)
  (try simp only [Act.put, List.setIfInBounds_toArray, List.set_cons_zero, List.set_cons_succ])
  refine wpAnyH_takeL (i := 12) (v := ?_) rfl (by kernel_rfl) (by kernel_rfl) (by kernel_rfl) (fun _ _ _ h => h) (Or.inl ⟨by rfl, ?_⟩) (by assumption) ?_
  rotate_left
  · intro w hSw
    (try dsimp only at hSw)
    go_simp
    (try with_reducible rfl)
  (try simp only [Act.put, List.setIfInBounds_toArray, List.set_cons_zero, List.set_cons_succ])
  refine wpAnyH_takeL (i := 13) (v := ?_) rfl (by kernel_rfl) (by kernel_rfl) (by kernel_rfl) (fun _ _ _ h => h) (Or.inl ⟨by rfl, ?_⟩) (by assumption) ?_
  rotate_left
  · intro w hSw
    (try dsimp only at hSw)
    go_simp
    (try with_reducible rfl)
  (try simp only [Act.put, List.setIfInBounds_toArray, List.set_cons_zero, List.set_cons_succ])
  refine wpAnyH_takeL (i := 14) (v := ?_) rfl (by kernel_rfl) (by kernel_rfl) (by kernel_rfl) (fun _ _ _ h => h) (Or.inl ⟨by rfl, ?_⟩) (by assumption) ?_
  rotate_left
  · intro w hSw
    (try dsimp only at hSw)
    go_simp
    (try with_reducible rfl)
  (try simp only [Act.put, List.setIfInBounds_toArray, List.set_cons_zero, List.set_cons_succ])
  refine wpAnyH_takeL (i := 17) (v := ?_) rfl (by kernel_rfl) (by kernel_rfl) (by kernel_rfl) (fun _ _ _ h => h) (Or.inl ⟨by rfl, ?_⟩) (by assumption) ?_
  rotate_left
  · intro w hSw
    (try dsimp only at hSw)
    go_simp
    (try with_reducible rfl)
  (try simp only [Act.put, List.setIfInBounds_toArray, List.set_cons_zero, List.set_cons_succ])
  refine wpAnyH_takeL (i := 18) (v := ?_) rfl (by kernel_rfl) (by kernel_rfl) (by kernel_rfl) (fun _ _ _ h => h) (Or.inl ⟨by rfl, ?_⟩) (by assumption) ?_
  rotate_left
  · intro w hSw
    (try dsimp only at hSw)
    go_simp
    (try with_reducible rfl)
  (try simp only [Act.put, List.setIfInBounds_toArray, List.set_cons_zero, List.set_cons_succ])
  refine wpAnyH_takeL (i := 19) (v := ?_) rfl (by kernel_rfl) (by kernel_rfl) (by kernel_rfl) (fun _ _ _ h => h) (Or.inl ⟨by rfl, ?_⟩) (by assumption) ?_
  rotate_left
  · intro w hSw
    (try dsimp only at hSw)
    go_simp
    (try with_reducible rfl)
  (try simp only [Act.put, List.setIfInBounds_toArray, List.set_cons_zero, List.set_cons_succ])
  refine wpAnyH_takeL (i := 20) (v := ?_) rfl (by kernel_rfl) (by kernel_rfl) (by kernel_rfl) (fun _ _ _ h => h) (Or.inl ⟨by rfl, ?_⟩) (by assumption) ?_
  rotate_left
  · intro w hSw
    (try dsimp only at hSw)
    go_simp
    (try with_reducible rfl)
  (try simp only [Act.put, List.setIfInBounds_toArray, List.set_cons_zero, List.set_cons_succ])
  refine wpAnyH_takeL (i := 21) (v := ?_) rfl (by kernel_rfl) (by kernel_rfl) (by kernel_rfl) (fun _ _ _ h => h) (Or.inl ⟨by rfl, ?_⟩) (by assumption) ?_
  rotate_left
  · intro w hSw
    (try dsimp only at hSw)
    go_simp
    (try with_reducible rfl)
  (try simp only [Act.put, List.setIfInBounds_toArray, List.set_cons_zero, List.set_cons_succ])
  refine wpAnyH_takeL (i := 22) (v := ?_) rfl (by kernel_rfl) (by kernel_rfl) (by kernel_rfl) (fun _ _ _ h => h) (Or.inl ⟨by rfl, ?_⟩) (by assumption) ?_
  rotate_left
  · intro w hSw
    (try dsimp only at hSw)
    go_simp
    (try with_reducible rfl)
  (try simp only [Act.put, List.setIfInBounds_toArray, List.set_cons_zero, List.set_cons_succ])
  refine wpAnyH_takeL (i := 23) (v := ?_) rfl (by kernel_rfl) (by kernel_rfl) (by kernel_rfl) (fun _ _ _ h => h) (Or.inl ⟨by rfl, ?_⟩) (by assumption) ?_
  rotate_left
  · intro w hSw
    (try dsimp only at hSw)
    go_simp
    (try with_reducible rfl)
  (try simp only [Act.put, List.setIfInBounds_toArray, List.set_cons_zero, List.set_cons_succ])
  refine wpAnyH_takeL (i := 24) (v := ?_) rfl (by kernel_rfl) (by kernel_rfl) (by kernel_rfl) (fun _ _ _ h => h) (Or.inl ⟨by rfl, ?_⟩) (by assumption) ?_
  rotate_left
  · intro w hSw
    (try dsimp only at hSw)
    go_simp
    (try with_reducible rfl)
  (try simp only [Act.put, List.setIfInBounds_toArray, List.set_cons_zero, List.set_cons_succ])
  refine wpAnyH_takeL (i := 25) (v := ?_) rfl (by kernel_rfl) (by kernel_rfl) (by kernel_rfl) (fun _ _ _ h => h) (Or.inl ⟨by rfl, ?_⟩) (by assumption) ?_
  rotate_left
  · intro w hSw
    (try dsimp only at hSw)
    go_simp
    (try with_reducible rfl)
  (try simp only [Act.put, List.setIfInBounds_toArray, List.set_cons_zero, List.set_cons_succ])
  refine wpAnyH_takeL (i := 26) (v := ?_) rfl (by kernel_rfl) (by kernel_rfl) (by kernel_rfl) (fun _ _ _ h => h) (Or.inl ⟨by rfl, ?_⟩) (by assumption) ?_
  rotate_left
  · intro w hSw
    (try dsimp only at hSw)
    go_simp
    (try with_reducible rfl)
  (try simp only [Act.put, List.setIfInBounds_toArray, List.set_cons_zero, List.set_cons_succ])
  refine wpAnyH_takeL (i := 27) (v := ?_) rfl (by kernel_rfl) (by kernel_rfl) (by kernel_rfl) (fun _ _ _ h => h) (Or.inl ⟨by rfl, ?_⟩) (by assumption) ?_
  rotate_left
  · intro w hSw
    (try dsimp only at hSw)
    go_simp
    (try with_reducible rfl)
  (try simp only [Act.put, List.setIfInBounds_toArray, List.set_cons_zero, List.set_cons_succ])
  refine wpAnyH_takeL (i := 28) (v := ?_) rfl (by kernel_rfl) (by kernel_rfl) (by kernel_rfl) (fun _ _ _ h => h) (Or.inl ⟨by rfl, ?_⟩) (by assumption) ?_
  rotate_left
  · intro w hSw
    (try dsimp only at hSw)
    go_simp
    (try with_reducible rfl)
  (try simp only [Act.put, List.setIfInBounds_toArray, List.set_cons_zero, List.set_cons_succ])
  refine wpAnyH_ready (rs := [1]) (by kernel_rfl) (by simp) ?_
  refine AllReadyH.consL rfl (fun K hK => ?_) ?_
  · go_simp
    (with_reducible refine (HLI.out _ HX.out.drew).mono ?_)
    rintro e w2 ⟨ao, cap, rfl, -, hbl, hol⟩
    have HB2 := Lib.hid ((HX.out.drew).trans (hbl.mono (HX.out.drew).size))
    have HOL := Lib.hid (own_slA (S := Only (w.heap.size + 1)) rfl (ownsRow_base hol (HX.out.drew).size) (fun k hk => by unfold Only at hk; subst hk; exact HZA.out))
    clear hbl hol
    refine hK.out _ _ ?_ (fun hHeld => ?_)
    · first | exact HSV.out _ HX.out.drew | exact HSV.out _ HB2.out | exact HSV.out _ HB3.out
    clear hK K
    (try simp only [List.setIfInBounds_toArray])
    refine wpAnyH_ready (rs := [15]) (by kernel_rfl) (by simp) ?_
    refine AllReadyH.consL rfl (fun K hK => ?_) ?_
    · go_simp
      (with_reducible refine (HVW.out _ HB2.out).mono ?_)
      rintro e w3 ⟨la, lc, rfl, hbv⟩
      have HB3 := Lib.hid ((HB2.out).trans (hbv.mono (HB2.out).size))
      have HO3 := Lib.hid (HOL.out.later hbv)
      have hfd := HFD.out la lc
      clear hbv
      refine hK.out _ _ ?_ (fun hHeld => ?_)
      · first | exact HSV.out _ HX.out.drew | exact HSV.out _ HB2.out | exact HSV.out _ HB3.out
      clear hK K
      (try simp only [List.setIfInBounds_toArray])
      refine wpAnyH_takeL (i := 16) (v := ?_) rfl (by kernel_rfl) (by kernel_rfl) (by kernel_rfl) (fun _ _ _ h => h) (Or.inl ⟨by rfl, ?_⟩) (by assumption) ?_
      rotate_left
      · intro w hSw
        (try dsimp only at hSw)
        go_simp
        (try with_reducible rfl)
      (try simp only [Act.put, List.setIfInBounds_toArray, List.set_cons_zero, List.set_cons_succ])
      refine wpAnyH_done (by kernel_rfl) ?_ _
      have HQ := Lib.hid (htA.later HB3.out)
      change wpList _ _ _ _ _ _
      go_wp2_with (first | refine wpList_builtL rfl 113 _ (by with_reducible rfl) _ _ (by kernel_rfl) (HBU.out ao cap) ?_ | refine wpList_store_mid rfl 113 _ _ rfl (w.heap.size + 1) 0 (VQ ao cap).toArray rfl rfl (by simpa only [List.size_toArray, HQL.out] using HQ.out) (by simpa only [List.size_toArray] using HQI.out ao cap) (all_oneCell_toArray (HQO.out ao cap)) ?_)
      refine NoPanic.normal ?_
      have hRG := World.rangeAt_setCells_same w3 (w.heap.size + 1) 0 (VQ ao cap) (by rw [HQL.out]; exact HQ.out)
      have HLD := Lib.hid (run_loadVar_mid (P := Tryz.prog) _ (w.heap.size + 1) 0 113 (VQ ao cap) _ hRG Tryz.underlying113 rfl (HQI.out ao cap))
      have HBZ := Lib.hid (below_setCellsX (w.heap.size + 1) (Nat.le_succ _) (VQ ao cap) 0 (HA.out.trans (HB3.out.mono HA.out.size)))
      have HSZ := Lib.hid (HO3.out.kept (keep_setCellsX (w.heap.size + 1) (eqIn _) (VQ ao cap) 0 (KeepT.refl _ w3)))
      clear hRG
      generalize w3.setCells (w.heap.size + 1) 0 (VQ ao cap) = wZ at *
      go_wp2_with fail
      have hld := HLD.out
      refine ⟨rfl, .agg (VQ ao cap).toArray, ?_, ao, cap, by rw [HVQ.out], HSZ.out.1, HBZ.out⟩
      simp [results, hld, asAddr]
    exact AllReadyH.nil
  exact AllReadyH.nil
end
end Go.Proofs.YthhihondlihebaaGreatDoor
