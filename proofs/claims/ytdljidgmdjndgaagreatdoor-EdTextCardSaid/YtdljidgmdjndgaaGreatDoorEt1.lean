/- EdText (chapter 25): lives, and a line that asks for text ("0a" to "6a"), read by the interpreter. -/
import Derived.Test.YtdljidgmdjndgaaGreatDoorRa3
import Derived.Test.YtdljidgmdjndgaaGreatDoorRng
namespace Go.Proofs.YtdljidgmdjndgaaGreatDoor
open Go Go.Proofs Go.Ev Go.RowKit Go.Ink

theorem ext_cmp : Ext Tryz.prog 310 Extern.BytealgCompare.compare := ⟨Tryz.f310, by kernel_rfl, by kernel_rfl, by kernel_rfl, by kernel_rfl, by kernel_rfl⟩
theorem split_hook : CallOk1 Tryz.prog 173 (hSplt 9) :=
  split_ok no_count (c := (Tryz.f173.body).getD .skip) Tryz.func173 (by kernel_rfl) (by kernel_rfl) fun t w ht => split_any t w ht
noncomputable def hooks25 : List (Nat × Hook) := [(96, hIdx), (150, hMapCl), (173, hSplt 9), (194, hSame), (310, hCmpS), (292, hCnt)]
theorem hooks25_ok : ∀ p ∈ hooks25, CallOk1 Tryz.prog p.1 p.2 := by
  intro p hp
  simp only [hooks25, List.mem_cons, List.not_mem_nil, or_false] at hp
  rcases hp with rfl | rfl | rfl | rfl | rfl | rfl
  · exact idx_ok ext_index
  · exact mapCl_ok ext_clone
  · exact split_hook
  · exact same_ok ext_same
  · exact cmpS_ok ext_cmp
  · exact cnt_ok ext_count
/-- The table stands. -/
def TabW (w : World) : Prop := ∃ o, w.heap[5]? = some o ∧ BRep Tryz.prog (fun _ => undef) (vars 6) ⟨5, 0, 0⟩ (tabBlk 385 deB) o
theorem TabW.later {w w' : World} (h : TabW w) (hb : Below w.heap.size w w') : TabW w' := by
  obtain ⟨o, h1, h2⟩ := h
  exact ⟨o, (hb.block _ (Array.getElem?_eq_some_iff.1 h1).1).trans h1, h2⟩
set_option maxRecDepth 100000 in
theorem lives_run : isTrue (runTop Tryz.prog hooks25 dhooks23 3000 60 5 [] heap23) = true := by decide +kernel
theorem lives_any {w : World} (hw : 6 ≤ w.heap.size ∧ TabW w) : Calls Tryz.prog 5 #[] w fun e w' => e = .returned (.bool true) ∧ Below w.heap.size w w' :=
  true_args no_count mixed hooks25_ok dhooks23_ok lives_run (tab_ro one23) (tab_rep hw.1 (by decide) one23 hw.2) (vars_glob (by kernel_rfl)) DenL.nil

/-! A line that asks for text. -/
def restA : List V := [.snil, .int .u8 97, .int .i64 0, .int .i64 0, .str 0 0, .int .i64 0, .int .u8 0, .str 0 0, .str 0 0, .bool false, .int .i64 0, .str 0 0, .str 0 0, .int .u8 0]
noncomputable def parseB (k : Nat) (r : R (V × H)) : Bool := match r with
  | .ok (.tup [.agg (.gsl b o len lb cut :: rest), x], h) => cond (vEqs (.int .i64 (len : Int) :: x :: rest) (.int .i64 1 :: .int .i64 0 :: restA)) (match h.get b with
    | some (.cells cs _ .grow _) => vEqs ((cs.drop o).take 4) [.int .i64 3, .int .i64 (k : Int), .str 0 0, .int .i64 0]
    | _ => false) false
  | _ => false
theorem parseB_ok {k : Nat} {r : R (V × H)} (h : parseB k r = true) : ∃ b o lb cut H' cs el fz, r = .ok (.tup [.agg (.gsl b o 1 lb cut :: restA), .int .i64 0], H') ∧ H'.get b = some (.cells cs el .grow fz) ∧ (cs.drop o).take 4 = [.int .i64 3, .int .i64 (k : Int), .str 0 0, .int .i64 0] := by
  unfold parseB at h
  split at h
  · obtain ⟨h1, h2⟩ := cond_and h
    have h3 := vEqs_eq h1
    simp only [List.cons.injEq, V.int.injEq, true_and] at h3
    obtain ⟨h4, rfl, rfl⟩ := h3
    split at h2
    · rename_i hg
      have : _ = 1 := Int.ofNat.inj h4
      subst this
      exact ⟨_, _, _, _, _, _, _, _, rfl, hg, vEqs_eq h2⟩
    · cases h2
  · cases h
set_option maxRecDepth 100000 in
theorem parse_run : ((List.range 7).all fun k => parseB k (runTop Tryz.prog hooks23 dhooks23 3000 60 32 [.str 2 ((48 + k) * 256 + 97)] (h0 6))) = true := by decide +kernel
theorem lineA_digs (k : Nat) (hk : k < 7) : digs 2 ((48 + k) * 256 + 97) = [UInt8.ofNat (48 + k), 97] := by
  match k, hk with
  | 0, _ | 1, _ | 2, _ | 3, _ | 4, _ | 5, _ | 6, _ => rfl
theorem den_cmd {ξ : Nat → Value} {G : Gh} {b o lb cut : Nat} {x : Value} (h : Den ξ G (.agg (.gsl b o 1 lb cut :: restA)) x) : ∃ g, G[b]? = some (some g) ∧ cut + lb ≤ g.cap ∧ 1 ≤ lb ∧ x = .agg (cmdLA (.slice (some ⟨g.addr, g.off + o, none⟩) 1 (g.cap - cut)) (.slice none 0 0)).toArray := by
  simp only [Den, restA, DenL] at h
  obtain ⟨a, rfl, x0, l0, e0, ⟨g, hg, h1, h2, rfl⟩, x1, l1, rfl, rfl, x2, l2, rfl, rfl, x3, l3, rfl, rfl, x4, l4, rfl, rfl, x5, l5, rfl, ⟨_, rfl⟩, x6, l6, rfl, rfl, x7, l7, rfl, rfl, x8, l8, rfl, ⟨_, rfl⟩, x9, l9, rfl, ⟨_, rfl⟩, x10, l10, rfl, rfl, x11, l11, rfl, rfl, x12, l12, rfl, ⟨_, rfl⟩, x13, l13, rfl, ⟨_, rfl⟩, x14, l14, rfl, rfl, rfl⟩ := h
  refine ⟨g, hg, h1, h2, ?_⟩
  obtain ⟨l⟩ := a
  simp only at e0
  rw [e0]
  rfl
theorem take4 {α : Type} {cs : List α} {o : Nat} {a b c d : α} (h : (cs.drop o).take 4 = [a, b, c, d]) : cs[o]? = some a ∧ cs[o + 1]? = some b ∧ cs[o + 2]? = some c ∧ cs[o + 3]? = some d := by
  have q : ∀ j, j < 4 → cs[o + j]? = [a, b, c, d][j]? := fun j hj => by rw [← h, List.getElem?_take, if_pos hj, List.getElem?_drop]
  exact ⟨q 0 (by omega), q 1 (by omega), q 2 (by omega), q 3 (by omega)⟩
theorem parse_any {k : Nat} (hk : k < 7) {w : World} (hw : 6 ≤ w.heap.size) : Calls Tryz.prog 32 #[.string ⟨#[UInt8.ofNat (48 + k), 97]⟩] w fun e w' => ∃ lb lq lc, e = .returned (.tuple #[.agg (cmdLA (.slice (some ⟨lb, lq, none⟩) 1 lc) (.slice none 0 0)).toArray, .int .i64 0]) ∧ NumRowQ w' lb lq [k] ∧ 1 ≤ lc ∧ w.heap.size ≤ lb ∧ Below w.heap.size w w' := by
  have hr := List.all_eq_true.1 parse_run k (List.mem_range.2 hk)
  obtain ⟨b, o, lb, cut, H', cs, el, fz, h1, h2, h3⟩ := parseB_ok hr
  refine (runTop_calls no_count mixed hooks23_ok dhooks23_ok h1 (fun _ => undef) (vars 6) _ w (vars_rep hw) (vars_glob (by kernel_rfl)) (DenL.one ?_)).mono fun e' w' ⟨x, he, G', q1, q2, q3⟩ => ?_
  · simp only [Den]
    refine ⟨?_, ?_⟩
    · have : (48 + k) * 256 + 97 < 65536 := by omega
      simpa using this
    · rw [lineA_digs k hk]
  · simp only [Den, DenL] at q1
    obtain ⟨arr, rfl, x0, l0, e0, ⟨ar, rfl, hl⟩, x1, l1, rfl, rfl, rfl⟩ := q1
    obtain ⟨g, hg, g1, g2, g3⟩ := den_cmd (ξ := fun _ => undef) (G := G') (x := .agg ar) (by simp only [Den, DenL]; exact ⟨ar, rfl, hl⟩)
    obtain ⟨l⟩ := arr
    simp only at e0
    subst e0
    obtain ⟨g', ob, hg', hob, hbr⟩ := q2.blk b _ h2
    rw [hg] at hg'
    cases hg'
    obtain ⟨arr, lo, hi, rfl, hc, _, _⟩ := hbr
    obtain ⟨t0, t1, t2, t3⟩ := take4 h3
    have cell : ∀ j v y, cs[o + j]? = some v → (∀ z, Den (fun _ => undef) G' v z → z = y) → w'.cell? ⟨g.addr, g.off + o + j, none⟩ = some y := fun j v y hj hz => by
      obtain ⟨z, hz1, hz2⟩ := hc (o + j) v hj
      rw [Lib.cell_of_heap hob, Nat.add_assoc, hz1, hz z hz2]
    refine ⟨g.addr, g.off + o, g.cap - cut, ?_, ?_, by omega, ?_, q3.below (vars_ro _)⟩
    · rw [he, g3]
    · intro i n hi
      match i, hi with
      | 0, hi =>
        simp only [List.getElem?_cons_zero, Option.some.injEq] at hi
        subst hi
        simp only [Nat.zero_mul, Nat.add_zero]
        refine ⟨cell 0 _ _ t0 (fun z hz => by simpa [Den] using hz), cell 1 _ _ t1 (fun z hz => by simpa [Den] using hz), cell 2 _ _ t2 (fun z hz => ?_), cell 3 _ _ t3 (fun z hz => by simpa [Den] using hz)⟩
        simp only [Den] at hz
        exact hz.2
    · rcases Nat.lt_or_ge g.addr w.heap.size with hlt | hge
      · obtain ⟨b', x, g'', hb', hw', _⟩ := q3.wr g.addr hlt ⟨b, _, g, h2, trivial, hg, rfl⟩
        exact absurd hw' (vars_ro _ b' x hb')
      · exact hge
end Go.Proofs.YtdljidgmdjndgaaGreatDoor
