/- A buffer that is being edited (package core): how many lines, some of them, one of them, the current one, another one made current. -/
import Derived.Test.YtlcjjcmfpmflcaaGreatDoorPcs1
set_option linter.unusedVariables false
set_option linter.unusedSimpArgs false
namespace Go.Proofs.YtlcjjcmfpmflcaaGreatDoor
open Go Go.Proofs Go.RowKit Go.Ink Go.Sort

theorem tabLine_any {S : Nat → Prop} (b : Nat) (ps : List (List Line)) (i : Nat) (x : Line) (w : World) (ht : TabOf S w b ps) (hl : ps.length ≤ 100000) (hm : manyS ps ≤ 1000000) (h1 : 1 ≤ i) (hx : ps.flatten[i - 1]? = some x) :
    Calls Tryz.prog 73 #[.pointer (some ⟨b, 0, none⟩), .int .i64 (i : Int)] w fun e w' => e = .returned (.tuple #[.string ⟨x.toArray⟩, .bool true]) ∧ Below w.heap.size w w' := by
  have hlt := (List.getElem?_eq_some_iff.1 hx).1
  have hmf : manyS ps = ps.flatten.length := manyS_flat ps
  have hone : (ps.flatten.drop (i - 1)).take (i - (i - 1)) = [x] := by
    obtain ⟨hlt, rfl⟩ := List.getElem?_eq_some_iff.1 hx
    rw [show i - (i - 1) = 1 by omega, List.drop_eq_getElem_cons hlt]
    rfl
  have HL := Lib.hid (tabLinesAt_any b ps i i w ht hl hm h1 (Nat.le_refl _) (by omega))
  rw [hone] at HL
  clear ht hl hm hx hlt hmf hone
  go_enter Tryz.func73, Tryz.ntmps73
  go_wp2_with fail
  refine HL.out.mono ?_
  rintro e w1 ⟨v, rfl, ho, hb⟩
  have HB := Lib.hid hb
  obtain ⟨ao, cap, rfl, hs⟩ := ho.slOf
  obtain ⟨g, off, u, hao, hcell, hu⟩ := hs.2.2.2 0 x rfl
  subst hao
  have hu' : u = .string ⟨x.toArray⟩ := hu
  subst hu'
  clear ho hs hb hu
  rw [Nat.add_zero] at hcell
  simp only [List.length_cons, List.length_nil, Nat.zero_add]
  go_wp2_with fail
  go_returns
  exact ⟨rfl, HB.out⟩
/-- A buffer in block c: its table in block t, its current line. -/
structure CoreOf (S : Nat → Prop) (w : World) (c t : Nat) (cur : Int) (ps : List (List Line)) : Prop where
  ptr : w.cell? ⟨c, 0, none⟩ = some (.pointer (some ⟨t, 0, none⟩))
  now : w.cell? ⟨c, 1, none⟩ = some (.int .i64 cur)
  tab : TabOf S w t ps
  few : ps.length ≤ 100000
  many : manyS ps ≤ 1000000
theorem CoreOf.later {S : Nat → Prop} {w w' : World} {c t : Nat} {cur : Int} {ps : List (List Line)} (h : CoreOf S w c t cur ps) (hb : Below w.heap.size w w') : CoreOf S w' c t cur ps :=
  ⟨(hb.cell (p := ⟨c, 0, none⟩) (lt_of_cell h.ptr)).trans h.ptr, (hb.cell (p := ⟨c, 1, none⟩) (lt_of_cell h.now)).trans h.now, h.tab.later hb, h.few, h.many⟩
theorem coreNone_of {S : Nat → Prop} {w : World} {c t : Nat} {cur : Int} {ps : List (List Line)} (h : CoreOf S w c t cur ps) : Calls Tryz.prog 48 #[.pointer (some ⟨c, 0, none⟩)] w fun e w' => e = .returned (.bool false) ∧ w' = w := by
  have h0 := h.ptr
  clear h
  go_enter Tryz.func48, Tryz.ntmps48
  go_wp2_with fail
  go_returns
  exact ⟨rfl, rfl⟩
theorem coreN_of {S : Nat → Prop} {w : World} {c t : Nat} {cur : Int} {ps : List (List Line)} (h : CoreOf S w c t cur ps) : Calls Tryz.prog 20 #[.pointer (some ⟨c, 0, none⟩)] w fun e w' => e = .returned (.int .i64 (manyS ps)) ∧ w' = w := by
  have HN := Lib.hid (coreNone_of h)
  have HT := Lib.hid (tabLen_any t ps w h.tab)
  have h0 := h.ptr
  clear h
  go_enter Tryz.func20, Tryz.ntmps20
  go_wp2_with fail
  refine HN.out.mono ?_
  rintro e w1 ⟨rfl, rfl⟩
  go_wp2_with fail
  refine HT.out.mono ?_
  rintro e w2 ⟨rfl, rfl⟩
  go_wp2_with fail
  go_returns
  exact ⟨rfl, rfl⟩
theorem coreLines_of {S : Nat → Prop} {w : World} {c t : Nat} {cur : Int} {ps : List (List Line)} (h : CoreOf S w c t cur ps) (a e : Nat) (h1 : 1 ≤ a) (h2 : a ≤ e) (h3 : e ≤ manyS ps) : Calls Tryz.prog 19 #[.pointer (some ⟨c, 0, none⟩), .int .i64 (a : Int), .int .i64 (e : Int)] w fun e' w' => ∃ v, e' = .returned v ∧ OwnStrs w' w.heap.size v ((ps.flatten.drop (a - 1)).take (e - (a - 1))) ∧ Below w.heap.size w w' := by
  have HN := Lib.hid (coreNone_of h)
  have HT := Lib.hid (tabLinesAt_any t ps a e w h.tab h.few h.many h1 h2 h3)
  have h0 := h.ptr
  generalize (ps.flatten.drop (a - 1)).take (e - (a - 1)) = L at *
  clear h h1 h2 h3
  go_enter Tryz.func19, Tryz.ntmps19
  go_wp2_with fail
  refine HN.out.mono ?_
  rintro e w1 ⟨rfl, rfl⟩
  go_wp2_with fail
  refine HT.out.mono ?_
  rintro e w2 ⟨v, rfl, ho, hb⟩
  have HO := Lib.hid ho
  have HB := Lib.hid hb
  clear ho hb
  go_wp2_with fail
  go_returns
  exact ⟨v, rfl, HO.out, HB.out⟩
theorem coreLinesAll_of {S : Nat → Prop} {w : World} {c t : Nat} {cur : Int} {ps : List (List Line)} (h : CoreOf S w c t cur ps) : Calls Tryz.prog 19 #[.pointer (some ⟨c, 0, none⟩), .int .i64 ((1 : Nat) : Int), .int .i64 (manyS ps : Int)] w fun e' w' => ∃ v, e' = .returned v ∧ OwnStrs w' w.heap.size v ((ps.flatten.drop (1 - 1)).take (manyS ps - (1 - 1))) ∧ Below w.heap.size w w' := by
  have HN := Lib.hid (coreNone_of h)
  have HT := Lib.hid (tabLines_any t ps w h.tab h.few h.many)
  have h0 := h.ptr
  have HF := Lib.hid (show (ps.flatten.drop (1 - 1)).take (manyS ps - (1 - 1)) = ps.flatten by rw [manyS_flat, Nat.sub_self, Nat.sub_zero, List.drop_zero, List.take_length])
  rw [HF.out]
  clear h
  show Calls Tryz.prog 19 #[.pointer (some ⟨c, 0, none⟩), .int .i64 1, .int .i64 (manyS ps : Int)] w _
  go_enter Tryz.func19, Tryz.ntmps19
  go_wp2_with fail
  refine HN.out.mono ?_
  rintro e w1 ⟨rfl, rfl⟩
  go_wp2_with fail
  refine HT.out.mono ?_
  rintro e w2 ⟨v, rfl, ho, hb⟩
  have HO := Lib.hid ho
  have HB := Lib.hid hb
  clear ho hb
  go_wp2_with fail
  go_returns
  exact ⟨v, rfl, HO.out, HB.out⟩
theorem coreLine_of {S : Nat → Prop} {w : World} {c t : Nat} {cur : Int} {ps : List (List Line)} (h : CoreOf S w c t cur ps) (i : Nat) (x : Line) (h1 : 1 ≤ i) (hx : ps.flatten[i - 1]? = some x) : Calls Tryz.prog 32 #[.pointer (some ⟨c, 0, none⟩), .int .i64 (i : Int)] w fun e w' => e = .returned (.string ⟨x.toArray⟩) ∧ Below w.heap.size w w' := by
  have HN := Lib.hid (coreNone_of h)
  have HT := Lib.hid (tabLine_any t ps i x w h.tab h.few h.many h1 hx)
  have h0 := h.ptr
  clear h h1 hx
  go_enter Tryz.func32, Tryz.ntmps32
  go_wp2_with fail
  refine HN.out.mono ?_
  rintro e w1 ⟨rfl, rfl⟩
  go_wp2_with fail
  refine HT.out.mono ?_
  rintro e w2 ⟨rfl, hb⟩
  have HB := Lib.hid hb
  clear hb
  go_wp2_with fail
  go_returns
  exact ⟨rfl, HB.out⟩
end Go.Proofs.YtlcjjcmfpmflcaaGreatDoor
/- core.New: a buffer of lines, or none; registers that are new. -/
namespace Go.Proofs.YtlcjjcmfpmflcaaGreatDoor
open Go Go.Proofs Go.RowKit Go.Ink Go.Sort

theorem lt_of_heap' {w : World} {b : Nat} {o : Obj} (h : w.heap[b]? = some o) : b < w.heap.size := (Array.getElem?_eq_some_iff.1 h).1
/-- Registers that are new, in block r: their map in block m. -/
def NewRegs (w : World) (r : Nat) : Prop := ∃ m clk, w.heap[r]? = some (.cells #[.map (some m)] 136 (0, 0)) ∧ w.heap[m]? = some (.map #[] clk)
theorem NewRegs.later {w w' : World} {r : Nat} (h : NewRegs w r) (hb : Below w.heap.size w w') : NewRegs w' r := by
  obtain ⟨m, clk, h1, h2⟩ := h
  exact ⟨m, clk, (hb.block _ (lt_of_heap h1)).trans h1, (hb.block _ (lt_of_heap' h2)).trans h2⟩
theorem regsNew_any (w : World) : Calls Tryz.prog 34 #[] w fun e w' => ∃ r, e = .returned (.pointer (some ⟨r, 0, none⟩)) ∧ NewRegs w' r ∧ w.heap.size ≤ r ∧ Below w.heap.size w w' := by
  have hmm : ∀ (t : TypeId) (w : World), (Instr.makeMap t none).run Tryz.prog w = .ok (.map (some w.heap.size)) (w.alloc (.map #[] 0)) := fun _ _ => rfl
  go_enter Tryz.func34, Tryz.ntmps34
  go_wp2_with fail
  go_returns
  refine ⟨w.heap.size + 1, rfl, ⟨w.heap.size, 0, ?_, ?_⟩, Nat.le_succ _, ((Below.refl _ _).alloc (Nat.le_refl _) _).alloc (by simp) _⟩
  · show ((w.heap.push _).push _)[w.heap.size + 1]? = _
    rw [Array.getElem?_push, if_pos (by simp)]
  · show ((w.heap.push _).push _)[w.heap.size]? = _
    rw [Array.getElem?_push, if_neg (by simp), Array.getElem?_push, if_pos rfl]
/-- A buffer's cells: table, current line, marks, the last pattern, registers, changed, undo, was, held, done. -/
def coreCells (t : Nat) (cur : Int) (ms : List Int) (last : List UInt8) (r : Nat) (dirty : Bool) (undo was held : Option Addr) (dn : Value) : Array Value :=
  (([.pointer (some ⟨t, 0, none⟩), .int .i64 cur] : List Value) ++ ms.map (fun m => (Value.int .i64 m)) ++ ([.string ⟨last.toArray⟩, .pointer (some ⟨r, 0, none⟩), .bool dirty, .pointer undo, .pointer was, .pointer held, dn] : List Value)).toArray
def noMarks : List Int := List.replicate 26 0
set_option maxRecDepth 100000 in
set_option maxHeartbeats 2000000 in
theorem coreNew_of {S : Nat → Prop} (l : List Line) (ao : Option Addr) (cap : Nat) (w : World) (hl : SlOf IsStr w ao cap l) (hlen : l.length ≤ 100000) (h0 : checkL l = 0) (hS : ∀ k, S k → k < w.heap.size) :
    Calls Tryz.prog 9 #[.slice ao l.length cap] w fun e w' => ∃ c t, e = .returned (.tuple #[.pointer (some ⟨c, 0, none⟩), .int .i64 0]) ∧ CoreOf S w' c t (l.length : Int) (ofS [l]) ∧ (∃ r, w'.heap[c]? = some (.cells (coreCells t (l.length : Int) noMarks [] r false none none none (.slice none 0 0)) 93 (0, 0)) ∧ NewRegs w' r) ∧ w.heap.size ≤ c ∧ Below w.heap.size w w' := by
  have HT := Lib.hid ((tabNew_any (S := S) l ao cap w hl hlen hS).mono (R' := fun e w' => ∃ b, e = .returned (.pointer (some ⟨b, 0, none⟩)) ∧ TabOf S w' b (ofS [l]) ∧ Below w.heap.size w w') fun e w' h => by
    unfold NewTab at h
    rw [if_pos h0] at h
    exact h)
  have HM := Lib.hid (show manyS (ofS [l]) ≤ 1000000 by rw [manyS_ofS]; simp [manyS]; omega)
  have HF := Lib.hid (show (ofS [l]).length ≤ 100000 from Nat.le_trans (ofS_len [l]) (by simp))
  clear hl h0 hS
  go_enter Tryz.func9, Tryz.ntmps9
  go_wp2_with fail
  refine HT.out.mono ?_
  rintro e w1 ⟨t, rfl, ht, hb1⟩
  have HTB := Lib.hid ht
  have HB1 := Lib.hid hb1
  clear ht hb1
  go_wp2_with fail
  refine (regsNew_any _).mono ?_
  rintro e w2 ⟨r, rfl, hr, hrl, hb2⟩
  have HB2 := Lib.hid (HB1.out.trans (hb2.mono HB1.out.size))
  have HT2 := Lib.hid (HTB.out.later hb2)
  have HR := Lib.hid hr
  clear hr hrl hb2
  go_wp2_with fail
  go_returns
  refine ⟨w2.heap.size, t, rfl, ?_, ⟨r, (heap_alloc_at _ _).trans rfl, HR.out.later ((Below.refl _ _).alloc (Nat.le_refl _) _)⟩, HB2.out.size, HB2.out.alloc HB2.out.size _⟩
  exact ⟨by rw [Lib.cell_of_heap (heap_alloc_at _ _)]; rfl, by rw [Lib.cell_of_heap (heap_alloc_at _ _)]; rfl, HT2.out.later ((Below.refl _ _).alloc (Nat.le_refl _) _), HF.out, HM.out⟩
theorem coreNew_no (l : List Line) (ao : Option Addr) (cap : Nat) (w : World) (hl : SlOf IsStr w ao cap l) (hlen : l.length ≤ 100000) (h0 : checkL l ≠ 0) :
    Calls Tryz.prog 9 #[.slice ao l.length cap] w fun e w' => e = .returned (.tuple #[.pointer none, .int .i64 2]) ∧ w' = w := by
  have HT := Lib.hid ((tabNew_any (S := fun _ => False) l ao cap w hl hlen (fun _ h => h.elim)).mono (R' := fun e w' => e = .returned (.pointer none) ∧ w = w') fun e w' h => by
    unfold NewTab at h
    rw [if_neg h0] at h
    exact h)
  clear hl h0
  go_enter Tryz.func9, Tryz.ntmps9
  go_wp2_with fail
  refine HT.out.mono ?_
  rintro e w1 ⟨rfl, rfl⟩
  go_wp2_with fail
  go_returns
  exact ⟨rfl, rfl⟩
end Go.Proofs.YtlcjjcmfpmflcaaGreatDoor
/- core: another line made the current one. -/
namespace Go.Proofs.YtlcjjcmfpmflcaaGreatDoor
open Go Go.Proofs Go.RowKit Go.Ink Go.Sort

theorem coreGo_of {S : Nat → Prop} {w : World} {c t : Nat} {cur : Int} {ps : List (List Line)} {cs : Array Value} (h : CoreOf S w c t cur ps) (hb : w.heap[c]? = some (.cells cs 93 (0, 0))) (k : Nat) (hk : k ≤ manyS ps) :
    Calls Tryz.prog 130 #[.pointer (some ⟨c, 0, none⟩), .int .i64 (k : Int)] w fun e w' => e = .returned (.int .i64 0) ∧ w' = w.setCell ⟨c, 1, none⟩ (.int .i64 (k : Int)) := by
  have HN := Lib.hid (coreNone_of h)
  have HM := Lib.hid (coreN_of h)
  have h1 := h.now
  have hf := Lib.frozen_of_heap hb 1
  have hk0 : ¬ (k : Int) < 0 := by omega
  obtain ⟨M, hM⟩ : ∃ M, manyS ps = M := ⟨_, rfl⟩
  rw [hM] at hk HM
  have hki : ¬ (M : Int) < (k : Int) := by omega
  clear h hb hM
  go_enter Tryz.func130, Tryz.ntmps130
  go_wp2_with fail
  refine HN.out.mono ?_
  rintro e w1 ⟨rfl, rfl⟩
  go_wp2_with fail
  refine HM.out.mono ?_
  rintro e w2 ⟨rfl, rfl⟩
  go_wp2_with fail
  go_returns
  exact ⟨rfl, rfl⟩
end Go.Proofs.YtlcjjcmfpmflcaaGreatDoor
/- marks.Line: where a line is behind a splice. -/
namespace Go.Proofs.YtlcjjcmfpmflcaaGreatDoor
open Go Go.Proofs Go.RowKit Go.Ink Go.Sort

def lineM (n a d L : Nat) : Int × Bool := if n < 1 then (0, false) else if n ≤ a then ((n : Int), true) else if n - a ≤ d then (0, false) else ((n : Int) - d + L, true)
theorem marksLine_any (n a d L : Nat) (ao : Option Addr) (cap : Nat) (w : World) (h1 : n ≤ 1000000) (h2 : a ≤ 1000000) (h3 : d ≤ 1000000) (h4 : L ≤ 1000000) :
    Calls Tryz.prog 53 #[.int .i64 (n : Int), .agg #[.int .i64 (a : Int), .int .i64 (d : Int), .slice ao L cap]] w fun e w' => e = .returned (.tuple #[.int .i64 (lineM n a d L).1, .bool (lineM n a d L).2]) ∧ Below w.heap.size w w' := by
  have ha : ¬ (a : Int) < 0 := by omega
  have hd : ¬ (d : Int) < 0 := by omega
  have hw1 : IntKind.i64.wrap ((n : Int) - (a : Int)) = (n : Int) - (a : Int) := IntWalk.i64_in _ (by omega)
  have hw2 : IntKind.i64.wrap ((n : Int) - (d : Int)) = (n : Int) - (d : Int) := IntWalk.i64_in _ (by omega)
  have hw3 : IntKind.i64.wrap ((n : Int) - (d : Int) + (L : Int)) = (n : Int) - (d : Int) + (L : Int) := IntWalk.i64_in _ (by omega)
  by_cases c1 : n < 1
  · have HL := Lib.hid (show lineM n a d L = (0, false) by unfold lineM; rw [if_pos c1])
    have c1i : (n : Int) < 1 := by omega
    rw [HL.out]
    clear c1 HL
    go_enter Tryz.func53, Tryz.ntmps53
    go_wp2_with fail
    go_returns
    exact ⟨rfl, (Below.refl _ _).alloc (Nat.le_refl _) _⟩
  have c1i : ¬ (n : Int) < 1 := by omega
  by_cases c2 : n ≤ a
  · have HL := Lib.hid (show lineM n a d L = ((n : Int), true) by unfold lineM; rw [if_neg c1, if_pos c2])
    have c2i : (n : Int) ≤ (a : Int) := by omega
    rw [HL.out]
    clear c1 c2 HL
    go_enter Tryz.func53, Tryz.ntmps53
    go_wp2_with fail
    go_returns
    exact ⟨rfl, (Below.refl _ _).alloc (Nat.le_refl _) _⟩
  have c2i : ¬ (n : Int) ≤ (a : Int) := by omega
  by_cases c3 : n - a ≤ d
  · have HL := Lib.hid (show lineM n a d L = (0, false) by unfold lineM; rw [if_neg c1, if_neg c2, if_pos c3])
    have c3i : (n : Int) - (a : Int) ≤ (d : Int) := by omega
    rw [HL.out]
    clear c1 c2 c3 HL
    go_enter Tryz.func53, Tryz.ntmps53
    go_wp2_with fail
    go_returns
    exact ⟨rfl, (Below.refl _ _).alloc (Nat.le_refl _) _⟩
  · have HL := Lib.hid (show lineM n a d L = ((n : Int) - d + L, true) by unfold lineM; rw [if_neg c1, if_neg c2, if_neg c3])
    have c3i : ¬ (n : Int) - (a : Int) ≤ (d : Int) := by omega
    rw [HL.out]
    clear c1 c2 c3 HL
    go_enter Tryz.func53, Tryz.ntmps53
    go_wp2_with fail
    go_returns
    exact ⟨rfl, (Below.refl _ _).alloc (Nat.le_refl _) _⟩
end Go.Proofs.YtlcjjcmfpmflcaaGreatDoor
