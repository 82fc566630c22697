/- runs: a command that lays text behind a line, its block; its lines found. -/
import Derived.Test.YtdljidgmdjndgaaGreatDoorRn7
import Derived.Test.YtdljidgmdjndgaaGreatDoorAd1
namespace Go.Proofs.YtdljidgmdjndgaaGreatDoor
open Go Go.Proofs Go.RowKit Go.Ink Go.Sort

/-- The cells of a command 'a' that is being done: its buffer, addresses, text, lines, how many addresses, what was done. -/
def runCellsA (c : Nat) (lv sv tx : Value) (a b n : Int) (dp : Nat) : Array Value :=
  #[.pointer (some ⟨c, 0, none⟩), lv, sv, .int .u8 97, .int .i64 0, .int .i64 0, .string ⟨#[]⟩, .int .i64 0, .int .u8 0, .string ⟨#[]⟩, .string ⟨#[]⟩, .bool false, .int .i64 0, .string ⟨#[]⟩, .string ⟨#[]⟩, .int .u8 0, tx, .int .i64 a, .int .i64 b, .int .i64 n, .pointer none, .slice none 0 0, .pointer (some ⟨dp, 0, none⟩)]
def RunA (w : World) (rb c : Nat) (lv sv tx : Value) (a b n : Int) (dp : Nat) : Prop := w.heap[rb]? = some (.cells (runCellsA c lv sv tx a b n dp) 111 (0, 0))
section
variable {S : Nat → Prop} {w w' : World} {rb c t : Nat} {lv sv tx : Value} {dp : Nat} {a b n : Int}
theorem RunA.lt (h : RunA w rb c lv sv tx a b n dp) : rb < w.heap.size := lt_of_heap h
theorem RunA.c0 (h : RunA w rb c lv sv tx a b n dp) : w.cell? ⟨rb, 0, none⟩ = some (.pointer (some ⟨c, 0, none⟩)) := by rw [Lib.cell_of_heap h]; rfl
theorem RunA.c1 (h : RunA w rb c lv sv tx a b n dp) : w.cell? ⟨rb, 1, none⟩ = some lv := by rw [Lib.cell_of_heap h]; rfl
theorem RunA.c2 (h : RunA w rb c lv sv tx a b n dp) : w.cell? ⟨rb, 2, none⟩ = some sv := by rw [Lib.cell_of_heap h]; rfl
theorem RunA.c3 (h : RunA w rb c lv sv tx a b n dp) : w.cell? ⟨rb, 3, none⟩ = some (.int .u8 97) := by rw [Lib.cell_of_heap h]; rfl
theorem RunA.c4 (h : RunA w rb c lv sv tx a b n dp) : w.cell? ⟨rb, 4, none⟩ = some (.int .i64 0) := by rw [Lib.cell_of_heap h]; rfl
theorem RunA.c5 (h : RunA w rb c lv sv tx a b n dp) : w.cell? ⟨rb, 5, none⟩ = some (.int .i64 0) := by rw [Lib.cell_of_heap h]; rfl
theorem RunA.c6 (h : RunA w rb c lv sv tx a b n dp) : w.cell? ⟨rb, 6, none⟩ = some (.string ⟨#[]⟩) := by rw [Lib.cell_of_heap h]; rfl
theorem RunA.c7 (h : RunA w rb c lv sv tx a b n dp) : w.cell? ⟨rb, 7, none⟩ = some (.int .i64 0) := by rw [Lib.cell_of_heap h]; rfl
theorem RunA.c15 (h : RunA w rb c lv sv tx a b n dp) : w.cell? ⟨rb, 15, none⟩ = some (.int .u8 0) := by rw [Lib.cell_of_heap h]; rfl
theorem RunA.c16 (h : RunA w rb c lv sv tx a b n dp) : w.cell? ⟨rb, 16, none⟩ = some tx := by rw [Lib.cell_of_heap h]; rfl
theorem RunA.c17 (h : RunA w rb c lv sv tx a b n dp) : w.cell? ⟨rb, 17, none⟩ = some (.int .i64 a) := by rw [Lib.cell_of_heap h]; rfl
theorem RunA.c18 (h : RunA w rb c lv sv tx a b n dp) : w.cell? ⟨rb, 18, none⟩ = some (.int .i64 b) := by rw [Lib.cell_of_heap h]; rfl
theorem RunA.c19 (h : RunA w rb c lv sv tx a b n dp) : w.cell? ⟨rb, 19, none⟩ = some (.int .i64 n) := by rw [Lib.cell_of_heap h]; rfl
theorem RunA.c22 (h : RunA w rb c lv sv tx a b n dp) : w.cell? ⟨rb, 22, none⟩ = some (.pointer (some ⟨dp, 0, none⟩)) := by rw [Lib.cell_of_heap h]; rfl
theorem RunA.fz (h : RunA w rb c lv sv tx a b n dp) (j : Nat) : w.frozen? ⟨rb, j, none⟩ = false := Lib.frozen_of_heap h j
theorem RunA.kept (h : RunA w rb c lv sv tx a b n dp) (hk : KeepT S w w') (hn : ¬ S rb) : RunA w' rb c lv sv tx a b n dp := (hk.block rb h.lt hn).trans h
theorem RunA.later (h : RunA w rb c lv sv tx a b n dp) (hb : Below w.heap.size w w') : RunA w' rb c lv sv tx a b n dp := (hb.block rb h.lt).trans h
theorem RunA.set17 (h : RunA w rb c lv sv tx a b n dp) (k : Int) : RunA (w.setCell ⟨rb, 17, none⟩ (.int .i64 k)) rb c lv sv tx k b n dp := (heap_set h _).trans rfl
theorem RunA.set18 (h : RunA w rb c lv sv tx a b n dp) (k : Int) : RunA (w.setCell ⟨rb, 18, none⟩ (.int .i64 k)) rb c lv sv tx a k n dp := (heap_set h _).trans rfl
theorem RunA.set19 (h : RunA w rb c lv sv tx a b n dp) (k : Int) : RunA (w.setCell ⟨rb, 19, none⟩ (.int .i64 k)) rb c lv sv tx a b k dp := (heap_set h _).trans rfl
/-- The lines are there. -/
theorem runAWithin_ok {ps : List (List Line)} {cur : Int} {i j : Nat} {m : Int} (h : RunA w rb c lv sv tx (i : Int) (j : Int) m dp) (hc : CoreOf S w c t cur ps) (h2 : i ≤ j) (h3 : j ≤ manyS ps) :
    Calls Tryz.prog 113 #[.pointer (some ⟨rb, 0, none⟩), .int .i64 0] w fun e w' => e = .returned (.int .i64 0) ∧ Below w.heap.size w w' := by
  have HN := Lib.hid (fun (X : World) (hb : Below w.heap.size w X) => coreN_of (hc.later hb))
  have e0 := h.c0
  have e17 := h.c17
  have e18 := h.c18
  obtain ⟨M, hM⟩ : ∃ M, M = manyS ps := ⟨_, rfl⟩
  rw [← hM] at HN h3
  have g1 : decide ((i : Int) < 0) = false := decide_eq_false (by omega)
  have g2 : decide ((j : Int) < (i : Int)) = false := decide_eq_false (by omega)
  have g3 : decide ((M : Int) < (j : Int)) = false := decide_eq_false (by omega)
  have g4 : decide (j < i) = false := decide_eq_false (by omega)
  have g5 : decide (M < j) = false := decide_eq_false (by omega)
  clear h hc hM
  have HX := Lib.hid (Below.refl w.heap.size w)
  go_enter Tryz.func113, Tryz.ntmps113
  go_wp2_with fail
  go_region_held3 (fun w' => w'.cell? ⟨rb, 0, none⟩ = some (.pointer (some ⟨c, 0, none⟩)) ∧ w'.cell? ⟨rb, 17, none⟩ = some (.int .i64 (i : Int)) ∧ w'.cell? ⟨rb, 18, none⟩ = some (.int .i64 (j : Int)))
    (first | exact ⟨e0, e17, e18⟩ | go_keep)
    (first
      | ((with_reducible refine (HN.out _ HX.out.drew).mono ?_); rintro e wM ⟨rfl, rfl⟩)
      | (fail "no arm"))
  go_wp2_with fail
  go_returns
  exact ⟨rfl, HX.out.drew⟩
end
end Go.Proofs.YtdljidgmdjndgaaGreatDoor
/- addr.Eval at numbers that lie anywhere in a block. -/
namespace Go.Proofs.YtdljidgmdjndgaaGreatDoor
open Go Go.Proofs Go.RowKit Go.Ink Go.Sort

/-- A row of addresses by number. -/
def NumRowQ (w : World) (b q : Nat) (ns : List Nat) : Prop := ∀ (k : Nat) i, ns[k]? = some i → w.cell? ⟨b, q + k * 4, none⟩ = some (.int .i64 3) ∧ w.cell? ⟨b, q + k * 4 + 1, none⟩ = some (.int .i64 (i : Int)) ∧ w.cell? ⟨b, q + k * 4 + 2, none⟩ = some (.string ⟨#[]⟩) ∧ w.cell? ⟨b, q + k * 4 + 3, none⟩ = some (.int .i64 0)
theorem NumRowQ.later {w w' : World} {b q : Nat} {ns : List Nat} (h : NumRowQ w b q ns) (hb : Below w.heap.size w w') : NumRowQ w' b q ns := fun k i hk => by
  obtain ⟨h0, h1, h2, h3⟩ := h k i hk
  exact ⟨(hb.cell (p := ⟨b, q + k * 4, none⟩) (lt_of_cell h0)).trans h0, (hb.cell (p := ⟨b, q + k * 4 + 1, none⟩) (lt_of_cell h1)).trans h1, (hb.cell (p := ⟨b, q + k * 4 + 2, none⟩) (lt_of_cell h2)).trans h2, (hb.cell (p := ⟨b, q + k * 4 + 3, none⟩) (lt_of_cell h3)).trans h3⟩
set_option maxRecDepth 100000 in
set_option maxHeartbeats 1000000 in
theorem addrEval_numsQ (w : World) (vc : List Value) (la : Option Addr) (n lcap b q cap : Nat) (ns : List Nat) (sv : Value) (last : List UInt8) (h0 : vc[0]? = some (.slice la n lcap)) (h28 : vc[28]? = some (.string ⟨last.toArray⟩)) (hr : NumRowQ w b q ns) (hsv : NoSemi w sv) (_hcap : ns.length ≤ cap)
    (hlen : ns.length ≤ 1000) (hin : ∀ i ∈ ns, i ≤ n) (hn : n ≤ 1000000) (hab : evA ns ns.length ≤ evB ns ns.length) (hpos : 1 ≤ ns.length) :
    Calls Tryz.prog 109 #[.agg vc.toArray, .agg #[.slice (some ⟨b, q, none⟩) ns.length cap, sv]] w fun e w' => e = .returned (.tuple #[.int .i64 (evA ns ns.length : Int), .int .i64 (evB ns ns.length : Int), .int .i64 (min ns.length 2 : Nat), .string ⟨last.toArray⟩, .int .i64 0]) ∧ Below w.heap.size w w' := by
  have hsv1 : sv.oneCell' = true := by rcases hsv with rfl | ⟨_, rfl, _⟩ <;> rfl
  go_enter Tryz.func109, Tryz.ntmps109
  go_wp2_with fail
  generalize hwB : (w.alloc _).alloc _ = wB
  have HB := Lib.hid (show Below w.heap.size w wB from hwB ▸ ((below_alloc w _).alloc (by simp) _))
  have HV0 := Lib.hid (show wB.heap[w.heap.size]? = some (.cells vc.toArray 172 (0, 0)) from hwB ▸ ((Below.heap_alloc _ _ _ (by simp)).trans (heap_alloc_at w _)))
  have HR0 := Lib.hid (show wB.heap[w.heap.size + 1]? = some (.cells #[.slice (some ⟨b, q, none⟩) ns.length cap, sv] 60 (0, 0)) from hwB ▸ (by
    have h := heap_alloc_at (w.alloc (.cells vc.toArray 172)) (.cells #[.slice (some ⟨b, q, none⟩) ns.length cap, sv] 60)
    rw [show (w.alloc (.cells vc.toArray 172)).heap.size = w.heap.size + 1 by simp] at h
    exact h))
  clear hwB
  have v0 : wB.cell? ⟨w.heap.size, 0, none⟩ = some (.slice la n lcap) := by rw [Lib.cell_of_heap HV0.out]; simpa using h0
  have v28 : wB.cell? ⟨w.heap.size, 28, none⟩ = some (.string ⟨last.toArray⟩) := by rw [Lib.cell_of_heap HV0.out]; simpa using h28
  have r0 : wB.cell? ⟨w.heap.size + 1, 0, none⟩ = some (.slice (some ⟨b, q, none⟩) ns.length cap) := by rw [Lib.cell_of_heap HR0.out]; rfl
  have r1 : wB.cell? ⟨w.heap.size + 1, 1, none⟩ = some sv := by rw [Lib.cell_of_heap HR0.out]; rfl
  have HNR := Lib.hid (hr.later HB.out)
  have HSV := Lib.hid (hsv.later HB.out)
  have HIN := Lib.hid hin
  have HAB := Lib.hid hab
  clear hr hsv hin hab
  go_loopw [4, 5, 16] (fun av bv iv wr => ∃ k : Nat, iv = .int .i64 k ∧ av = .int .i64 (evA ns k : Int) ∧ bv = .int .i64 (evB ns k : Int) ∧ k ≤ ns.length ∧ Hid (Below wB.heap.size wB wr)) (fun _ _ iv _ => ns.length - (intOf iv).toNat)
  case atStart => exact ⟨0, rfl, rfl, rfl, by omega, Lib.hid (Below.refl _ _)⟩
  case round =>
    obtain ⟨k, rfl, rfl, rfl, hk, HX⟩ := hrel
    by_cases hlt : k < ns.length
    · obtain ⟨i, hki⟩ : ∃ i, ns[k]? = some i := ⟨_, List.getElem?_eq_getElem hlt⟩
      obtain ⟨k0, k1, k2, k3⟩ := (HNR.out.later HX.out) k i hki
      have hi : i ≤ n := HIN.out i (List.mem_of_getElem? hki)
      have HNX := Lib.hid (evA_next ns k i hki)
      clear hki
      generalize evA ns k = A at *
      obtain ⟨B, hB⟩ : ∃ B, B = evB ns k := ⟨_, rfl⟩
      rw [← hB] at HNX ⊢
      clear hB
      have r0' := (HX.out.cell (p := ⟨w.heap.size + 1, 0, none⟩) (lt_of_cell r0)).trans r0
      have r1' := (HX.out.cell (p := ⟨w.heap.size + 1, 1, none⟩) (lt_of_cell r1)).trans r1
      by_cases hk0 : k = 0
      · subst hk0
        simp only [Nat.zero_mul, Nat.add_zero] at k0 k1 k2 k3
        go_wp2_with fail
        have HA := Lib.hid (HX.out.alloc HX.out.size (.cells #[.int .i64 3, .int .i64 (i : Int), .string ⟨#[]⟩, .int .i64 0] 62))
        refine (addrValue_num _ w.heap.size i n lcap la ((HA.out.cell (p := ⟨w.heap.size, 0, none⟩) (lt_of_cell v0)).trans v0) hi hn).mono ?_
        rintro e w1 ⟨rfl, hb1⟩
        have HB1 := Lib.hid (HA.out.trans (hb1.mono HA.out.size))
        have q0 := (HB1.out.cell (p := ⟨w.heap.size + 1, 0, none⟩) (lt_of_cell r0)).trans r0
        have q1 := (HB1.out.cell (p := ⟨w.heap.size + 1, 1, none⟩) (lt_of_cell r1)).trans r1
        clear hb1
        go_wp2_with fail
        refine (addrSemi_any w1 (.slice (some ⟨b, q, none⟩) ns.length cap) sv 0 (HSV.out.later HB1.out)).mono ?_
        rintro e w2 ⟨rfl, hb2⟩
        have HB2 := Lib.hid (HB1.out.trans (hb2.mono HB1.out.size))
        clear hb2
        go_wp2_with fail
        go_roundw
        case rel => exact ⟨0 + 1, by go_num, by rw [HNX.out.2, if_pos trivial], by rw [HNX.out.1], by omega, HB2⟩
        case measure => simp [intOf]; omega
      · have hk1 : ¬ (k : Int) = 0 := by omega
        have hkb : ((k : Int) == 0) = false := by rw [beq_eq_false_iff_ne]; exact hk1
        go_wp2_with fail
        have HA := Lib.hid (HX.out.alloc HX.out.size (.cells #[.int .i64 3, .int .i64 (i : Int), .string ⟨#[]⟩, .int .i64 0] 62))
        refine (addrValue_num _ w.heap.size i n lcap la ((HA.out.cell (p := ⟨w.heap.size, 0, none⟩) (lt_of_cell v0)).trans v0) hi hn).mono ?_
        rintro e w1 ⟨rfl, hb1⟩
        have HB1 := Lib.hid (HA.out.trans (hb1.mono HA.out.size))
        have q0 := (HB1.out.cell (p := ⟨w.heap.size + 1, 0, none⟩) (lt_of_cell r0)).trans r0
        have q1 := (HB1.out.cell (p := ⟨w.heap.size + 1, 1, none⟩) (lt_of_cell r1)).trans r1
        clear hb1
        go_wp2_with fail
        refine (addrSemi_any w1 (.slice (some ⟨b, q, none⟩) ns.length cap) sv k (HSV.out.later HB1.out)).mono ?_
        rintro e w2 ⟨rfl, hb2⟩
        have HB2 := Lib.hid (HB1.out.trans (hb2.mono HB1.out.size))
        clear hb2
        go_wp2_with fail
        go_roundw
        case rel => exact ⟨k + 1, by go_num, by rw [HNX.out.2, if_neg hk0], by rw [HNX.out.1], by omega, HB2⟩
        case measure => simp [intOf]; omega
    · have hkl : k = ns.length := by omega
      subst hkl
      have hab : ¬ ((evB ns ns.length : Nat) : Int) < (evA ns ns.length : Int) := by have := HAB.out; omega
      have q0 := (HX.out.cell (p := ⟨w.heap.size + 1, 0, none⟩) (lt_of_cell r0)).trans r0
      have q28 := (HX.out.cell (p := ⟨w.heap.size, 28, none⟩) (lt_of_cell v28)).trans v28
      have hmn : min (ns.length : Int) 2 = ((min ns.length 2 : Nat) : Int) := by omega
      have HBZ := Lib.hid (HB.out.trans (HX.out.mono HB.out.size))
      obtain ⟨A, hA⟩ : ∃ A, A = evA ns ns.length := ⟨_, rfl⟩
      obtain ⟨B, hB⟩ : ∃ B, B = evB ns ns.length := ⟨_, rfl⟩
      have HAE := Lib.hid hA
      have HBE := Lib.hid hB
      rw [← hA, ← hB] at hab
      rw [← hA, ← hB]
      clear hA hB
      go_wp2_with fail
      go_region_held3 (fun w' => w'.cell? ⟨w.heap.size + 1, 0, none⟩ = some (.slice (some ⟨b, q, none⟩) ns.length cap) ∧ w'.cell? ⟨w.heap.size, 28, none⟩ = some (.string ⟨last.toArray⟩))
        (first | exact ⟨q0, q28⟩ | go_keep)
        (fail "no arm")
      go_wp2_with fail
      go_returns
      rw [← HAE.out, ← HBE.out]
      exact ⟨rfl, HBZ.out.drew⟩
end Go.Proofs.YtdljidgmdjndgaaGreatDoor
/- runs: a command that lays text, its line found. -/
namespace Go.Proofs.YtdljidgmdjndgaaGreatDoor
open Go Go.Proofs Go.RowKit Go.Ink Go.Sort

section
variable {S : Nat → Prop} {w w' : World} {rb c t : Nat} {sv tx : Value} {dp lb lq lc2 : Nat} {a b n cur : Int} {r : Nat} {dirty : Bool} {undo was held : Option Addr} {dn : Value} {ps : List (List Line)}
set_option maxRecDepth 100000 in
set_option maxHeartbeats 1000000 in
theorem runAFind_ok {i : Nat} (h : RunA w rb c (.slice (some ⟨lb, lq, none⟩) 1 lc2) sv tx a b n dp) (hc : CoreB w c t cur [] r dirty undo was held dn) (ht : TabOf S w t ps) (hr : NumRowQ w lb lq [i]) (hsv : NoSemi w sv) (hlc : 1 ≤ lc2)
    (hSc : S c) (hSr : S rb) (hcr : c ≠ rb) (hl : ps.length ≤ 100000) (hm : manyS ps ≤ 1000000) (h3 : i ≤ manyS ps) :
    Calls Tryz.prog 77 #[.pointer (some ⟨rb, 0, none⟩)] w fun e w' => e = .returned (.int .i64 0) ∧ RunA w' rb c (.slice (some ⟨lb, lq, none⟩) 1 lc2) sv tx (i : Int) (i : Int) 1 dp ∧ CoreB w' c t cur [] r dirty undo was held dn ∧ KeepT (Two2 c rb) w w' := by
  have HR := Lib.hid h
  have HC := Lib.hid hc
  have HT := Lib.hid ht
  have HVW := Lib.hid (fun (X : World) (hb : Below w.heap.size w X) => coreView_any (hc.later hb) (ht.later hb) hl hm)
  have HEV := Lib.hid (show ∀ (X : World) (la : Option Addr) (lcp : Nat), Below w.heap.size w X → Calls Tryz.prog 109 #[.agg (viewCells (.slice la (manyS ps) lcp) cur []).toArray, .agg #[.slice (some ⟨lb, lq, none⟩) 1 lc2, sv]] X fun e w' => e = .returned (.tuple #[.int .i64 (i : Int), .int .i64 (i : Int), .int .i64 1, .string ⟨#[]⟩, .int .i64 0]) ∧ Below X.heap.size X w' from
    fun X la lcp hb => addrEval_numsQ X (viewCells (.slice la (manyS ps) lcp) cur []) la (manyS ps) lcp lb lq lc2 [i] sv [] rfl rfl (hr.later hb) (hsv.later hb) hlc (by simp) (fun x hx => by simp at hx; omega) hm (by simp [evA, evB]) (by simp))
  have HWI := Lib.hid (fun (X : World) (hR : RunA X rb c (.slice (some ⟨lb, lq, none⟩) 1 lc2) sv tx (i : Int) (i : Int) 1 dp) (hC : CoreB X c t cur [] r dirty undo was held dn) (hT : TabOf S X t ps) => runAWithin_ok (t := t) (cur := cur) hR (⟨hC.c0, hC.c1, hT, hl, hm⟩ : CoreOf S X c t cur ps) (Nat.le_refl _) h3)
  have e0 := h.c0
  have e1 := h.c1
  have e2 := h.c2
  have hsv1 : sv.oneCell' = true := by rcases hsv with rfl | ⟨_, rfl, _⟩ <;> rfl
  have HX := Lib.hid (Below.refl w.heap.size w)
  clear h hc ht hr hsv
  go_enter Tryz.func77, Tryz.ntmps77
  go_wp2_with fail
  go_region_held3 (fun w' => w'.cell? ⟨rb, 0, none⟩ = some (.pointer (some ⟨c, 0, none⟩)) ∧ w'.cell? ⟨rb, 1, none⟩ = some (.slice (some ⟨lb, lq, none⟩) 1 lc2) ∧ w'.cell? ⟨rb, 2, none⟩ = some sv)
    (first | exact ⟨e0, e1, e2⟩ | exact ⟨q0, q1, q2⟩ | exact ⟨p0, p1, p2⟩ | go_keep)
    (first
      | ((with_reducible refine (HVW.out _ HX.out.drew).mono ?_); rintro e w1 ⟨la, lcp, rfl, hs1, hb1⟩; have HB1 := Lib.hid (HX.out.drew.trans hb1); have q0 := (hb1.cell (p := ⟨rb, 0, none⟩) (lt_of_cell e0)).trans e0; have q1 := (hb1.cell (p := ⟨rb, 1, none⟩) (lt_of_cell e1)).trans e1; have q2 := (hb1.cell (p := ⟨rb, 2, none⟩) (lt_of_cell e2)).trans e2; clear hb1 hs1)
      | ((with_reducible refine (HEV.out _ la lcp HB1.out).mono ?_); rintro e w2 ⟨rfl, hb2⟩; have HB2 := Lib.hid (HB1.out.trans (hb2.mono HB1.out.size)); have p0 := (hb2.cell (p := ⟨rb, 0, none⟩) (lt_of_cell q0)).trans q0; have p1 := (hb2.cell (p := ⟨rb, 1, none⟩) (lt_of_cell q1)).trans q1; have p2 := (hb2.cell (p := ⟨rb, 2, none⟩) (lt_of_cell q2)).trans q2; clear hb2)
      | (fail "no arm"))
  have HC2 := Lib.hid (HC.out.later HB2.out)
  have HR2 := Lib.hid (HR.out.later HB2.out)
  have HT2 := Lib.hid (HT.out.later HB2.out)
  clear q0 q1 q2 p1 p2 e0 e1 e2 HX HB1 HVW HEV
  go_wp2_with fail
  refine (coreLast_of HC2.out []).mono ?_
  rintro e w3 ⟨rfl, hc3, hk3⟩
  have HC3 := Lib.hid hc3
  have HK3 := Lib.hid hk3
  have HR3 := Lib.hid (HR2.out.kept hk3 (by unfold Only; omega))
  have HT3 := Lib.hid (HT2.out.kept (hk3.mono (fun k _ hk => by unfold Only at hk; subst hk; exact hSc)))
  clear hc3 hk3
  have s17 := HR3.out.set17 (i : Int)
  have s18 := s17.set18 (i : Int)
  have s19 := s18.set19 1
  have s20 := s19.set17 (i : Int)
  have e17 := HR3.out.c17
  have e18 := s17.c18
  have e19 := s18.c19
  have e20 := s19.c17
  have g18 := s19.c18
  have g3 := s19.c3
  have f17 := HR3.out.fz 17
  have f18 := s17.fz 18
  have f19 := s18.fz 19
  have f20 := s19.fz 17
  have HR4 := Lib.hid s20
  have hk4 : KeepT (Only rb) w3 _ := keepIn (eqIn rb) (keepIn (eqIn rb) (keepIn (eqIn rb) (keepIn (eqIn rb) (KeepT.refl _ w3) 17 (.int .i64 (i : Int))) 18 (.int .i64 (i : Int))) 19 (.int .i64 1)) 17 (.int .i64 (i : Int))
  have HK4 := Lib.hid hk4
  have HC4 := Lib.hid (HC3.out.kept hk4 (by unfold Only; exact hcr))
  have HT4 := Lib.hid (HT3.out.kept (hk4.mono (fun k _ hk => by unfold Only at hk; subst hk; exact hSr)))
  clear s17 s18 s19 s20 hk4
  have n3 := HR4.out.c3
  go_wp2_with fail
  refine (HWI.out _ HR4.out HC4.out HT4.out).mono ?_
  rintro e w5 ⟨rfl, hb5⟩
  have HB5 := Lib.hid hb5
  clear hb5
  go_wp2_with fail
  go_returns
  refine ⟨rfl, HR4.out.later HB5.out, HC4.out.later HB5.out, ?_⟩
  have k1 : KeepT (Two2 c rb) w w3 := (KeepT.of_below (S := Two2 c rb) HB2.out).trans HK3.out (fun k _ hk => .inl hk)
  exact (k1.trans HK4.out (fun k _ hk => .inr hk)).then_below HB5.out
end
end Go.Proofs.YtdljidgmdjndgaaGreatDoor
