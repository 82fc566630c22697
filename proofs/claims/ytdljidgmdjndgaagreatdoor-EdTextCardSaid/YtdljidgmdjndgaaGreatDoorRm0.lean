/- What RunsMove's own walk asks: lines that stay, row by row; an append of texts that lie anywhere; a buffer behind a change. -/
import Derived.Test.YtdljidgmdjndgaaGreatDoorRn7
import Derived.Test.YtdljidgmdjndgaaGreatDoorMo1
import Derived.Test.YtdljidgmdjndgaaGreatDoorLawM
import Derived.Laws.AppendOwnNone
import Derived.Test.YtdljidgmdjndgaaGreatDoorPc0
import Derived.Laws.Slices
import Derived.Test.YtdljidgmdjndgaaGreatDoorGreat
import Derived.Test.YtdljidgmdjndgaaGreatDoorBase
import Derived.Deep.QuietTactic
import Derived.BigQuiet
import Derived.WalkSmall
namespace Go.Proofs.YtdljidgmdjndgaaGreatDoor
open Go Go.Proofs Go.RowKit Go.Ink Go.Sort

theorem moveR_next {l : List Line} {I J k : Nat} {x : Line} (h1 : 1 ≤ I) (h2 : I ≤ J) (hk : l[k]? = some x) :
    moveR (l.take (k + 1)) I J = moveR (l.take k) I J ++ (if k + 1 < I ∨ J < k + 1 then [x] else []) := by
  obtain ⟨hlt, rfl⟩ := List.getElem?_eq_some_iff.1 hk
  have hlen : (l.take k).length = k := by rw [List.length_take]; omega
  unfold moveR
  rw [List.take_succ_eq_append_getElem hlt, List.take_append, List.drop_append, hlen]
  by_cases a : k + 1 < I
  · rw [if_pos (.inl a), List.take_of_length_le (l := [l[k]]) (by simp; omega), show J - k = (J - k - 1) + 1 by omega, List.drop_of_length_le (l := l.take k) (i := J) (by omega), List.take_of_length_le (l := l.take k) (by omega)]
    simp
  · by_cases b : J < k + 1
    · rw [if_pos (.inr b), show I - 1 - k = 0 by omega, show J - k = 0 by omega]
      simp
    · rw [if_neg (by omega), show I - 1 - k = 0 by omega, List.drop_of_length_le (l := [l[k]]) (by simp; omega)]
      simp
theorem moveR_nil (I J : Nat) : moveR [] I J = [] := by unfold moveR; simp
theorem moveR_le {l : List Line} {I J : Nat} (h : I ≤ J) : (moveR l I J).length ≤ l.length := by
  unfold moveR
  rw [List.length_append, List.length_take, List.length_drop]; omega
theorem moveK_le {l : List Line} {I J D : Nat} (h1 : 1 ≤ I) (h2 : I ≤ J) (h3 : J ≤ l.length) (h4 : D ≤ l.length) (h5 : ¬ (I ≤ D ∧ D < J)) : moveK I J D ≤ (moveR l I J).length := by
  rw [moveR_len h1 h2 h3]
  unfold moveK
  split <;> omega
theorem manyS_one (l : List Line) : manyS (ofS [l]) = l.length := by rw [manyS_ofS, manyS_flat]; simp
theorem ofS_one (l : List Line) : (ofS [l]).flatten = l := by rw [ofS_flat]; simp

/-- append of texts that lie somewhere to texts of the call's own. -/
theorem wpList_append_any {w : World} {ops : Array Oper} {rest : List Oper} {o : Oper} {a : Act} {Q : Exit → Act → World → Prop} (hgd : o.guard = none) (s x : Operand)
    (ho : o.op = .call { callee := .builtin .append, args := #[s, x], argTypes := #[22, 22] })
    (base : Nat) (v : Value) (xs : List Line) (hs : a.eval s = v) (hown : OwnStrs w base v xs) (ao : Option Addr) (n c : Nat) (l : List Line) (hn : l.length = n) (hx : a.eval x = .slice ao n c) (hl : SlOf IsStr w ao c l)
    (hb : base ≤ w.heap.size) (hsz : xs.length + l.length ≤ 1000000)
    (h : ∀ v' w', OwnStrs w' base v' (xs ++ l) → Below base w w' → wpList Tryz.prog ops Q rest (a.put o.dst v') w') : wpList Tryz.prog ops Q (o :: rest) a w := by
  subst hn
  obtain ⟨i0, hi, hz0, hz1, hz2⟩ := info_parts str_info
  cases ao with
  | none =>
    have hc : c = 0 := hl.2.2.1 rfl
    have h0 : l = [] := List.eq_nil_of_length_eq_zero (by have := hl.1; omega)
    subst hc h0
    exact wpList_append_own_none hgd s x 22 ho base 9 i0 1 Tryz.underlying22 hi v _ _ hs hown hx (h v w (by rw [List.append_nil]; exact hown) (Below.refl _ _))
  | some ad =>
    refine wpList_append_own _ hgd s x 22 ho base 9 i0 (.string ⟨#[]⟩) 1 16 Tryz.underlying22 hi hz0 hz1 hz2 rfl (by decide) v _ _ hs hown ad l.length c (strVs l) hx (by simp [strVs]) (SlOf.strVs hl) (strVs_one l) (by unfold maxLen; omega) (by omega) hb ?_
    intro v' w' h2 h3 _
    exact h v' w' (by simpa [OwnStrs, strVs] using h2) ((Below.refl _ _).grown h3 hb (fun k hk => (hown.lt k hk).1))

/-- A command and its addresses, laid one behind the other. -/
theorem three_blocks (w : World) (o : Obj) (T1 T2 : TypeId) (I J : Nat) : ∀ wE, wE = ((w.alloc o).alloc (.cells #[.int .i64 3, .int .i64 (I : Int), .string ⟨#[]⟩, .int .i64 0, .int .i64 3, .int .i64 (J : Int), .string ⟨#[]⟩, .int .i64 0] T1)).alloc (.cells #[.bool false] T2) →
    Below w.heap.size w wE ∧ NumRow wE (w.heap.size + 1) [I, J] ∧ wE.cell? ⟨w.heap.size + 1 + 1, 0, none⟩ = some (.bool false) ∧ w.heap.size + 3 = wE.heap.size := by
  rintro wE rfl
  have hb1 := below_alloc w o
  have h2 := heap_alloc_at (w.alloc o) (.cells #[.int .i64 3, .int .i64 (I : Int), .string ⟨#[]⟩, .int .i64 0, .int .i64 3, .int .i64 (J : Int), .string ⟨#[]⟩, .int .i64 0] T1)
  have hb2 := below_alloc (w.alloc o) (.cells #[.int .i64 3, .int .i64 (I : Int), .string ⟨#[]⟩, .int .i64 0, .int .i64 3, .int .i64 (J : Int), .string ⟨#[]⟩, .int .i64 0] T1)
  have h3 := heap_alloc_at ((w.alloc o).alloc (.cells #[.int .i64 3, .int .i64 (I : Int), .string ⟨#[]⟩, .int .i64 0, .int .i64 3, .int .i64 (J : Int), .string ⟨#[]⟩, .int .i64 0] T1)) (.cells #[.bool false] T2)
  have hb3 := below_alloc ((w.alloc o).alloc (.cells #[.int .i64 3, .int .i64 (I : Int), .string ⟨#[]⟩, .int .i64 0, .int .i64 3, .int .i64 (J : Int), .string ⟨#[]⟩, .int .i64 0] T1)) (.cells #[.bool false] T2)
  have s1 : (w.alloc o).heap.size = w.heap.size + 1 := by simp
  generalize hw1 : w.alloc o = w1 at *
  generalize hw2 : w1.alloc _ = w2 at *
  have s2 : w2.heap.size = w.heap.size + 1 + 1 := by rw [← hw2, ← s1]; simp
  have h2' : w2.heap[w.heap.size + 1]? = some (.cells #[.int .i64 3, .int .i64 (I : Int), .string ⟨#[]⟩, .int .i64 0, .int .i64 3, .int .i64 (J : Int), .string ⟨#[]⟩, .int .i64 0] T1) := by rw [← s1]; exact h2
  have h3' := h3
  rw [s2] at h3'
  have hk := (hb3.block (w.heap.size + 1) (by omega)).trans h2'
  refine ⟨?_, fun k i hi => ?_, ?_, ?_⟩
  · exact (hb1.trans (hb2.mono (by omega))).trans (hb3.mono (by omega))
  · match k, hi with
    | 0, hi => simp at hi; subst hi; refine ⟨?_, ?_, ?_, ?_⟩ <;> (rw [Lib.cell_of_heap hk]; rfl)
    | 1, hi => simp at hi; subst hi; refine ⟨?_, ?_, ?_, ?_⟩ <;> (rw [Lib.cell_of_heap hk]; rfl)
  · rw [Lib.cell_of_heap h3']; rfl
  · simp; omega
/-- What a buffer behind a change tells. -/
theorem EndB.core {w w' : World} {B c : Nat} {F : List Line} {cur : Nat} (h : EndB w w' B c F cur) (hF : F.length ≤ 1000000) : ∃ S' t' ps', CoreOf S' w' c t' (cur : Int) ps' ∧ ps'.flatten = F ∧ manyS ps' = F.length := by
  obtain ⟨t', r', dirty', undo', hc, ⟨S', ps', _, ht, hf, hn⟩, _⟩ := h
  have hm : manyS ps' = F.length := by rw [manyS_flat, hf]
  exact ⟨S', t', ps', ⟨hc.c0, hc.c1, ht, hn, by omega⟩, hf, hm⟩
theorem below_draw {B : Nat} (w : World) (n : Nat) : Below B w (w.drewN n) := ⟨rfl, rfl, rfl, Nat.le_refl _, fun _ _ => rfl⟩
theorem one_text (w : World) (x : Line) (T : TypeId) : SlOf IsStr (w.alloc (.cells #[.string ⟨x.toArray⟩] T (0, 0))) (some ⟨w.heap.size, 0, none⟩) 1 [x] := by
  have hb := heap_alloc_at w (.cells #[.string ⟨x.toArray⟩] T (0, 0))
  refine ⟨by simp, by unfold maxLen; omega, by simp, fun k y hk => ?_⟩
  match k, hk with
  | 0, hk => simp at hk; subst hk; exact ⟨_, 0, _, rfl, by rw [Lib.cell_of_heap hb]; rfl, rfl⟩
theorem one_textN {w : World} {n : Nat} (hn : w.heap.size = n) (x : Line) (T : TypeId) : SlOf IsStr (w.alloc (.cells #[.string ⟨x.toArray⟩] T (0, 0))) (some ⟨n, 0, none⟩) 1 [x] := by
  subst hn
  exact one_text w x T
theorem slOf_dropI {w : World} {ad : Addr} {cap : Nat} {l : List Line} (h : SlOf IsStr w (some ad) cap l) (p : Nat) : SlOf IsStr w (if cap = p then some ad else some (ad.add p)) (cap - p) (l.drop p) := by
  by_cases hpc : cap = p
  · have : l.drop p = [] := List.drop_eq_nil_of_le (by have := h.1; omega)
    rw [if_pos hpc, this]
    exact slOf_nil ad _ (by have := h.2.1; omega)
  · rw [if_neg hpc]
    exact slOf_drop h p
theorem EndB.below {w w' : World} {B c : Nat} {F : List Line} {cur : Nat} (h : EndB w w' B c F cur) : Below B w w' := by
  obtain ⟨_, _, _, _, _, _, hb⟩ := h
  exact hb
/-- All lines of a buffer. -/
theorem coreAll_of {S : Nat → Prop} {w : World} {c t : Nat} {cur : Int} {ps : List (List Line)} (h : CoreOf S w c t cur ps) (F : List Line) (hF : ps.flatten = F) (hm : manyS ps = F.length) (n : Nat) (hn : F.length = n) (h1 : 1 ≤ n) :
    Calls Tryz.prog 12 #[.pointer (some ⟨c, 0, none⟩), .int .i64 1, .int .i64 (n : Int)] w fun e' w' => ∃ ao cap, e' = .returned (.slice ao F.length cap) ∧ SlOf IsStr w' ao cap F ∧ Below w.heap.size w w' := by
  refine (coreLines_of h 1 n (Nat.le_refl _) h1 (by omega)).mono ?_
  rintro e w' ⟨v, rfl, ho, hb⟩
  rw [hF, Nat.sub_self, List.drop_zero, Nat.sub_zero, List.take_of_length_le (by omega)] at ho
  obtain ⟨ao, cap, rfl, hs⟩ := ho.slOf
  exact ⟨ao, cap, rfl, hs, hb⟩
theorem moveW_len {l : List Line} {I J D : Nat} (h1 : 1 ≤ I) (h2 : I ≤ J) (h3 : J ≤ l.length) (h4 : D ≤ l.length) (h5 : ¬ (I ≤ D ∧ D < J)) : (moveW l I J D).length = l.length := by
  have hk := moveK_le h1 h2 h3 h4 h5
  have hr := moveR_len h1 h2 h3
  have hl := moveL_len h1 h2 h3
  unfold moveW
  rw [List.length_append, List.length_append, List.length_take, List.length_drop]
  omega
end Go.Proofs.YtdljidgmdjndgaaGreatDoor
/- A slice of a slice of texts, as a law for the walk: where it lies stays open. -/
namespace Go.Proofs.YtdljidgmdjndgaaGreatDoor
open Go Go.Proofs Go.RowKit Go.Ink

theorem slOf_sliced {w : World} {ao : Option Addr} {c : Nat} {l : List Line} (h : SlOf IsStr w ao c l) (i j : Nat) (h1 : i ≤ j) (h2 : j ≤ l.length) :
    ∃ ao' c', sliced ao i j c 1 = .slice ao' (j - i) c' ∧ SlOf IsStr w ao' c' ((l.take j).drop i) := by
  have hc := h.1
  have hm := h.2.1
  refine ⟨_, _, rfl, ?_⟩
  cases ao with
  | none =>
    have h0 : c = 0 := h.2.2.1 rfl
    have hl : l = [] := List.eq_nil_of_length_eq_zero (by omega)
    subst h0 hl
    have e : (if 0 = i then (none : Option Addr) else Option.map (fun x : Addr => x.add (i * 1)) none) = none := by split <;> rfl
    rw [Nat.zero_sub, e]
    simpa using slOf_none w
  | some ad =>
    have hj := slOf_take h j
    rw [Nat.mul_one]
    by_cases e : c = i
    · rw [if_pos e, List.drop_eq_nil_of_le (by rw [List.length_take]; omega)]
      exact slOf_nil ad _ (by omega)
    · rw [if_neg e]
      exact slOf_drop hj i
theorem elem_strs : Tryz.prog.elem 22 = 9 := by kernel_rfl
theorem size_strs (w : World) : (sizeOf 9).run Tryz.prog w = .ok 1 w := by kernel_rfl
theorem under_strs : Tryz.prog.underlying 22 = some (.slice (Tryz.prog.elem 22)) := by rw [elem_strs]; exact Tryz.underlying22
section
variable {w : World} {ops : Array Oper} {rest : List Oper} {o : Oper} {a : Act} {Q : Exit → Act → World → Prop}
theorem wpList_cut_h (hgd : o.guard = none) (s x : Operand) (ho : o.op = .slice 22 s none (some x) none) (ao : Option Addr) (n c : Nat) (hs : a.eval s = .slice ao n c) (l : List Line) (hn : l.length = n) (hl : SlOf IsStr w ao c l)
    (z : Int) (hx : a.eval x = .int .i64 z) (k : Nat) (hz : z = (k : Int)) (hk : k ≤ n) (h : ∀ ao' c', SlOf IsStr w ao' c' (l.take k) → wpList Tryz.prog ops Q rest (a.put o.dst (.slice ao' k c')) w) : wpList Tryz.prog ops Q (o :: rest) a w := by
  subst hn hz
  obtain ⟨ao', c', e, h1⟩ := slOf_sliced hl 0 k (Nat.zero_le _) hk
  rw [Nat.sub_zero] at e
  have hr : (Instr.sliceAt 22 (.slice ao l.length c) none (some (.int .i64 (k : Int))) none).run Tryz.prog w = .ok (.slice ao' k c') w := by
    rw [run_sliceAt_slice w _ _ _ _ _ under_strs, run_slice_h w _ ao l.length c under_strs .i64 (k : Int) (by omega) (by have := hl.1; omega), elem_strs, size_strs]
    simp only [Result.andThen, Int.toNat_natCast]
    rw [e]
  refine wpList_plain hgd fun K hK => ?_
  unfold Oper.wp
  simp [execOp, ho, hs, hx, hr, Result.andThen]
  exact hK _ _ (h ao' c' h1)
theorem wpList_cut_l (hgd : o.guard = none) (s x : Operand) (ho : o.op = .slice 22 s (some x) none none) (ao : Option Addr) (n c : Nat) (hs : a.eval s = .slice ao n c) (l : List Line) (hn : l.length = n) (hl : SlOf IsStr w ao c l)
    (z : Int) (hx : a.eval x = .int .i64 z) (k : Nat) (hz : z = (k : Int)) (hk : k ≤ n) (h : ∀ ao' c', SlOf IsStr w ao' c' (l.drop k) → wpList Tryz.prog ops Q rest (a.put o.dst (.slice ao' (n - k) c')) w) : wpList Tryz.prog ops Q (o :: rest) a w := by
  subst hn hz
  obtain ⟨ao', c', e, h1⟩ := slOf_sliced hl k l.length hk (Nat.le_refl _)
  rw [List.take_length] at h1
  have hr : (Instr.sliceAt 22 (.slice ao l.length c) (some (.int .i64 (k : Int))) none none).run Tryz.prog w = .ok (.slice ao' (l.length - k) c') w := by
    rw [run_sliceAt_slice w _ _ _ _ _ under_strs, run_slice_l w _ ao l.length c under_strs .i64 (k : Int) (by omega) (by omega), elem_strs, size_strs]
    simp only [Result.andThen, Int.toNat_natCast]
    rw [e]
  refine wpList_plain hgd fun K hK => ?_
  unfold Oper.wp
  simp [execOp, ho, hs, hx, hr, Result.andThen]
  exact hK _ _ (h ao' c' h1)
theorem wpList_cut_lh (hgd : o.guard = none) (s x y : Operand) (ho : o.op = .slice 22 s (some x) (some y) none) (ao : Option Addr) (n c : Nat) (hs : a.eval s = .slice ao n c) (l : List Line) (hn : l.length = n) (hl : SlOf IsStr w ao c l)
    (z : Int) (hx : a.eval x = .int .i64 z) (z' : Int) (hy : a.eval y = .int .i64 z') (i j : Nat) (hz : z = (i : Int)) (hz' : z' = (j : Int)) (hij : i ≤ j) (hj : j ≤ n) (h : ∀ ao' c', SlOf IsStr w ao' c' ((l.take j).drop i) → wpList Tryz.prog ops Q rest (a.put o.dst (.slice ao' (j - i) c')) w) : wpList Tryz.prog ops Q (o :: rest) a w := by
  subst hn hz hz'
  obtain ⟨ao', c', e, h1⟩ := slOf_sliced hl i j hij hj
  have hr : (Instr.sliceAt 22 (.slice ao l.length c) (some (.int .i64 (i : Int))) (some (.int .i64 (j : Int))) none).run Tryz.prog w = .ok (.slice ao' (j - i) c') w := by
    rw [run_sliceAt_slice w _ _ _ _ _ under_strs, run_slice_lh w _ ao l.length c under_strs .i64 .i64 (i : Int) (j : Int) (by omega) (by omega) (by have := hl.1; omega), elem_strs, size_strs]
    simp only [Result.andThen, Int.toNat_natCast]
    rw [e]
  refine wpList_plain hgd fun K hK => ?_
  unfold Oper.wp
  simp [execOp, ho, hs, hx, hy, hr, Result.andThen]
  exact hK _ _ (h ao' c' h1)
end
end Go.Proofs.YtdljidgmdjndgaaGreatDoor
/- inkhornlaw17.SameLines, inkhornlaw23.BeyondText. -/
namespace Go.Proofs.YtdljidgmdjndgaaGreatDoor
open Go Go.Proofs Go.RowKit Go.Ink

theorem sameS_false_of {a b : List (List UInt8)} (h : a ≠ b) : sameS a b = false := by
  cases e : sameS a b with
  | false => rfl
  | true => exact absurd ((sameS_iff a b).1 e) h

set_option maxHeartbeats 1000000 in
theorem same17_any (a b : List (List UInt8)) (ao1 ao2 : Option Addr) (cap1 cap2 : Nat) (w : World) (ha : SlOf IsStr w ao1 cap1 a) (hb : SlOf IsStr w ao2 cap2 b) :
    Calls Tryz.prog 11 #[.slice ao1 a.length cap1, .slice ao2 b.length cap2] w fun e w' => e = .returned (.bool (sameS a b)) ∧ ∃ n, w' = w.drewN n := by
  have HA := Lib.hid ha
  have HB := Lib.hid hb
  have hc : a.length ≤ 9223372036854775807 := Nat.le_trans ha.1 ha.2.1
  clear ha hb
  by_cases hl : a.length = b.length
  · have HL := Lib.hid hl
    have hle : ((a.length : Int) == (b.length : Int)) = true := by rw [hl]; simp
    have hblt : a.length ≤ b.length := by omega
    rw [← hl]
    clear hl hle
    go_enter Tryz.func11, Tryz.ntmps11
    go_wp2_with fail
    go_loopw [5] (fun i wr => ∃ k : Nat, i = .int .i64 k ∧ k ≤ a.length ∧ Hid (∀ j, j < k → a[j]? = b[j]?) ∧ ∃ n, wr = w.drewN n) (fun i _ => a.length - (intOf i).toNat)
    case atStart => exact ⟨0, rfl, by omega, Lib.hid (fun j hj => by omega), 0, rfl⟩
    case round =>
      obtain ⟨k, rfl, hk, heq, n, rfl⟩ := hrel
      by_cases hlt : k < a.length
      · obtain ⟨c, hkc⟩ : ∃ c, a[k]? = some c := ⟨_, List.getElem?_eq_getElem hlt⟩
        obtain ⟨d, hkd⟩ : ∃ d, b[k]? = some d := ⟨_, List.getElem?_eq_getElem (by omega)⟩
        obtain ⟨g1, off1, u, hao1, hcell1, hu⟩ := HA.out.2.2.2 k c hkc
        obtain ⟨g2, off2, u', hao2, hcell2, hu'⟩ := HB.out.2.2.2 k d hkd
        subst hao1 hao2
        have h1 : u = .string ⟨c.toArray⟩ := hu
        have h2 : u' = .string ⟨d.toArray⟩ := hu'
        subst h1 h2
        clear hu hu'
        have HKC := Lib.hid hkc; clear hkc
        have HKD := Lib.hid hkd; clear hkd
        have hlti : (k : Int) < (a.length : Int) := by omega
        by_cases hcd : c = d
        · have hbq : (c == d) = true := by simpa using hcd
          have HCD := Lib.hid hcd; clear hcd
          go_wp2_with fail
          go_quiet (fail)
          go_wp2_with fail
          go_roundw
          case rel => exact ⟨k + 1, by go_num, by omega, Lib.hid (fun j hj => by
            by_cases e : j = k
            · subst e; rw [HKC.out, HKD.out, HCD.out]
            · exact heq.out j (by omega)), _, rfl⟩
          case measure => simp [intOf] <;> omega
        · have hbq : (c == d) = false := by simpa using hcd
          have HF := Lib.hid (show sameS a b = false from sameS_false_of (by
            rintro rfl
            have := HKC.out.symm.trans HKD.out
            injection this with this
            exact hcd this))
          clear hcd
          go_wp2_with fail
          go_quiet (fail)
          go_wp2_with fail
          go_returns
          exact ⟨by rw [HF.out]; rfl, _, World.drewN_drewN _ _ _⟩
      · have hkl : k = a.length := by omega
        subst hkl
        have HF := Lib.hid (show sameS a b = true from (sameS_iff a b).2 (List.ext_getElem? fun j => by
          rcases Nat.lt_or_ge j a.length with h | h
          · exact heq.out j h
          · rw [List.getElem?_eq_none h, List.getElem?_eq_none (by have := HL.out; omega)]))
        go_wp2_with fail
        go_returns
        exact ⟨by rw [HF.out]; rfl, _, rfl⟩
  · have HF := Lib.hid (show sameS a b = false from sameS_false_of (by rintro rfl; exact hl rfl))
    have hle : ((a.length : Int) == (b.length : Int)) = false := by rw [beq_eq_false_iff_ne]; omega
    clear hl
    go_enter Tryz.func11, Tryz.ntmps11
    go_wp2_with fail
    go_returns
    exact ⟨by rw [HF.out]; rfl, 0, rfl⟩

def SomeB (Q : Bool → Prop) (e : Ending) : Prop := ∃ b, e = .returned (.bool b) ∧ Q b
theorem SomeB.mk {Q : Bool → Prop} (b : Bool) (h : Q b) : SomeB Q (.returned (.bool b)) := ⟨b, rfl, h⟩
def fewQ (l : List (List UInt8)) (m : Int) (b : Bool) : Prop := b = false → (l.length : Int) ≤ m ∧ ∀ x ∈ l, x.length ≤ 20
def anyQ (_ : Bool) : Prop := True
set_option maxHeartbeats 1000000 in
theorem beyondText_any (l : List (List UInt8)) (ao : Option Addr) (cap : Nat) (m : Int) (w : World) (hs : SlOf IsStr w ao cap l) :
    Calls Tryz.prog 4 #[.slice ao l.length cap, .int .i64 m] w fun e w' => SomeB (fewQ l m) e ∧ w' = w := by
  have HS := Lib.hid hs
  have hc : l.length ≤ 9223372036854775807 := Nat.le_trans hs.1 hs.2.1
  clear hs
  by_cases hm : m < (l.length : Int)
  · go_enter Tryz.func4, Tryz.ntmps4
    go_wp2_with fail
    go_returns
    exact ⟨.mk true (fun h => by cases h), rfl⟩
  · have HM := Lib.hid (show (l.length : Int) ≤ m by omega)
    go_enter Tryz.func4, Tryz.ntmps4
    go_wp2_with fail
    go_loop [5] (fun i => ∃ k : Nat, i = .int .i64 (k : Int) ∧ k ≤ l.length ∧ Hid (∀ j x, j < k → l[j]? = some x → x.length ≤ 20)) (fun i => l.length - (intOf i).toNat)
    case atStart => exact ⟨0, rfl, by omega, Lib.hid (fun j x hj => by omega)⟩
    case round =>
      obtain ⟨k, rfl, hk, HK⟩ := hrel
      by_cases hlt : k < l.length
      · have hlti : (k : Int) < (l.length : Int) := by omega
        obtain ⟨c, hkc⟩ : ∃ c, l[k]? = some c := ⟨_, List.getElem?_eq_getElem hlt⟩
        obtain ⟨g1, off1, u, hao1, hcell1, hu⟩ := HS.out.2.2.2 k c hkc
        subst hao1
        have h1 : u = .string ⟨c.toArray⟩ := hu
        subst h1
        clear hu
        have HKC := Lib.hid hkc; clear hkc
        by_cases h3 : 20 < c.length
        · have h3i : (20 : Int) < (c.length : Int) := by omega
          go_wp2_with fail
          go_returns
          exact ⟨.mk true (fun h => by cases h), rfl⟩
        · have h3i : ¬ (20 : Int) < (c.length : Int) := by omega
          have H3 := Lib.hid h3
          clear h3
          go_wp2_with fail
          go_round
          case rel => exact ⟨k + 1, by go_num, by omega, Lib.hid (fun j x hj hx => by
            by_cases e : j = k
            · subst e
              rw [HKC.out] at hx
              cases hx
              exact Nat.le_of_not_lt H3.out
            · exact HK.out j x (by omega) hx)⟩
          case measure => simp [intOf] <;> omega
      · have hlti : ¬ (k : Int) < (l.length : Int) := by omega
        have hkl : k = l.length := by omega
        have HR := Lib.hid (show (l.length : Int) ≤ m ∧ ∀ x ∈ l, x.length ≤ 20 from ⟨HM.out, fun x hx => by
          obtain ⟨j, hj⟩ := List.getElem?_of_mem hx
          exact HK.out j x (by have := (List.getElem?_eq_some_iff.1 hj).1; omega) hj⟩)
        go_wp2_with fail
        go_returns
        exact ⟨.mk false (fun _ => HR.out), rfl⟩
end Go.Proofs.YtdljidgmdjndgaaGreatDoor
