/- The walk of lines.Split. -/
import Derived.Test.YthcdhfgoaaiciaaGreatDoorSplt1
import Derived.Test.YthcdhfgoaaiciaaGreatDoorRng
import Derived.Test.YthcdhfgoaaiciaaGreatDoorBase
import Derived.Test.YthcdhfgoaaiciaaGreatDoorShelf
import Derived.Shelf.Abstract
import Derived.Shelf.RegionOpen
import Derived.OwnWalkIn
import Derived.TacticsInMore
import Derived.LoopNIn
import Derived.LoopIn
set_option linter.unusedVariables false
set_option linter.unusedSimpArgs false
namespace Go.Proofs.YthcdhfgoaaiciaaGreatDoor
open Go Go.Proofs Go.RowKit Go.Ink Go.Shelf

attribute [local go_sem] Oper.semAt_some

theorem cut_ext (t : List UInt8) (i j : Nat) : (⟨t.toArray⟩ : ByteArray).extract i j = ⟨((t.drop i).take (j - i)).toArray⟩ := by
  apply ByteArray.ext
  simp [ByteArray.data_extract, List.extract_toArray, List.extract_eq_take_drop]
set_option maxRecDepth 100000 in
theorem cut_in (t : List UInt8) (w : World) (ht : t.length ≤ 140737488355328) :
    Calls Tryz.prog 136 #[.string ⟨t.toArray⟩, .string ⟨#[10]⟩] w fun e w' => e = .returned (.tuple #[.string ⟨(cutL t).1.toArray⟩, .string ⟨(cutL t).2.1.toArray⟩, .bool (cutL t).2.2]) ∧ ∃ n, w' = w.drewN n := by
  have HI := Lib.hid (Tryz.stringslite_Index_one ⟨t.toArray⟩ 10 w)
  have hge := Lib.indexByte_ge t 10
  have hlt := indexByte_lt t 10
  have HSZ := size_mk t
  have hc : cutL t = if Lib.indexByte t 10 < 0 then (t, [], false) else (t.take (Lib.indexByte t 10).toNat, t.drop ((Lib.indexByte t 10).toNat + 1), true) := rfl
  obtain ⟨i, hi⟩ : ∃ i, Lib.indexByte t 10 = i := ⟨_, rfl⟩
  rw [show (⟨t.toArray⟩ : ByteArray).data.toList = t from rfl] at HI
  rw [hi] at hge hlt HI hc
  clear hi
  by_cases h0 : i < 0
  · have hn : ¬ (0 : Int) ≤ i := by omega
    rw [if_pos h0] at hc
    have HC := Lib.hid hc
    clear hlt hge hc h0
    go_enter Tryz.func136, Tryz.ntmps136
    go_wp2_with fail
    refine HI.out.mono ?_
    rintro e w1 ⟨rfl, rfl⟩
    clear HI
    go_wp2_with fail
    go_returns
    exact ⟨by rw [HC.out]; rfl, 0, rfl⟩
  · rw [if_neg h0] at hc
    obtain ⟨k, rfl⟩ : ∃ k : Nat, i = (k : Int) := ⟨i.toNat, by omega⟩
    have hk : k < t.length := by omega
    have hn : (0 : Int) ≤ (k : Int) := by omega
    have HC := Lib.hid hc
    have hw1 : IntKind.i64.wrap ((k : Int) + 1) = (k : Int) + 1 := IntWalk.i64_in _ (by omega)
    have hk1 : (k : Int) ≤ (t.length : Int) := by omega
    have hk2 : (0 : Int) ≤ (k : Int) + 1 := by omega
    have hk3 : (k : Int) + 1 ≤ (t.length : Int) := by omega
    have e1 : (⟨t.toArray⟩ : ByteArray).extract 0 k = ⟨(t.take k).toArray⟩ := by rw [cut_ext]; simp
    have e2 : (⟨t.toArray⟩ : ByteArray).extract (k + 1) t.length = ⟨(t.drop (k + 1)).toArray⟩ := by rw [cut_ext, List.take_of_length_le (by simp)]
    clear hlt hge hc h0
    go_enter Tryz.func136, Tryz.ntmps136
    go_wp2_with fail
    refine HI.out.mono ?_
    rintro e w1 ⟨rfl, rfl⟩
    clear HI
    go_wp2_with fail
    go_quiet (fail)
    go_wp2_with fail
    go_returns
    exact ⟨by rw [HC.out]; rfl, _, rfl⟩
set_option maxRecDepth 100000 in
theorem cut_any (t : List UInt8) (w : World) (ht : t.length ≤ 140737488355328) :
    Calls Tryz.prog 115 #[.string ⟨t.toArray⟩, .string ⟨#[10]⟩] w fun e w' => e = .returned (.tuple #[.string ⟨(cutL t).1.toArray⟩, .string ⟨(cutL t).2.1.toArray⟩, .bool (cutL t).2.2]) ∧ ∃ n, w' = w.drewN n := by
  have HC := Lib.hid (cut_in t w ht)
  generalize cutL t = c at *
  obtain ⟨c1, c2, c3⟩ := c
  simp only at HC ⊢
  go_enter Tryz.func115, Tryz.ntmps115
  go_wp2_with fail
  refine HC.out.mono ?_
  rintro e w1 ⟨rfl, n, rfl⟩
  clear HC
  go_wp2_with fail
  go_returns
  exact ⟨rfl, n, rfl⟩
theorem each_in (F : Fence) (n : Nat) (h5 : F.fn 89) (hro : F.round = none) (t : List UInt8) (w : World) :
    CallsIn F n Tryz.prog 89 #[.string ⟨t.toArray⟩] w fun e w' => e = .returned (.func (.func 114) #[] #[.pointer (some ⟨w.heap.size, 0, none⟩)]) ∧ w' = w.alloc (.cells #[.string ⟨t.toArray⟩] 9) := by
  refine callsIn_of_wp Tryz.func89 rfl h5 ?_ hro
  simp only [Tryz.ntmps89, List.size_toArray, List.length_cons, List.length_nil, Nat.reduceAdd, Nat.reduceSub, Array.replicate_succ, Array.replicate_zero, List.push_toArray, List.append_toArray, List.nil_append, List.cons_append]
  gi_wp2
  go_ret
  exact ⟨rfl, rfl⟩

/-- How long the text in a box is. -/
def boxLen (W : World) (B : Nat) : Nat := match W.heap[B]? with
  | some (.cells #[.string s] _ _) => s.size
  | _ => 0
set_option maxRecDepth 100000 in
set_option maxHeartbeats 2000000 in
/-- lines.each's closure, for every loop body that leaves its box alone. -/
theorem each1_in (t : List UInt8) (ht : t.length ≤ 140737488355328) (Bt y : Nat) (J : Nat → World → Prop) (Kp : World → World → Prop) (W : World) (hKp : ∀ A B, Kp A B → B.heap[Bt]? = A.heap[Bt]?) (h0 : J 0 W) (hb : W.heap[Bt]? = some (.cells #[.string ⟨t.toArray⟩] 9))
    (hD : ∀ k A m, J k A → J k (A.drewN m)) (hB : ∀ k A v, J k A → J k (A.setCell ⟨Bt, 0, none⟩ v))
    (hY : ∀ k A, J k A → k < (linesA [] t).length → YieldAt Fence.wide 2 Tryz.prog y #[.string ⟨((linesA [] t).getD k ([], false)).1.toArray⟩, .bool ((linesA [] t).getD k ([], false)).2] A fun e B => e = .returned (.bool true) ∧ J (k + 1) B ∧ Kp A B) :
    CallsIn Fence.wide 3 Tryz.prog 114 (#[.func (.yield y) #[] #[]] ++ #[.pointer (some ⟨Bt, 0, none⟩)]) W fun e B => (∃ v, e = .returned v) ∧ J (linesA [] t).length B := by
  obtain ⟨L, hL⟩ : ∃ L, linesA [] t = L := ⟨_, rfl⟩
  rw [hL] at hY ⊢
  refine callsIn_of_wp Tryz.func114 rfl trivial ?_ rfl
  simp only [Tryz.ntmps114, List.size_toArray, List.length_cons, List.length_nil, Nat.reduceAdd, Nat.reduceSub, Array.replicate_succ, Array.replicate_zero, List.push_toArray, List.append_toArray, List.nil_append, List.cons_append]
  gi_wp2
  gi_loopw [] (fun wr => ∃ (k : Nat) (t' : List UInt8), Hid (J k wr) ∧ Hid (wr.heap[Bt]? = some (.cells #[.string ⟨t'.toArray⟩] 9)) ∧ Hid (linesA [] t' = L.drop k) ∧ k ≤ L.length ∧ t'.length ≤ 140737488355328) (fun wr => boxLen wr Bt)
  case atStart => exact ⟨0, t, Lib.hid h0, Lib.hid hb, Lib.hid (by rw [hL]; rfl), by omega, ht⟩
  case round =>
    obtain ⟨k, t', HJ, HBx, HLn, hk, hlen⟩ := hrel
    have c0 := Lib.cell_of_heap HBx.out 0
    simp at c0
    by_cases he : t' = []
    · subst he
      have hkN : k = L.length := by
        have h := HLn.out
        have : L.drop k = [] := by rw [← h]; rfl
        have := List.drop_eq_nil_iff.1 this
        omega
      gi_wp2
      go_end0
      exact ⟨⟨_, rfl⟩, hkN ▸ HJ.out⟩
    · have hnx := linesA_next he
      have hsh := cutL_shorter he
      have hdr := HLn.out
      rw [hnx] at hdr
      have hkl : k < L.length := by
        rcases Nat.lt_or_ge k L.length with h | h
        · exact h
        · rw [List.drop_eq_nil_of_le h] at hdr; cases hdr
      rw [List.drop_eq_getElem_cons hkl] at hdr
      injection hdr with hd1 hd2
      have hg : L.getD k ([], false) = ((cutL t').1, (cutL t').2.2) := by rw [List.getD_eq_getElem?_getD, List.getElem?_eq_getElem hkl]; exact hd1.symm
      have HC := Lib.hid (cut_any t' wr hlen)
      have HD2 := Lib.hid hd2
      have HSH := Lib.hid hsh
      have hne : (t' == []) = false := by simpa using he
      have hne2 : (t' != []) = true := by simpa using he
      have HY := Lib.hid (fun A hA => hY k A hA hkl)
      rw [hg] at HY
      have hl2 : (cutL t').2.1.length ≤ 140737488355328 := by omega
      clear hnx hsh hd1 hd2 hg
      obtain ⟨cc, hcc⟩ : ∃ cc, cutL t' = cc := ⟨_, rfl⟩
      rw [hcc] at HC HD2 HSH HY hl2
      obtain ⟨c1, c2, c3⟩ := cc
      simp only at HC HD2 HSH HY hl2
      clear hcc
      gi_wp2_with (refine ⟨trivial, ?_⟩; gi_at_call 115; refine (callsIn_wide.2 HC.out).mono ?_; rintro e w1 ⟨rfl, m, rfl⟩; obtain ⟨fn, tmps, assign, body, hy, hR⟩ := HY.out _ (hD _ _ m HJ.out); have HR := Lib.hid hR; clear hR)
      refine HR.out.mono ?_
      rintro e W3 ⟨rfl, hJ3, hk3⟩
      have HB3 : Hid (W3.heap[Bt]? = some (.cells #[.string ⟨t'.toArray⟩] 9)) := Lib.hid ((hKp _ _ hk3).trans HBx.out)
      have HJ3 := Lib.hid (hB _ _ (.string ⟨c2.toArray⟩) hJ3)
      have HB4 : Hid ((W3.setCell ⟨Bt, 0, none⟩ (.string ⟨c2.toArray⟩)).heap[Bt]? = some (.cells #[.string ⟨c2.toArray⟩] 9)) := Lib.hid (heap_set (j := 0) HB3.out _)
      have d0 := Lib.cell_of_heap HB3.out 0
      have f0 := Lib.frozen_of_heap HB3.out 0
      simp at d0
      have HLT : Hid (boxLen (W3.setCell ⟨Bt, 0, none⟩ (.string ⟨c2.toArray⟩)) Bt < boxLen wr Bt) := Lib.hid (by
        have q1 : boxLen (W3.setCell ⟨Bt, 0, none⟩ (.string ⟨c2.toArray⟩)) Bt = c2.length := by unfold boxLen; rw [HB4.out]; rfl
        have q2 : boxLen wr Bt = t'.length := by unfold boxLen; rw [HBx.out]; rfl
        rw [q1, q2]; exact HSH.out)
      clear hJ3 hk3 HR hy c0 hne hne2 HC
      gi_wp2
      go_roundw
      case rel => exact ⟨k + 1, c2, HJ3, HB4, HD2, hkl, hl2⟩
      case measure => exact HLT.out
theorem spl_info : (Tryz.prog.info? 9).map (fun i => (i.zero, i.size, i.bytes)) = some (some (.string ⟨#[]⟩), 1, 16) := by kernel_rfl
theorem one_new (w : World) (x : Value) (t : TypeId) : ∀ j u, [x][j]? = some u → (w.alloc (.cells #[x] t)).cell? ((⟨w.heap.size, 0, none⟩ : Addr).add j) = some u := by
  intro j u h
  match j with
  | 0 => simp at h; subst h; simp [Addr.add]
  | j + 1 => simp at h
def rowVs (L : List (List UInt8 × Bool)) : List Value := L.map fun x => .string ⟨x.1.toArray⟩
/-- What stands behind k lines: the slice's box BL, the flag's box BE. -/
structure SplAt (w W0 W : World) (BL BE : Nat) (L : List (List UInt8 × Bool)) (k : Nat) : Prop where
  row : ∃ v, Boxed W BL 41 v ∧ W.ownsRow W0.heap.size 9 1 v k (rowVs (L.take k)) ∧ (k = 0 → v = .slice none 0 0)
  flag : Boxed W BE 4 (.bool (endedK L k))
  below : Below w.heap.size w W
  size : W0.heap.size ≤ W.heap.size
theorem SplAt.grown {w W0 W W' : World} {BL BE : Nat} {L : List (List UInt8 × Bool)} {k : Nat} {row : Option Nat} (h : SplAt w W0 W BL BE L k) (hg : W.grownBy W' row) (hr : ∀ r, row = some r → w.heap.size ≤ r ∧ r ≠ BL ∧ r ≠ BE ∧ (r < W0.heap.size ∨ ∃ o : Obj, W.heap[r]? = some o ∧ o.isCells = false)) : SplAt w W0 W' BL BE L k := by
  obtain ⟨⟨v, h1, h2, hz⟩, h3, h4, h5⟩ := h
  refine ⟨⟨v, h1.kept hg (fun e => (hr _ e.symm).2.1 rfl), h2.kept hg ?_, hz⟩, h3.kept hg (fun e => (hr _ e.symm).2.2.1 rfl), h4.grown hg h4.size (fun k e => (hr k e).1), Nat.le_trans h5 hg.size⟩
  rcases h2.2 with ⟨rfl, _⟩ | ⟨g, cap, cur, rfl, hb, hgg, _⟩
  · exact .inl rfl
  · refine .inr fun e => ?_
    rcases (hr g e.symm).2.2.2 with h | ⟨o, ho, hc⟩
    · omega
    · rw [hgg] at ho; cases ho; cases hc
theorem own_far {W : World} {base k : Nat} {e : TypeId} {v : Value} {xs : List Value} (h : W.ownsRow base e 1 v k xs) {B : Nat} (hB : B < base) : some B ≠ v.ownBlock := by
  rcases h.2 with ⟨rfl, _⟩ | ⟨g, cap, cur, rfl, hb, _⟩
  · simp [Value.ownBlock]
  · intro e'
    obtain rfl : B = g := by simpa [Value.ownBlock] using e'
    omega
theorem own_cells {W : World} {base k : Nat} {e : TypeId} {v : Value} {xs : List Value} (h : W.ownsRow base e 1 v k xs) {j : Nat} {o : Obj} (ej : v.ownBlock = some j) (hj : W.heap[j]? = some o) : o.isCells = true := by
  rcases h.2 with ⟨rfl, _⟩ | ⟨g, cap, cur, rfl, hb, hgb, _⟩
  · simp [Value.ownBlock] at ej
  · obtain rfl : g = j := by simpa [Value.ownBlock] using ej
    rw [hgb] at hj; cases hj; rfl
theorem rowVs_snoc {L : List (List UInt8 × Bool)} {k : Nat} (hk : k < L.length) : rowVs (L.take (k + 1)) = rowVs (L.take k) ++ [.string ⟨(L.getD k ([], false)).1.toArray⟩] := by
  unfold rowVs
  rw [List.take_add_one, List.getElem?_eq_getElem hk, List.map_append, List.getD_eq_getElem?_getD, List.getElem?_eq_getElem hk]
  rfl
/-- One line more. -/
theorem SplAt.next {w W0 W w3 : World} {BL BE : Nat} {L : List (List UInt8 × Bool)} {k : Nat} {v v' : Value} {tmp : Obj} (hL : BL < W0.heap.size) (hE : BE < W0.heap.size) (hLE : BL ≠ BE) (hL0 : w.heap.size ≤ BL) (hE0 : w.heap.size ≤ BE) (hk : k < L.length) (hv : Boxed W BL 41 v) (hown : W.ownsRow W0.heap.size 9 1 v k (rowVs (L.take k)))
    (hfl : Boxed W BE 4 (.bool (endedK L k))) (hbl : Below w.heap.size w W) (hsz : W0.heap.size ≤ W.heap.size) (hown' : w3.ownsRow W0.heap.size 9 1 v' (k + 1) (rowVs (L.take k) ++ [.string ⟨(L.getD k ([], false)).1.toArray⟩])) (hg : (W.alloc tmp).grownBy w3 v.ownBlock) :
    Boxed w3 BL 41 v ∧ Boxed (w3.setCell ⟨BL, 0, none⟩ v') BE 4 (.bool (endedK L k)) ∧
    KeepsFrom W0.heap.size W ((w3.setCell ⟨BL, 0, none⟩ v').setCell ⟨BE, 0, none⟩ (.bool (L.getD k ([], false)).2)) ∧ (∀ B, B < W0.heap.size → B ≠ BL → B ≠ BE → ((w3.setCell ⟨BL, 0, none⟩ v').setCell ⟨BE, 0, none⟩ (.bool (L.getD k ([], false)).2)).heap[B]? = W.heap[B]?) ∧
    SplAt w W0 ((w3.setCell ⟨BL, 0, none⟩ v').setCell ⟨BE, 0, none⟩ (.bool (L.getD k ([], false)).2)) BL BE L (k + 1) := by
  have hv1 : Boxed w3 BL 41 v := (hv.alloc tmp).kept hg (own_far hown hL)
  have hf1 : Boxed w3 BE 4 (.bool (endedK L k)) := (hfl.alloc tmp).kept hg (own_far hown hE)
  have hv2 := hv1.set v'
  have hf2 := hf1.other (Ne.symm hLE) v'
  have ho2 := hown'.kept (grownBy_setCell' w3 BL v') (.inr (fun e => own_far hown' hL e.symm))
  have ho3 := ho2.kept (grownBy_setCell' (w3.setCell ⟨BL, 0, none⟩ v') BE (.bool (L.getD k ([], false)).2)) (.inr (fun e => own_far ho2 hE e.symm))
  have hbk : ∀ B, B < W0.heap.size → w3.heap[B]? = W.heap[B]? := fun B hB => (hg.block B (by simp; omega) (own_far hown hB)).trans (Below.heap_alloc _ _ B (by omega))
  refine ⟨hv1, hf2, ?_, fun B h1 h2 h3 => ?_, ⟨⟨v', hv2.other hLE _, ?_, fun e => by omega⟩, hf2.set _, ?_, ?_⟩⟩
  · exact ((((KeepsOthers.alloc W tmp).trans (KeepsOthers.of_grownBy hg fun j o ej hj => own_cells (hown.alloc tmp) ej hj)).trans (KeepsOthers.setCell _ _ _)).trans (KeepsOthers.setCell _ _ _)).from _
  · rw [Below.heap_setCell _ _ _ _ h3, Below.heap_setCell _ _ _ _ h2, hbk B h1]
  · rw [rowVs_snoc hk]; exact ho3
  · exact (((hbl.alloc hbl.size tmp).grown hg (by have := hbl.size; simp; omega) (fun j ej => by
      rcases hown.2 with ⟨rfl, _⟩ | ⟨g, cap, cur, rfl, hb, _⟩
      · simp [Value.ownBlock] at ej
      · obtain rfl : g = j := by simpa [Value.ownBlock] using ej
        omega)).setCell (p := ⟨BL, 0, none⟩) hL0 _).setCell (p := ⟨BE, 0, none⟩) hE0 _
  · have := hg.size
    simp [World.setCell] at this ⊢
    omega
set_option maxRecDepth 100000 in
set_option maxHeartbeats 2000000 in
theorem split_any (t : List UInt8) (w : World) (ht : t.length ≤ 1000000000) :
    Calls Tryz.prog 61 #[.string ⟨t.toArray⟩] w fun e w' => ∃ v, e = .returned (.tuple #[v, .bool (endedK (linesA [] t) (linesA [] t).length)]) ∧ w'.ownsRow w.heap.size 9 1 v (linesA [] t).length (rowVs (linesA [] t)) ∧ (linesA [] t = [] → v = .slice none 0 0) ∧ Below w.heap.size w w' := by
  have hlen := linesA_len t []
  simp only [if_true, Nat.add_zero] at hlen
  have hit := fun B => each1_in t (by omega) B
  obtain ⟨L, hL⟩ : ∃ L, linesA [] t = L := ⟨_, rfl⟩
  rw [hL] at hlen hit ⊢
  clear hL
  refine (callsIn_wide (n := 4)).1 ?_
  refine callsIn_of_wp_marks Tryz.func61 rfl trivial ?_ rfl
  simp only [Tryz.ntmps61, List.size_toArray, List.length_cons, List.length_nil, Nat.reduceAdd, Nat.reduceSub, Array.replicate_succ, Array.replicate_zero, List.push_toArray, List.append_toArray, List.nil_append, List.cons_append]
  gi_wp2_with (refine ⟨trivial, ?_⟩; gi_at_call 89; refine (each_in Fence.wide 3 trivial rfl t _).mono ?_; rintro e w1 ⟨rfl, rfl⟩)
  obtain ⟨W0, hW0⟩ : ∃ W0, ((w.alloc (.cells #[.slice none 0 0] 41)).alloc (.cells #[.bool true] 4)).alloc (.cells #[.string ⟨t.toArray⟩] 9) = W0 := ⟨_, rfl⟩
  obtain ⟨BL, hBL⟩ : ∃ BL, w.heap.size = BL := ⟨_, rfl⟩
  have hvL : Boxed W0 BL 41 (.slice none 0 0) := by rw [← hW0, ← hBL]; exact ((Boxed.new w _ _).alloc _).alloc _
  have hvE : Boxed W0 (BL + 1) 4 (.bool true) := by
    have := (Boxed.new (w.alloc (.cells #[.slice none 0 0] 41)) 4 (.bool true)).alloc (.cells #[.string ⟨t.toArray⟩] 9)
    rw [hW0] at this; simpa [hBL] using this
  have hvT : W0.heap[BL + 1 + 1]? = some (.cells #[.string ⟨t.toArray⟩] 9) := by
    have := heap_alloc_new ((w.alloc (.cells #[.slice none 0 0] 41)).alloc (.cells #[.bool true] 4)) (.cells #[.string ⟨t.toArray⟩] 9)
    rw [hW0] at this; simpa [hBL] using this
  have hsz : W0.heap.size = BL + 3 := by rw [← hW0, ← hBL]; simp
  have hb0 : Below w.heap.size w W0 := by rw [← hW0]; exact (((Below.refl _ _).alloc (Nat.le_refl _) _).alloc (by simp) _).alloc (by simp; omega) _
  rw [hW0, hBL]
  have hI0 : SplAt w W0 W0 BL (BL + 1) L 0 := ⟨⟨_, hvL, ⟨by simp [rowVs], .inl ⟨rfl, rfl⟩⟩, fun _ => rfl⟩, hvE, hb0, Nat.le_refl _⟩
  clear hvL hvE hb0 hW0
  refine wpIn_range_box (F := Fence.wide) (n := 4) (P := Tryz.prog) rfl (by omega) (gf := 114) (lb := #[.pointer (some ⟨BL + 1 + 1, 0, none⟩)]) rfl trivial (enters_of Tryz.func114 (by kernel_rfl) rfl) L.length (fun k => #[.string ⟨(L.getD k ([], false)).1.toArray⟩, .bool (L.getD k ([], false)).2]) (fun _ => rfl)
    (fun k W => SplAt w W0 W BL (BL + 1) L k) (fun A B => B.heap[BL + 1 + 1]? = A.heap[BL + 1 + 1]?) (BL + 1 + 1) (by omega) ?own ?ownB hI0 (fun h k => k.trans h) (fun W l o' h1 h2 => World.putObj_heap_other (by omega))
    (fun k => { tmps := #[.string ⟨t.toArray⟩, undef, .pointer (some ⟨BL, 0, none⟩), .pointer (some ⟨BL + 1, 0, none⟩), .string ⟨(L.getD k ([], false)).1.toArray⟩, .bool (L.getD k ([], false)).2, .string ⟨t.toArray⟩, .func (.func 114) #[] #[.pointer (some ⟨BL + 1 + 1, 0, none⟩)], .string ⟨(L.getD k ([], false)).1.toArray⟩, .bool (L.getD k ([], false)).2, undef, undef, undef, undef, undef, undef, undef], defers := [] }) ?assign ?body ?iter ?done
  case own =>
    rintro s A B row h hg hr
    exact h.grown hg fun r e => by obtain ⟨h1, o, ho, hc⟩ := hr r e; exact ⟨by omega, by omega, by omega, .inr ⟨o, ho, hc⟩⟩
  case ownB =>
    intro k W v h
    exact h.grown (grownBy_setCell' W (BL + 1 + 1) v) fun r e => by cases e; exact ⟨by omega, by omega, by omega, .inl (by omega)⟩
  case assign =>
    intro l k W K hK
    gi_wp2
    exact hK
  case iter =>
    intro y J W hJ hbx hD hB hY
    exact hit _ y J (fun A B => B.heap[BL + 1 + 1]? = A.heap[BL + 1 + 1]?) W (fun A B h => h) hJ (hbx.trans hvT) hD hB hY
  case body =>
    rintro y k W hS hk
    obtain ⟨⟨v, hv, hown, _⟩, hfl, hbl, hszW⟩ := hS
    obtain ⟨i0, hi, hz0, hz1, hz2⟩ := info_parts spl_info
    have c0 := hv.cell
    have f0 := hv.frozen
    have HN := Lib.hid (fun (tmp : Obj) (w3 : World) (v' : Value) => @SplAt.next w W0 W w3 BL (BL + 1) L k v v' tmp (by omega) (by omega) (by omega) (by omega) (by omega) hk hv hown hfl hbl hszW)
    have hszW' : BL + 3 ≤ W.heap.size := by omega
    have hk9 : k < 1000000000 := by omega
    clear hit hI0
    obtain ⟨xb, hxb⟩ : ∃ xb, L.getD k ([], false) = xb := ⟨_, rfl⟩
    rw [hxb] at HN ⊢
    clear hxb
    obtain ⟨x, fl⟩ := xb
    simp only at HN ⊢
    gi_wp2_with (gi_at_builtin; refine wpListIn_append_own _ rfl _ _ 41 rfl W0.heap.size 9 i0 (.string ⟨#[]⟩) 1 16 Tryz.underlying41 hi hz0 hz1 hz2 rfl (by decide) _ _ _ rfl (hown.alloc _) ⟨W.heap.size, 0, none⟩ 1 1 [.string ⟨x.toArray⟩] rfl rfl (one_new _ _ _) (by simp [Value.oneCell']) (by unfold maxLen; omega) (by omega) (by simp; omega) ?_; intro v' w3 hown' hg3 hnil3; obtain ⟨d1, d2, d3, d4, d5⟩ := HN.out _ w3 v' hown' hg3; obtain ⟨g', cap', rfl⟩ := ownsRow_succ hown'; have e0 := d1.cell; have e1 := d1.frozen; have e2 := d2.cell; have e3 := d2.frozen; have D3 := Lib.hid d3; have D4 := Lib.hid d4; have D5 := Lib.hid d5; clear d1 d2 d3 d4 d5 hown' hg3 hnil3 HN; go_frame)
    exact ⟨by have := D3.out; rw [hsz] at this; exact this, D4.out _ (by omega) (by omega) (by omega), D5.out⟩
  case done =>
    rintro D W hD hS hK
    obtain ⟨⟨v, hv, hown, hz⟩, hfl, hbl, hszW⟩ := hS
    rw [List.take_length] at hown
    have HZ := Lib.hid hz
    clear hz
    clear hit hI0
    have c0 := hv.cell
    have f0 := hv.frozen
    have c1 := hfl.cell
    have f1 := hfl.frozen
    have hmx : Tryz.prog.follows .mixedOrders = true := by kernel_rfl
    obtain ⟨ao, cap, rfl⟩ := ownsRow_shape hown
    obtain ⟨en, hen⟩ : ∃ en, endedK L L.length = en := ⟨_, rfl⟩
    rw [hen] at hfl c1
    have HEN := Lib.hid hen
    have HV := Lib.hid hv
    have HF := Lib.hid hfl
    have HO := Lib.hid hown
    have HBL := Lib.hid hbl
    have HK := Lib.hid hK
    clear hen hv hfl hown hbl hK hvT
    gi_wp2
    gi_region
    have hV2 : Boxed (((W.setCell ⟨BL, 0, none⟩ (.slice ao L.length cap)).setCell ⟨BL + 1, 0, none⟩ (.bool en)).drew) BL 41 (.slice ao L.length cap) := (HV.out.set _).other (by omega) _
    have hF2 : Boxed (((W.setCell ⟨BL, 0, none⟩ (.slice ao L.length cap)).setCell ⟨BL + 1, 0, none⟩ (.bool en)).drew) (BL + 1) 4 (.bool en) := (HF.out.other (by omega) _).set _
    have hO2 : (((W.setCell ⟨BL, 0, none⟩ (.slice ao L.length cap)).setCell ⟨BL + 1, 0, none⟩ (.bool en)).drew).ownsRow W0.heap.size 9 1 (.slice ao L.length cap) L.length (rowVs L) := by
      have q1 := HO.out.kept (grownBy_setCell' W BL (.slice ao L.length cap)) (.inr (fun e => own_far HO.out (B := BL) (by omega) e.symm))
      exact q1.kept (w' := ((W.setCell ⟨BL, 0, none⟩ (.slice ao L.length cap)).setCell ⟨BL + 1, 0, none⟩ (.bool en)).drew) (row := some (BL + 1)) ⟨rfl, rfl, rfl, (grownBy_setCell' (W.setCell ⟨BL, 0, none⟩ (.slice ao L.length cap)) (BL + 1) (.bool en)).size, (grownBy_setCell' (W.setCell ⟨BL, 0, none⟩ (.slice ao L.length cap)) (BL + 1) (.bool en)).block⟩ (.inr (fun e => own_far q1 (B := BL + 1) (by omega) e.symm))
    have hB2 : Below w.heap.size w (((W.setCell ⟨BL, 0, none⟩ (.slice ao L.length cap)).setCell ⟨BL + 1, 0, none⟩ (.bool en)).drew) := ((HBL.out.setCell (p := ⟨BL, 0, none⟩) (by show w.heap.size ≤ BL; omega) _).setCell (p := ⟨BL + 1, 0, none⟩) (by show w.heap.size ≤ BL + 1; omega) _).drew
    have hK2 : (((W.setCell ⟨BL, 0, none⟩ (.slice ao L.length cap)).setCell ⟨BL + 1, 0, none⟩ (.bool en)).drew).heap[D]? = some (.deferred (some [])) := (Below.heap_setCell _ _ _ D (by show D ≠ BL + 1; omega)).trans ((Below.heap_setCell _ _ _ D (by show D ≠ BL; omega)).trans HK.out)
    generalize ((W.setCell ⟨BL, 0, none⟩ (.slice ao L.length cap)).setCell ⟨BL + 1, 0, none⟩ (.bool en)).drew = W2 at *
    clear HV HF HO HBL HK c0 c1 f0 f1
    have HV2 := Lib.hid hV2
    have HF2 := Lib.hid hF2
    have HO2 := Lib.hid hO2
    have HB2 := Lib.hid hB2
    have HK2 := Lib.hid hK2
    have c0 := hV2.cell
    have c1 := hF2.cell
    clear hV2 hF2 hO2 hB2 hK2
    gi_wp2
    refine ⟨by simp, .inl ⟨_, _, rfl, run_takeDeferred HK2.out, ?_⟩⟩
    have hD3 : BL + 3 ≤ D := by omega
    have hV3 : Boxed (W2.putObj D (.deferred none)) BL 41 (.slice ao L.length cap) := (World.putObj_heap_other (by omega)).trans HV2.out
    have hF3 : Boxed (W2.putObj D (.deferred none)) (BL + 1) 4 (.bool en) := (World.putObj_heap_other (by omega)).trans HF2.out
    have hO3 := HO2.out.kept (grownBy_putObj' W2 D (.deferred none)) (.inr (fun e => by have := own_cells HO2.out e HK2.out; cases this))
    have hB3 := HB2.out.trans (belowK_b (w := W0) (n₀ := w.heap.size) (by omega) W2 D (.deferred (some [])) (.deferred none) hD HK2.out rfl rfl)
    generalize W2.putObj D (.deferred none) = W3 at *
    have t0 := hV3.cell
    have t1 := hF3.cell
    refine ⟨.tuple #[.slice ao L.length cap, .bool en], ?_, ⟨_, by rw [HEN.out], ownsRow_base hO3 (by omega), fun e => HZ.out (by rw [e]; rfl), hB3⟩⟩
    simp [results, Tryz.results61, go_sem, t0, t1]
end Go.Proofs.YthcdhfgoaaiciaaGreatDoor
