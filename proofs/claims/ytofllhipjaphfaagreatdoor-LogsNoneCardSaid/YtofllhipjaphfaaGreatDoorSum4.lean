/- slices.Chunk over bytes (the iterator's contract), sums.More, sums.Sum. -/
import Derived.RangeFuncNested
import Derived.RangeFuncFrom
import Derived.RangeFuncBox
import Derived.RangeFuncBound
import Derived.RangeFuncCalls
import Derived.RangeFuncLeaves
import Derived.Shelf.Abstract
import Derived.Shelf.RegionOpen
import Derived.OwnWalkIn
import Derived.TacticsInMore
import Derived.LoopNIn
import Derived.LoopIn
import Derived.Lib.ConvBytes
import Derived.Test.YtofllhipjaphfaaGreatDoorSum3
namespace Go.Proofs.YtofllhipjaphfaaGreatDoor
open Go Go.Proofs Go.RowKit Go.Ink Go.Shelf

attribute [local go_sem] Oper.semAt_some

/-- The chunk that stands at a place: so many bytes, and the value that stands for it. -/
def chunkL (l : List UInt8) (k : Nat) : List UInt8 := (l.drop (256 * k)).take 256
def chunkV (b off n k : Nat) : Value := .slice (some ⟨b, off + 256 * k, none⟩) (min 256 (n - 256 * k)) (min 256 (n - 256 * k))
theorem chunkL_len (l : List UInt8) (k : Nat) : (chunkL l k).length = min 256 (l.length - 256 * k) := by unfold chunkL; rw [List.length_take, List.length_drop]
theorem chunkL_sl {w : World} {b off cap : Nat} {l : List UInt8} (h : SlOf IsByte w (some ⟨b, off, none⟩) cap l) (k : Nat) : SlOf IsByte w (some ⟨b, off + 256 * k, none⟩) (min 256 (l.length - 256 * k)) (chunkL l k) := by
  obtain ⟨h1, h2, h3, h4⟩ := h
  refine ⟨by rw [chunkL_len]; omega, by unfold maxLen; omega, by simp, fun j x hj => ?_⟩
  unfold chunkL at hj
  simp only [List.getElem?_take, List.getElem?_drop] at hj
  split at hj
  · obtain ⟨b', o', u, ha, hc, hr⟩ := h4 _ _ hj
    simp only [Option.some.injEq, Addr.mk.injEq, and_true] at ha
    obtain ⟨rfl, rfl⟩ := ha
    exact ⟨b, off + 256 * k, u, rfl, by rw [Nat.add_assoc]; exact hc, hr⟩
  · cases hj
def chunks (l : List UInt8) (ks : List Nat) : List UInt8 := (ks.map (chunkL l)).flatten
theorem chunks_snoc (l : List UInt8) (ks : List Nat) (k : Nat) : chunks l (ks ++ [k]) = chunks l ks ++ chunkL l k := by simp [chunks]
theorem chunks_take (l : List UInt8) : ∀ m : Nat, chunks l (List.range m) = l.take (256 * m)
  | 0 => by simp [chunks]
  | m + 1 => by
    rw [List.range_succ, chunks_snoc, chunks_take l m, chunkL, Nat.mul_succ, List.take_add]

/-- Whatever lies below n, but for one block, lies as it lay. -/
structure KeepBut (n B : Nat) (X Y : World) : Prop where
  size : X.heap.size ≤ Y.heap.size
  block : ∀ i, i < n → i ≠ B → Y.heap[i]? = X.heap[i]?
theorem KeepBut.refl (n B : Nat) (X : World) : KeepBut n B X X := ⟨Nat.le_refl _, fun _ _ _ => rfl⟩
theorem KeepBut.trans {n B : Nat} {X Y Z : World} (h : KeepBut n B X Y) (k : KeepBut n B Y Z) : KeepBut n B X Z := ⟨Nat.le_trans h.size k.size, fun i h1 h2 => (k.block i h1 h2).trans (h.block i h1 h2)⟩
theorem KeepBut.drewN {n B : Nat} {X Y : World} (h : KeepBut n B X Y) (m : Nat) : KeepBut n B X (Y.drewN m) := ⟨h.size, h.block⟩
theorem KeepBut.drew {n B : Nat} {X Y : World} (h : KeepBut n B X Y) : KeepBut n B X Y.drew := ⟨h.size, h.block⟩
theorem KeepBut.cell {n B : Nat} {X Y : World} (h : KeepBut n B X Y) {p : Addr} (h1 : p.block < n) (h2 : p.block ≠ B) : Y.cell? p = X.cell? p := World.cell?_of_block (h.block _ h1 h2)
theorem KeepBut.of_below {n B : Nat} {X Y : World} (h : Below X.heap.size X Y) (hn : n ≤ X.heap.size) : KeepBut n B X Y := ⟨h.size, fun i h1 _ => h.block i (by omega)⟩
theorem KeepBut.setCell {n B : Nat} {X Y : World} (h : KeepBut n B X Y) (o : Nat) (v : Value) : KeepBut n B X (Y.setCell ⟨B, o, none⟩ v) := ⟨by simpa [World.setCell] using h.size, fun i h1 h2 => (Below.heap_setCell _ _ _ _ (by simpa using h2)).trans (h.block i h1 h2)⟩
theorem KeepBut.putObj {n B : Nat} {w X : World} (hn : n ≤ w.heap.size) (l : Nat) (o' : Obj) (hl : w.heap.size ≤ l) : KeepBut n B X (X.putObj l o') :=
  have hg := grownBy_putObj' X l o'
  ⟨hg.size, fun i h1 _ => by
    rcases Nat.lt_or_ge i X.heap.size with h | h
    · exact hg.block i h (fun e => by cases e; omega)
    · have hs : (X.putObj l o').heap.size = X.heap.size := by simp [World.putObj]
      rw [Array.getElem?_eq_none (by omega), Array.getElem?_eq_none h]⟩

set_option maxRecDepth 100000 in
set_option maxHeartbeats 2000000 in
/-- slices.Chunk's closure, for every loop body that keeps what lay below n₀. -/
theorem chunk1_in (F : Fence) (n : Nat) (h7 : F.fn 112) (hro : F.round = none) (hn : 1 ≤ n) (y Bs Bn n₀ b off len cap : Nat) (hlc : len ≤ cap) (hcap : cap ≤ 9223372036854775807) (hlm : len ≤ 140737488355328) (B : Nat) (hBs : Bs < n₀ ∧ Bs ≠ B) (hBn : Bn < n₀ ∧ Bn ≠ B) (J Jx : List Nat → World → Prop)
    (hY : ∀ pre x W, J pre W → pre.length < (len + 255) / 256 → YieldAt F (n - 1) Tryz.prog y #[chunkV b off len x] W fun e W' =>
      (e = .returned (.bool true) ∧ J (pre ++ [x]) W' ∧ KeepBut n₀ B W W') ∨ (e = .returned (.bool false) ∧ Jx (pre ++ [x]) W'))
    (hD : ∀ (s W : _) (m : Nat), J s W → J s (W.drewN m))
    (W : World) (hs : W.cell? ⟨Bs, 0, none⟩ = some (.slice (some ⟨b, off, none⟩) len cap)) (hn1 : W.cell? ⟨Bn, 0, none⟩ = some (.int .i64 256)) (h0 : J [] W) :
    CallsIn F n Tryz.prog 112 #[.func (.yield y) #[] #[], .pointer (some ⟨Bs, 0, none⟩), .pointer (some ⟨Bn, 0, none⟩)] W fun e W' => (∃ v, e = .returned v) ∧
      ((∃ ys, ys = List.range ((len + 255) / 256) ∧ J ys W') ∨ (∃ pre, True ∧ Jx pre W')) := by
  refine callsIn_of_wp Tryz.func112 rfl h7 ?_ hro
  simp only [Tryz.ntmps112, List.size_toArray, List.length_cons, List.length_nil, Nat.reduceAdd, Nat.reduceSub, Array.replicate_succ, Array.replicate_zero, List.push_toArray, List.append_toArray, List.nil_append, List.cons_append]
  gi_wp2
  gi_loopw [4] (fun i wr => ∃ k : Nat, 256 * k < len + 256 ∧ i = .int .i64 ((256 * k : Nat) : Int) ∧ J (List.range k) wr ∧ KeepBut n₀ B W wr) (fun i _ => len - (intOf i).toNat)
  case atStart => exact ⟨0, by omega, rfl, h0, KeepBut.refl _ _ _⟩
  case round =>
    obtain ⟨k, hk, rfl, hJs, hnx⟩ := hrel
    have hs' := (hnx.cell (p := ⟨Bs, 0, none⟩) hBs.1 hBs.2).trans hs
    have hn' := (hnx.cell (p := ⟨Bn, 0, none⟩) hBn.1 hBn.2).trans hn1
    by_cases hlt : 256 * k < len
    · obtain ⟨fn, tmps, assign, body, hy, hR⟩ := hY (List.range k) k wr.drew (hD _ _ 1 hJs) (by rw [List.length_range]; omega)
      have HR := Lib.hid hR; clear hR
      have HD : Hid (KeepBut n₀ B W wr.drew) := hnx.drew
      have hb0 : (0 : Int) ≤ 256 * (k : Int) := by omega
      have hb1 : 256 * (k : Int) ≤ (len : Int) := by omega
      have hb2 : ¬ cap = 256 * k := by omega
      by_cases hmin : 256 ≤ len - 256 * k
      · have hv : chunkV b off len k = .slice (some ⟨b, off + 256 * k, none⟩) 256 256 := by unfold chunkV; rw [Nat.min_eq_left hmin]
        rw [hv] at hy
        clear hv
        have hmini : (256 : Int) ≤ ((len - 256 * k : Nat) : Int) := by omega
        gi_wp2
        gi_region
        all_goals
          gi_wp2
          refine HR.out.mono ?_
          rintro e W3 (⟨rfl, hJ3, hk3⟩ | ⟨rfl, hJx3⟩)
          · have hn3 := ((HD.out.trans hk3).cell (p := ⟨Bn, 0, none⟩) hBn.1 hBn.2).trans hn1
            gi_wp2
            go_roundw
            case rel => exact ⟨k + 1, by omega, by go_num, by rw [List.range_succ]; exact hJ3, HD.out.trans hk3⟩
            case measure => simp [intOf]; omega
          · gi_wp2
            refine bodyPost_ret (results_none rfl _ _ _) rfl ?_
            exact ⟨⟨_, rfl⟩, .inr ⟨_, trivial, hJx3⟩⟩
      · have hv : chunkV b off len k = .slice (some ⟨b, off + 256 * k, none⟩) (len - 256 * k) (len - 256 * k) := by unfold chunkV; rw [Nat.min_eq_right (by omega)]
        rw [hv] at hy
        clear hv
        have hmini : ¬ (256 : Int) ≤ ((len - 256 * k : Nat) : Int) := by omega
        gi_wp2
        gi_region
        all_goals
          gi_wp2
          refine HR.out.mono ?_
          rintro e W3 (⟨rfl, hJ3, hk3⟩ | ⟨rfl, hJx3⟩)
          · have hn3 := ((HD.out.trans hk3).cell (p := ⟨Bn, 0, none⟩) hBn.1 hBn.2).trans hn1
            gi_wp2
            go_roundw
            case rel => exact ⟨k + 1, by omega, by go_num, by rw [List.range_succ]; exact hJ3, HD.out.trans hk3⟩
            case measure => simp [intOf]; omega
          · gi_wp2
            refine bodyPost_ret (results_none rfl _ _ _) rfl ?_
            exact ⟨⟨_, rfl⟩, .inr ⟨_, trivial, hJx3⟩⟩
    · have hkn : (len + 255) / 256 = k := by omega
      gi_wp2
      go_end0
      exact ⟨⟨_, rfl⟩, .inl ⟨_, by rw [hkn], hJs⟩⟩

set_option maxHeartbeats 1000000 in
/-- slices.Chunk(s, 256). -/
theorem chunk_in (F : Fence) (n : Nat) (h5 : F.fn 91) (hro : F.round = none) (a : Option Addr) (len cap : Nat) (w : World) :
    CallsIn F n Tryz.prog 91 #[.slice a len cap, .int .i64 256] w fun e w' => e = .returned (.func (.func 112) #[] #[.pointer (some ⟨w.heap.size, 0, none⟩), .pointer (some ⟨w.heap.size + 1, 0, none⟩)]) ∧ w' = (w.alloc (.cells #[.slice a len cap] 79)).alloc (.cells #[.int .i64 256] 3) := by
  refine callsIn_of_wp Tryz.func91 rfl h5 ?_ hro
  simp only [Tryz.ntmps91, List.size_toArray, List.length_cons, List.length_nil, Nat.reduceAdd, Nat.reduceSub, Array.replicate_succ, Array.replicate_zero, List.push_toArray, List.append_toArray, List.nil_append, List.cons_append]
  gi_wp2
  go_ret
  exact ⟨rfl, rfl⟩
end Go.Proofs.YtofllhipjaphfaaGreatDoor
