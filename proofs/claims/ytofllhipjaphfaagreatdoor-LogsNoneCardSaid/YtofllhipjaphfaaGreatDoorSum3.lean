/- The walks of the sums: weigh, Hex. -/
import Derived.Test.YtofllhipjaphfaaGreatDoorSum2
import Derived.Test.YtofllhipjaphfaaGreatDoorConv
namespace Go.Proofs.YtofllhipjaphfaaGreatDoor
open Go Go.Proofs Go.RowKit Go.Ink

/-- At the head of weigh's loop. -/
structure WeighAt (w wr : World) (l : List UInt8) (k : Nat) (a s : Nat) : Prop where
  r : wr.heap[w.heap.size]? = some (.cells #[.int .u64 0, .int .u64 0, .int .u64 0] 149 (0, 0))
  v : wr.heap[w.heap.size + 1]? = some (.cells #[.int .u64 (a : Int), .int .u64 (s : Int), .int .u64 (l.length : Int)] 149 (0, 0))
  b : Below w.heap.size w wr
  a : a + sumA (l.drop k) = sumA l
  s : s + sumB (l.drop k) = sumB l
theorem WeighAt.next {w wr : World} {l : List UInt8} {k a s : Nat} {c : UInt8} (h : WeighAt w wr l k a s) (hk : l[k]? = some c) :
    WeighAt w ((wr.setCell ⟨w.heap.size + 1, 0, none⟩ (.int .u64 ((a + c.toNat : Nat) : Int))).setCell ⟨w.heap.size + 1, 1, none⟩ (.int .u64 ((s + c.toNat * (l.length - k) : Nat) : Int))) l (k + 1) (a + c.toNat) (s + c.toNat * (l.length - k)) := by
  obtain ⟨hkl, rfl⟩ := List.getElem?_eq_some_iff.1 hk
  have hd := List.drop_eq_getElem_cons hkl
  refine ⟨?_, ?_, ?_, ?_, ?_⟩
  · rw [Below.heap_setCell _ _ _ _ (by simp), Below.heap_setCell _ _ _ _ (by simp)]; exact h.r
  · have := heap_set (j := 1) (heap_set (j := 0) h.v (.int .u64 ((a + l[k].toNat : Nat) : Int))) (.int .u64 ((s + l[k].toNat * (l.length - k) : Nat) : Int))
    rw [this]; rfl
  · exact (h.b.setCell (p := ⟨w.heap.size + 1, 0, none⟩) (by simp) _).setCell (p := ⟨w.heap.size + 1, 1, none⟩) (by simp) _
  · have := h.a
    rw [hd, sumA] at this; omega
  · have := h.s
    rw [hd, sumB, List.length_drop, show l.length - (k + 1) + 1 = l.length - k by omega, Nat.mul_comm] at this; omega
theorem weigh_any (l : List UInt8) (ao : Option Addr) (cap : Nat) (w : World) (hl : SlOf IsByte w ao cap l) (hn : l.length ≤ 256) :
    Calls Tryz.prog 93 #[.slice ao l.length cap] w fun e w' => e = .returned (wgt (sumA l) (sumB l) l.length) ∧ Below w.heap.size w w' := by
  unfold wgt
  have HS := Lib.hid hl; clear hl
  have hA := sumA_le l
  have hB := sumB_le l
  have hB2 : l.length * l.length ≤ 256 * 256 := Nat.mul_le_mul hn hn
  have hs1 : sumA l ≤ 65280 := by omega
  have hs2 : sumB l ≤ 16711680 := by omega
  clear hA hB hB2
  go_enter Tryz.func93, Tryz.ntmps93
  go_wp2_with fail
  go_loopw [12] (fun i wr => ∃ (k a s : Nat), i = .int .i64 k ∧ k ≤ l.length ∧ Hid (WeighAt w wr l k a s)) (fun i _ => l.length - (intOf i).toNat)
  case atStart =>
    refine ⟨0, 0, 0, rfl, by omega, Lib.hid ⟨?_, ?_, ((Below.refl _ _).alloc (Nat.le_refl _) _).alloc (by simp) _, by simp, by simp⟩⟩
    · rw [Below.heap_alloc _ _ _ (by simp)]; exact heap_alloc_new _ _
    · have := heap_alloc_new (w.alloc (.cells #[.int .u64 0, .int .u64 0, .int .u64 0] 149)) (.cells #[.int .u64 0, .int .u64 0, .int .u64 (l.length : Int)] 149); rwa [World.size_alloc] at this
  case round =>
    obtain ⟨k, a, s, rfl, hk, HW⟩ := hrel
    have ha : a ≤ 65280 := by have := HW.out.a; omega
    have hs : s ≤ 16711680 := by have := HW.out.s; omega
    have hc := Lib.cell_of_heap HW.out.v
    have hf := Lib.frozen_of_heap HW.out.v
    have e0 := hc 0; have e1 := hc 1; have e2 := hc 2; have f0 := hf 0; have f1 := hf 1
    simp at e0 e1 e2 f0 f1
    clear hc hf
    by_cases hlt : k < l.length
    · obtain ⟨c, hkc⟩ : ∃ c, l[k]? = some c := ⟨_, List.getElem?_eq_getElem hlt⟩
      obtain ⟨g, off, u, hao, hcell, hu⟩ := (HS.out.later lasts_byte HW.out.b).2.2.2 k c hkc
      subst hao
      have hu' : u = .int .u8 (c.toNat : Int) := hu
      subst hu'
      clear hu
      have hc256 := c.toNat_lt
      have hp : c.toNat * (l.length - k) ≤ 255 * 256 := Nat.mul_le_mul (by omega) (by omega)
      have HN := Lib.hid (show WeighAt w ((wr.setCell ⟨w.heap.size + 1, 0, none⟩ (.int .u64 ((a : Int) + (c.toNat : Int)))).setCell ⟨w.heap.size + 1, 1, none⟩ (.int .u64 (IntKind.u64.wrap ((s : Int) + IntKind.u64.wrap ((c.toNat : Int) * ((l.length : Int) - (k : Int)))))) ) l (k + 1) (a + c.toNat) (s + c.toNat * (l.length - k)) by
        have h1 : ((l.length : Int) - (k : Int)) = ((l.length - k : Nat) : Int) := by omega
        have h2 : IntKind.u64.wrap ((s : Int) + IntKind.u64.wrap ((c.toNat : Int) * ((l.length : Int) - (k : Int)))) = ((s + c.toNat * (l.length - k) : Nat) : Int) := by
          rw [h1, ← Int.natCast_mul, IntKind.wrap_u64, IntKind.wrap_u64]; omega
        rw [h2]
        exact HW.out.next hkc)
      have hlti : (k : Int) < (l.length : Int) := by omega
      clear hp hkc
      go_wp2_with fail
      go_roundw
      case rel => exact ⟨k + 1, _, _, by go_num, by omega, HN⟩
      case measure => simp [intOf]; omega
    · have hkl : k = l.length := by omega
      subst hkl
      have h1 : a = sumA l := by have := HW.out.a; rw [List.drop_length] at this; simpa [sumA] using this
      have h2 : s = sumB l := by have := HW.out.s; rw [List.drop_length] at this; simpa [sumB] using this
      subst h1 h2
      have hc := Lib.cell_of_heap HW.out.r
      have hf := Lib.frozen_of_heap HW.out.r
      have d0 := hc 0; have d1 := hc 1; have d2 := hc 2; have g0 := hf 0; have g1 := hf 1; have g2 := hf 2
      simp at d0 d1 d2 g0 g1 g2
      clear hc hf
      go_wp2_with fail
      refine bodyPost_ret (v := .agg #[.int .u64 (sumA l : Int), .int .u64 (sumB l : Int), .int .u64 (l.length : Int)]) ?_ rfl ⟨rfl, ?_⟩
      · simp [results, Tryz.results93, go_sem, d0, d1, d2]
      · exact (((HW.out.b).setCell (p := ⟨w.heap.size, 0, none⟩) (by simp) _).setCell (p := ⟨w.heap.size, 1, none⟩) (by simp) _).setCell (p := ⟨w.heap.size, 2, none⟩) (by simp) _
/-! ### The digits -/
theorem hexT_at : ∀ k : Nat, k < 16 → ([48, 49, 50, 51, 52, 53, 54, 55, 56, 57, 97, 98, 99, 100, 101, 102] : List UInt8)[k]? = some (hexD k) := by decide
/-- The digit at a place. -/
def hexAt (n k : Nat) : UInt8 := hexD (n / 2 ^ (28 - 4 * k) % 16)
theorem hex8_at (n k : Nat) (h : k < 8) : (hex8 n)[k]? = some (hexAt n k) := by
  match k, h with
  | 0, _ => rfl
  | 1, _ => rfl
  | 2, _ => rfl
  | 3, _ => rfl
  | 4, _ => rfl
  | 5, _ => rfl
  | 6, _ => rfl
  | 7, _ => show some (hexD (n % 16)) = some (hexD (n / 1 % 16)); rw [Nat.div_one]
theorem and_digit (n k : Nat) (h : n < 4294967296) : bits .and .u32 ((n : Int) / 2 ^ (28 - 4 * k)) 15 = ((n / 2 ^ (28 - 4 * k) % 16 : Nat) : Int) := by
  have hd : n / 2 ^ (28 - 4 * k) ≤ n := Nat.div_le_self _ _
  have h2 := u32_and_nat (n / 2 ^ (28 - 4 * k)) 15 (by omega) (by omega)
  rw [nat_mask4] at h2
  rw [← h2]
  simp
/-- At the head of Hex's loop. -/
structure HexAt (w wr : World) (n k : Nat) : Prop where
  v : ∃ cs : Array Value, wr.heap[w.heap.size]? = some (.cells cs 108 (0, 0)) ∧ cs.size = 8 ∧ ∀ j, j < k → cs[j]? = some (.int .u8 ((hexAt n j).toNat : Int))
  b : Below w.heap.size w wr
theorem HexAt.next {w wr : World} {n k : Nat} (h : HexAt w wr n k) (hk : k < 8) : HexAt w (wr.setCell ⟨w.heap.size, k, none⟩ (.int .u8 ((hexAt n k).toNat : Int))) n (k + 1) := by
  obtain ⟨cs, h1, h2, h3⟩ := h.v
  refine ⟨⟨_, heap_set h1 _, by simpa using h2, fun j hj => ?_⟩, h.b.setCell (p := ⟨w.heap.size, k, none⟩) (Nat.le_refl _) _⟩
  rw [Array.getElem?_setIfInBounds]
  split
  · rename_i e; subst e; rw [if_pos (by omega)]
  · exact h3 j (by omega)
theorem HexAt.sl {w wr : World} {n : Nat} (h : HexAt w wr n 8) : SlOf IsByte wr (some ⟨w.heap.size, 0, none⟩) 8 (hex8 n) := by
  obtain ⟨cs, h1, h2, h3⟩ := h.v
  refine ⟨by rw [hex8_len]; omega, by unfold maxLen; omega, by simp, fun k x hk => ⟨w.heap.size, 0, .int .u8 (x.toNat : Int), rfl, ?_, rfl⟩⟩
  have hk8 : k < 8 := (List.getElem?_eq_some_iff.1 hk).1
  rw [hex8_at n k hk8] at hk
  injection hk with hk
  rw [Lib.cell_of_heap h1, Nat.zero_add, h3 k hk8, hk]
set_option maxHeartbeats 1000000 in
theorem hex_any (n : Nat) (w : World) (hn : n < 4294967296) :
    Calls Tryz.prog 37 #[.int .u32 n] w fun e w' => e = .returned (.string ⟨(hex8 n).toArray⟩) ∧ Below w.heap.size w w' := by
  go_enter Tryz.func37, Tryz.ntmps37
  go_wp2_with fail
  go_loopw [5] (fun i wr => ∃ k : Nat, i = .int .i64 k ∧ k ≤ 8 ∧ Hid (HexAt w wr n k)) (fun i _ => 8 - (intOf i).toNat)
  case atStart => exact ⟨0, rfl, by omega, Lib.hid ⟨⟨_, heap_alloc_new _ _, rfl, fun j hj => by omega⟩, (Below.refl _ _).alloc (Nat.le_refl _) _⟩⟩
  case round =>
    obtain ⟨k, rfl, hk, HW⟩ := hrel
    by_cases hlt : k < 8
    · have hd := and_digit n k hn
      have hd16 : n / 2 ^ (28 - 4 * k) % 16 < 16 := by omega
      have HN := Lib.hid (HW.out.next hlt)
      have hby : ∀ h, (⟨#[48, 49, 50, 51, 52, 53, 54, 55, 56, 57, 97, 98, 99, 100, 101, 102]⟩ : ByteArray)[n / 2 ^ (28 - 4 * k) % 16]'h = hexAt n k := fun h => by
        have := hexT_at _ hd16
        exact (List.getElem?_eq_some_iff.1 this).2
      obtain ⟨cs, h1, h2, _⟩ := HW.out.v
      obtain ⟨u, hu⟩ : ∃ u, wr.cell? ⟨w.heap.size, k, none⟩ = some u := ⟨cs[k], by rw [Lib.cell_of_heap h1, Array.getElem?_eq_getElem (by omega)]⟩
      have hf := Lib.frozen_of_heap h1 k
      have H1 := Lib.hid h1; clear h1
      generalize n / 2 ^ (28 - 4 * k) % 16 = d at *
      have hs0 : (0 : Int) ≤ 28 - 4 * (k : Int) := by omega
      have hs1 : (28 : Int) - 4 * (k : Int) ≤ 32 := by omega
      go_wp2_with fail
      go_roundw
      case rel => exact ⟨k + 1, by go_num, by omega, HN⟩
      case measure => simp [intOf]; omega
    · obtain rfl : k = 8 := by omega
      have HCV := Lib.hid (SlOf.convert (P := Tryz.prog) HW.out.sl Tryz.underlying79 Tryz.underlying5 Tryz.underlying9 (Below.refl _ _))
      have hcv := HCV.out
      rw [hex8_len] at hcv
      go_wp2_with fail
      go_returns
      exact ⟨rfl, HW.out.b⟩
end Go.Proofs.YtofllhipjaphfaaGreatDoor
