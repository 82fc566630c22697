/- The walks of vt's small functions: wipe. -/
import Derived.Test.YtcgaaadcbhkfoaaGreatDoorVtMem
import Derived.Test.YtcgaaadcbhkfoaaGreatDoorProg
namespace Go.Proofs.YtcgaaadcbhkfoaaGreatDoor
open Go Go.Proofs Go.RowKit Go.Ink

theorem wipeW_cells (w : World) (g o : Nat) {cs : Array Value} {T : TypeId} (h : w.heap[g]? = some (.cells cs T (0, 0))) : ∀ n, ∃ ds : Array Value, (wipeW w g o n).heap[g]? = some (.cells ds T (0, 0)) ∧ ds.size = cs.size
  | 0 => ⟨cs, h, rfl⟩
  | n + 1 => by
    obtain ⟨ds, h1, h2⟩ := wipeW_cells w g o h n
    exact ⟨_, heap_set h1 _, by simp [h2]⟩
theorem wipe_any (g o n cap : Nat) (w : World) {cs : Array Value} {T : TypeId} (h : w.heap[g]? = some (.cells cs T (0, 0))) (hn : o + n ≤ cs.size) (hm : n ≤ maxLen) :
    Calls Tryz.prog 46 #[.slice (some ⟨g, o, none⟩) n cap] w fun e w' => e = .returned (.tuple #[]) ∧ w' = wipeW w g o n := by
  have H := Lib.hid h; clear h
  have hm' : n ≤ 9223372036854775807 := hm
  go_enter Tryz.func46, Tryz.ntmps46
  go_wp2_with fail
  go_loopw [5] (fun i wr => ∃ k : Nat, i = .int .i64 k ∧ k ≤ n ∧ Hid (wr = wipeW w g o k)) (fun i _ => n - (intOf i).toNat)
  case atStart => exact ⟨0, rfl, by omega, Lib.hid rfl⟩
  case round =>
    obtain ⟨k, rfl, hk, HW⟩ := hrel
    by_cases hlt : k < n
    · obtain ⟨ds, h1, h2⟩ := wipeW_cells w g o H.out k
      rw [← HW.out] at h1
      obtain ⟨u, hu⟩ : ∃ u, wr.cell? ⟨g, o + k, none⟩ = some u := ⟨ds[o + k]'(by omega), by rw [Lib.cell_of_heap h1, Array.getElem?_eq_getElem (by omega)]⟩
      have hf := Lib.frozen_of_heap h1 (o + k)
      have HN : Hid ((wr.setCell ⟨g, o + k, none⟩ (.int .u8 32)) = wipeW w g o (k + 1)) := Lib.hid (by rw [HW.out]; rfl)
      clear h1
      go_wp2_with fail
      go_roundw
      case rel => exact ⟨k + 1, by go_num, by omega, HN⟩
      case measure => simp [intOf]; omega
    · obtain rfl : k = n := by omega
      go_wp2_with fail
      go_returns
      exact ⟨rfl, HW.out⟩
end Go.Proofs.YtcgaaadcbhkfoaaGreatDoor
