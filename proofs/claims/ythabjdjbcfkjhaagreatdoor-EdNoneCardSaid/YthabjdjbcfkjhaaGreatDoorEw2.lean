/- The walk of the reference's Message at an error that has no words (chapter 25). -/
import Derived.Test.YthabjdjbcfkjhaaGreatDoorEw1
import Derived.Deep.Cut
set_option linter.unusedVariables false
set_option linter.unusedSimpArgs false
namespace Go.Proofs.YthabjdjbcfkjhaaGreatDoor
open Go Go.Proofs Go.RowKit Go.Ink

def errsA : Array Value := #[.int .i64 3, .int .i64 4, .int .i64 50, .int .i64 51, .int .i64 90, .int .i64 100, .int .i64 110, .int .i64 203, .int .i64 200, .int .i64 201, .int .i64 202, .int .i64 212, .int .i64 210, .int .i64 211, .int .i64 230, .int .i64 220, .int .i64 190, .int .i64 170, .int .i64 240, .int .i64 241]
def errsZ : Array Value := #[.int .i64 0, .int .i64 0, .int .i64 0, .int .i64 0, .int .i64 0, .int .i64 0, .int .i64 0, .int .i64 0, .int .i64 0, .int .i64 0, .int .i64 0, .int .i64 0, .int .i64 0, .int .i64 0, .int .i64 0, .int .i64 0, .int .i64 0, .int .i64 0, .int .i64 0, .int .i64 0]
def wordsA : Array Value := #[.string ⟨#[116, 111, 111, 32, 108, 111, 110, 103]⟩, .string ⟨#[110, 111, 32, 115, 117, 99, 104, 32, 102, 105, 108, 101]⟩, .string ⟨#[110, 111, 32, 115, 112, 97, 99, 101]⟩, .string ⟨#[110, 111, 32, 100, 105, 115, 107]⟩, .string ⟨#[98, 97, 100, 32, 112, 97, 116, 116, 101, 114, 110]⟩, .string ⟨#[112, 97, 116, 116, 101, 114, 110, 32, 116, 97, 107, 101, 115, 32, 116, 111, 111, 32, 108, 111, 110, 103]⟩, .string ⟨#[98, 97, 100, 32, 114, 101, 112, 108, 97, 99, 101, 109, 101, 110, 116]⟩, .string ⟨#[110, 111, 32, 112, 97, 116, 116, 101, 114, 110]⟩, .string ⟨#[98, 97, 100, 32, 97, 100, 100, 114, 101, 115, 115]⟩, .string ⟨#[110, 111, 116, 32, 102, 111, 117, 110, 100]⟩, .string ⟨#[110, 111, 32, 115, 117, 99, 104, 32, 109, 97, 114, 107]⟩, .string ⟨#[98, 97, 100, 32, 100, 101, 115, 116, 105, 110, 97, 116, 105, 111, 110]⟩, .string ⟨#[117, 110, 107, 110, 111, 119, 110, 32, 99, 111, 109, 109, 97, 110, 100]⟩, .string ⟨#[98, 97, 100, 32, 115, 117, 102, 102, 105, 120]⟩, .string ⟨#[110, 111, 116, 32, 105, 110, 32, 97, 32, 103, 108, 111, 98, 97, 108, 32, 99, 111, 109, 109, 97, 110, 100]⟩, .string ⟨#[110, 111, 32, 109, 97, 116, 99, 104]⟩, .string ⟨#[110, 111, 116, 104, 105, 110, 103, 32, 116, 111, 32, 117, 110, 100, 111]⟩, .string ⟨#[110, 111, 116, 104, 105, 110, 103, 32, 105, 110, 32, 114, 101, 103, 105, 115, 116, 101, 114]⟩, .string ⟨#[110, 111, 32, 102, 105, 108, 101, 32, 110, 97, 109, 101]⟩, .string ⟨#[110, 111, 116, 32, 119, 114, 105, 116, 116, 101, 110]⟩]
def wordsZ : Array Value := #[.string ⟨#[]⟩, .string ⟨#[]⟩, .string ⟨#[]⟩, .string ⟨#[]⟩, .string ⟨#[]⟩, .string ⟨#[]⟩, .string ⟨#[]⟩, .string ⟨#[]⟩, .string ⟨#[]⟩, .string ⟨#[]⟩, .string ⟨#[]⟩, .string ⟨#[]⟩, .string ⟨#[]⟩, .string ⟨#[]⟩, .string ⟨#[]⟩, .string ⟨#[]⟩, .string ⟨#[]⟩, .string ⟨#[]⟩, .string ⟨#[]⟩, .string ⟨#[]⟩]
theorem errs_at (k : Nat) (hk : k < 20) : ∃ z, errsA[k]? = some (.int .i64 z) ∧ z ∈ errsL := by
  have hl : errsL.length = 20 := by decide
  refine ⟨errsL[k]'(by omega), ?_, List.getElem_mem _⟩
  have e : errsA = (errsL.map fun z => Value.int .i64 z).toArray := rfl
  simp [e, hl, hk]
theorem row_below {B : Nat} {a w : World} (h : Below B a w) {g : Nat} (hg : B ≤ g) (cs : Array Value) : Below B a (w.setRow g cs) :=
  h.trans ⟨rfl, rfl, rfl, by simp, fun k hk => setRow_other w g k cs (by omega)⟩
set_option maxRecDepth 100000 in
set_option maxHeartbeats 1000000 in
theorem refMsg_else (e : Int) (he : e ∉ errsL) (w : World) :
    Calls Tryz.prog 6 #[.int .i64 e] w fun r w' => r = .returned (.string ⟨errorB⟩) ∧ Below w.heap.size w w' := by
  have HE := Lib.hid he
  clear he
  obtain ⟨n, hn⟩ : ∃ n, w.heap.size = n := ⟨_, rfl⟩
  obtain ⟨w1, hw1⟩ : ∃ w1, w.alloc (.cells errsZ 52) = w1 := ⟨_, rfl⟩
  have HX := Lib.hid (heap_alloc_new w (.cells errsZ 52))
  have HB := Lib.hid ((Below.refl w.heap.size w).alloc (Nat.le_refl _) (.cells errsZ 52))
  rw [hw1] at HX HB
  rw [hn] at HX HB ⊢
  unfold errsZ at hw1
  go_enter Tryz.func6, Tryz.ntmps6
  go_upto_region 1 with fail
  go_upto_region 2 with (first
    | (refine wpList_built rfl 52 #[(0, .const (.int .i64 3)), (1, .const (.int .i64 4)), (2, .const (.int .i64 50)), (3, .const (.int .i64 51)), (4, .const (.int .i64 90)), (5, .const (.int .i64 100)), (6, .const (.int .i64 110)), (7, .const (.int .i64 203)), (8, .const (.int .i64 200)), (9, .const (.int .i64 201)), (10, .const (.int .i64 202)), (11, .const (.int .i64 212)), (12, .const (.int .i64 210)), (13, .const (.int .i64 211)), (14, .const (.int .i64 230)), (15, .const (.int .i64 220)), (16, .const (.int .i64 190)), (17, .const (.int .i64 170)), (18, .const (.int .i64 240)), (19, .const (.int .i64 241))] (by with_reducible rfl) errsA (by kernel_rfl) ?_)
    | (refine wpList_store_row rfl 52 (.tmp 3) (.tmp 6) (by with_reducible rfl) n errsA rfl rfl 52 _ HX.out (by kernel_rfl) (by kernel_rfl) (by kernel_rfl) ?_))
  clear hw1
  have HX2 := Lib.hid (setRow_heap _ _ errsZ errsA 52 (0, 0) HX.out)
  have HB2 := Lib.hid (row_below HB.out (Nat.le_refl n) errsA)
  clear HX HB
  generalize w1.setRow n errsA = w2 at *
  have hlt : n < w2.heap.size := (Array.getElem?_eq_some_iff.1 HX2.out).1
  obtain ⟨m, hm⟩ : ∃ m, w2.heap.size = m := ⟨_, rfl⟩
  obtain ⟨w3, hw3⟩ : ∃ w3, w2.alloc (.cells wordsZ 53) = w3 := ⟨_, rfl⟩
  have HY := Lib.hid (heap_alloc_new w2 (.cells wordsZ 53))
  have HB3 := Lib.hid ((Below.refl w2.heap.size w2).alloc (Nat.le_refl _) (.cells wordsZ 53))
  rw [hw3] at HY HB3
  rw [hm] at HY HB3 hlt
  have HN := Lib.hid hlt
  clear hlt
  unfold wordsZ at hw3
  go_upto_region 3 with (first
    | (refine wpList_built rfl 53 #[(0, .const (.string ⟨#[116, 111, 111, 32, 108, 111, 110, 103]⟩)), (1, .const (.string ⟨#[110, 111, 32, 115, 117, 99, 104, 32, 102, 105, 108, 101]⟩)), (2, .const (.string ⟨#[110, 111, 32, 115, 112, 97, 99, 101]⟩)), (3, .const (.string ⟨#[110, 111, 32, 100, 105, 115, 107]⟩)), (4, .const (.string ⟨#[98, 97, 100, 32, 112, 97, 116, 116, 101, 114, 110]⟩)), (5, .const (.string ⟨#[112, 97, 116, 116, 101, 114, 110, 32, 116, 97, 107, 101, 115, 32, 116, 111, 111, 32, 108, 111, 110, 103]⟩)), (6, .const (.string ⟨#[98, 97, 100, 32, 114, 101, 112, 108, 97, 99, 101, 109, 101, 110, 116]⟩)), (7, .const (.string ⟨#[110, 111, 32, 112, 97, 116, 116, 101, 114, 110]⟩)), (8, .const (.string ⟨#[98, 97, 100, 32, 97, 100, 100, 114, 101, 115, 115]⟩)), (9, .const (.string ⟨#[110, 111, 116, 32, 102, 111, 117, 110, 100]⟩)), (10, .const (.string ⟨#[110, 111, 32, 115, 117, 99, 104, 32, 109, 97, 114, 107]⟩)), (11, .const (.string ⟨#[98, 97, 100, 32, 100, 101, 115, 116, 105, 110, 97, 116, 105, 111, 110]⟩)), (12, .const (.string ⟨#[117, 110, 107, 110, 111, 119, 110, 32, 99, 111, 109, 109, 97, 110, 100]⟩)), (13, .const (.string ⟨#[98, 97, 100, 32, 115, 117, 102, 102, 105, 120]⟩)), (14, .const (.string ⟨#[110, 111, 116, 32, 105, 110, 32, 97, 32, 103, 108, 111, 98, 97, 108, 32, 99, 111, 109, 109, 97, 110, 100]⟩)), (15, .const (.string ⟨#[110, 111, 32, 109, 97, 116, 99, 104]⟩)), (16, .const (.string ⟨#[110, 111, 116, 104, 105, 110, 103, 32, 116, 111, 32, 117, 110, 100, 111]⟩)), (17, .const (.string ⟨#[110, 111, 116, 104, 105, 110, 103, 32, 105, 110, 32, 114, 101, 103, 105, 115, 116, 101, 114]⟩)), (18, .const (.string ⟨#[110, 111, 32, 102, 105, 108, 101, 32, 110, 97, 109, 101]⟩)), (19, .const (.string ⟨#[110, 111, 116, 32, 119, 114, 105, 116, 116, 101, 110]⟩))] (by with_reducible rfl) wordsA (by kernel_rfl) ?_)
    | (refine wpList_store_row rfl 53 (.tmp 4) (.tmp 7) (by with_reducible rfl) m wordsA rfl rfl 53 _ HY.out (by kernel_rfl) (by kernel_rfl) (by kernel_rfl) ?_))
  clear hw3
  have HB4 := Lib.hid (row_below HB3.out (Nat.le_refl m) wordsA)
  clear HY HB3
  generalize w3.setRow m wordsA = w4 at *
  have HX4 := Lib.hid ((HB4.out.block n HN.out).trans HX2.out)
  have HB := Lib.hid (HB2.out.trans (HB4.out.mono (Nat.le_of_lt HN.out)))
  clear HX2 HB2 HB4 HN
  go_wp2_with fail
  go_loop [5] (fun i => ∃ k : Nat, i = .int .i64 (k : Int) ∧ k ≤ 20) (fun i => 20 - (intOf i).toNat)
  case atStart => exact ⟨0, rfl, by omega⟩
  case round =>
    obtain ⟨k, rfl, hk⟩ := hrel
    by_cases hlt : k < 20
    · obtain ⟨z, hz, hm⟩ := errs_at k hlt
      have hc := Lib.cell_of_heap HX4.out k
      rw [hz] at hc
      have hne : ¬ z = e := fun h => HE.out (h ▸ hm)
      have hki : (k : Int) < 20 := by omega
      have hk0 : (0 : Int) ≤ (k : Int) := by omega
      clear hz hm
      go_wp2_with fail
      go_round
      case rel => exact ⟨k + 1, by go_num, by omega⟩
      case measure => simp [intOf]; omega
    · have hki : ¬ (k : Int) < 20 := by omega
      go_wp2_with fail
      go_ret
      exact ⟨rfl, HB.out⟩
end Go.Proofs.YthabjdjbcfkjhaaGreatDoor
