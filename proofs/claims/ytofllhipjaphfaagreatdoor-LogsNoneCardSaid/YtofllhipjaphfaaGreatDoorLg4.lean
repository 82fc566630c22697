/- Are lines, splices, changes more than is looked at? Some answer each (chapters 16 to 18). -/
import Derived.Test.YtofllhipjaphfaaGreatDoorSplM0
import Derived.Test.YtofllhipjaphfaaGreatDoorProg
import Derived.WalkSmall
namespace Go.Proofs.YtofllhipjaphfaaGreatDoor
open Go Go.Proofs Go.RowKit Go.Ink

/-- Some answer, of which this is known. -/
def SomeB (Q : Bool → Prop) (e : Ending) : Prop := ∃ b, e = .returned (.bool b) ∧ Q b
theorem SomeB.mk {Q : Bool → Prop} (b : Bool) (h : Q b) : SomeB Q (.returned (.bool b)) := ⟨b, rfl, h⟩
def fewQ (l : List (List UInt8)) (m : Int) (b : Bool) : Prop := b = false → (l.length : Int) ≤ m ∧ ∀ x ∈ l, x.length ≤ 300
def anyQ (_ : Bool) : Prop := True
set_option maxHeartbeats 1000000 in
theorem beyondLines_any (l : List (List UInt8)) (ao : Option Addr) (cap : Nat) (m : Int) (w : World) (hs : SlOf IsStr w ao cap l) :
    Calls Tryz.prog 4 #[.slice ao l.length cap, .int .i64 m] w fun e w' => SomeB (fewQ l m) e ∧ w' = w := by
  have HS := Lib.hid hs
  have hc : l.length ≤ 9223372036854775807 := Nat.le_trans hs.1 hs.2.1
  clear hs
  by_cases hm : m < (l.length : Int)
  · go_enter Tryz.func4, Tryz.ntmps4
    go_wp2_with fail
    go_returns
    exact ⟨.mk true (fun h => by cases h), rfl⟩
  · have HM := Lib.hid (show (l.length : Int) ≤ m by omega)
    go_enter Tryz.func4, Tryz.ntmps4
    go_wp2_with fail
    go_loop [5] (fun i => ∃ k : Nat, i = .int .i64 (k : Int) ∧ k ≤ l.length ∧ Hid (∀ j x, j < k → l[j]? = some x → x.length ≤ 300)) (fun i => l.length - (intOf i).toNat)
    case atStart => exact ⟨0, rfl, by omega, Lib.hid (fun j x hj => by omega)⟩
    case round =>
      obtain ⟨k, rfl, hk, HK⟩ := hrel
      by_cases hlt : k < l.length
      · have hlti : (k : Int) < (l.length : Int) := by omega
        obtain ⟨c, hkc⟩ : ∃ c, l[k]? = some c := ⟨_, List.getElem?_eq_getElem hlt⟩
        obtain ⟨g1, off1, u, hao1, hcell1, hu⟩ := HS.out.2.2.2 k c hkc
        subst hao1
        have h1 : u = .string ⟨c.toArray⟩ := hu
        subst h1
        clear hu
        have HKC := Lib.hid hkc; clear hkc
        by_cases h3 : 300 < c.length
        · have h3i : (300 : Int) < (c.length : Int) := by omega
          go_wp2_with fail
          go_returns
          exact ⟨.mk true (fun h => by cases h), rfl⟩
        · have h3i : ¬ (300 : Int) < (c.length : Int) := by omega
          have H3 := Lib.hid h3
          clear h3
          go_wp2_with fail
          go_round
          case rel => exact ⟨k + 1, by go_num, by omega, Lib.hid (fun j x hj hx => by
            by_cases e : j = k
            · subst e
              rw [HKC.out] at hx
              cases hx
              exact Nat.le_of_not_lt H3.out
            · exact HK.out j x (by omega) hx)⟩
          case measure => simp [intOf] <;> omega
      · have hlti : ¬ (k : Int) < (l.length : Int) := by omega
        have hkl : k = l.length := by omega
        have HR := Lib.hid (show (l.length : Int) ≤ m ∧ ∀ x ∈ l, x.length ≤ 300 from ⟨HM.out, fun x hx => by
          obtain ⟨j, hj⟩ := List.getElem?_of_mem hx
          exact HK.out j x (by have := (List.getElem?_eq_some_iff.1 hj).1; omega) hj⟩)
        go_wp2_with fail
        go_returns
        exact ⟨.mk false (fun _ => HR.out), rfl⟩
set_option maxHeartbeats 1000000 in
theorem beyond16_any (l : List Spl) (ao : Option Addr) (cap : Nat) (m : Int) (w : World) (hs : SplOf w ao cap l) :
    Calls Tryz.prog 14 #[.slice ao l.length cap, .int .i64 m] w fun e w' => SomeB anyQ e ∧ w' = w := by
  have HS := Lib.hid hs
  have hc : l.length ≤ 9223372036854775807 := Nat.le_trans hs.1 hs.2.1
  clear hs
  by_cases hm : m < (l.length : Int)
  · go_enter Tryz.func14, Tryz.ntmps14
    go_wp2_with fail
    go_returns
    exact ⟨.mk true trivial, rfl⟩
  · go_enter Tryz.func14, Tryz.ntmps14
    go_wp2_with fail
    go_loop [5] (fun i => ∃ k : Nat, i = .int .i64 (k : Int) ∧ k ≤ l.length) (fun i => l.length - (intOf i).toNat)
    case atStart => exact ⟨0, rfl, by omega⟩
    case round =>
      obtain ⟨k, rfl, hk⟩ := hrel
      by_cases hlt : k < l.length
      · have hlti : (k : Int) < (l.length : Int) := by omega
        obtain ⟨c, hkc⟩ : ∃ c, l[k]? = some c := ⟨_, List.getElem?_eq_getElem hlt⟩
        obtain ⟨g1, off1, ai, ci, hao1, c0, c1, c2, hcs⟩ := HS.out.2.2.2 k c hkc
        subst hao1
        clear hkc hcs c0 c1
        by_cases h3 : 100 < c.ins.length
        · have h3i : (100 : Int) < (c.ins.length : Int) := by omega
          go_wp2_with fail
          go_returns
          exact ⟨.mk true trivial, rfl⟩
        · have h3i : ¬ (100 : Int) < (c.ins.length : Int) := by omega
          go_wp2_with fail
          go_round
          case rel => exact ⟨k + 1, by go_num, by omega⟩
          case measure => simp [intOf] <;> omega
      · have hlti : ¬ (k : Int) < (l.length : Int) := by omega
        go_wp2_with fail
        go_returns
        exact ⟨.mk false trivial, rfl⟩
set_option maxHeartbeats 2000000 in
theorem beyond18_any (l : List Spl) (ao : Option Addr) (cap g : Nat) (w : World) (hs : SplOf w ao cap l) (hg : w.cell? ⟨g, 0, none⟩ = some (.slice ao l.length cap)) :
    Calls Tryz.prog 5 #[.slice (some ⟨g, 0, none⟩) 1 1, .int .i64 1] w fun e w' => SomeB anyQ e ∧ w' = w := by
  have HS := Lib.hid hs
  have hc : l.length ≤ 9223372036854775807 := Nat.le_trans hs.1 hs.2.1
  have HB16 := Lib.hid (beyond16_any l ao cap 10 w hs)
  clear hs
  go_enter Tryz.func5, Tryz.ntmps5
  go_wp2_with fail
  refine wp_loop_rounds 2 ?_
  rw [rounds_succ]
  go_wp2_with fail
  refine HB16.out.mono ?_
  rintro e w1 ⟨⟨b, rfl, -⟩, rfl⟩
  cases b
  case true =>
    go_wp2_with fail
    go_returns
    exact ⟨.mk true trivial, rfl⟩
  go_wp2_with fail
  go_loop [5, 7] (fun n i => ∃ (z : Int) (k : Nat), n = .int .i64 z ∧ i = .int .i64 (k : Int) ∧ k ≤ l.length) (fun n i => l.length - (intOf i).toNat)
  case atStart => exact ⟨0, 0, rfl, rfl, by omega⟩
  case round =>
    obtain ⟨z, k, rfl, rfl, hk⟩ := hrel
    by_cases hlt : k < l.length
    · have hlti : (k : Int) < (l.length : Int) := by omega
      obtain ⟨c, hkc⟩ : ∃ c, l[k]? = some c := ⟨_, List.getElem?_eq_getElem hlt⟩
      obtain ⟨g1, off1, ai, ci, hao1, c0, c1, c2, hcs⟩ := HS.out.2.2.2 k c hkc
      subst hao1
      have HBL := Lib.hid (fun w h => beyondLines_any c.ins ai ci 100 w h)
      have HCS := Lib.hid hcs
      clear hkc hcs c0 c1
      by_cases h5 : (500 : Int) < wrap64 (z + (c.ins.length : Int))
      · go_wp2_with fail
        refine (HBL.out _ HCS.out).mono ?_
        rintro e w2 ⟨⟨b, rfl, -⟩, rfl⟩
        cases b
        · go_wp2_with fail
          go_returns
          exact ⟨.mk true trivial, rfl⟩
        · go_wp2_with fail
          go_returns
          exact ⟨.mk true trivial, rfl⟩
      · go_wp2_with fail
        refine (HBL.out _ HCS.out).mono ?_
        rintro e w2 ⟨⟨b, rfl, -⟩, rfl⟩
        cases b
        · go_wp2_with fail
          go_round
          case rel => exact ⟨_, k + 1, rfl, by go_num, by omega⟩
          case measure => simp [intOf] <;> omega
        · go_wp2_with fail
          go_returns
          exact ⟨.mk true trivial, rfl⟩
    · have hlti : ¬ (k : Int) < (l.length : Int) := by omega
      go_wp2_with fail
      rw [rounds_succ]
      go_wp2_with fail
      go_returns
      exact ⟨.mk false trivial, rfl⟩
end Go.Proofs.YtofllhipjaphfaaGreatDoor
