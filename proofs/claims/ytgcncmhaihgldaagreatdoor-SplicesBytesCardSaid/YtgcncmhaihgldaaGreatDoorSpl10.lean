/- The walks of chapter 15's own Same and Much. -/
import Derived.Test.YtgcncmhaihgldaaGreatDoorSpl6
namespace Go.Proofs.YtgcncmhaihgldaaGreatDoor
open Go Go.Proofs Go.RowKit Go.Ink

def splSame (a b : Spl) : Bool := decide (a.pos = b.pos) && (decide (a.del = b.del) && sameS a.ins b.ins)
theorem splSame_iff (a b : Spl) : splSame a b = true ↔ a = b := by
  obtain ⟨p, d, i⟩ := a
  obtain ⟨p', d', i'⟩ := b
  simp only [splSame, Bool.and_eq_true, decide_eq_true_eq, sameS_iff, Spl.mk.injEq]

theorem splSame_any (a b : Spl) (a1 a2 : Option Addr) (c1 c2 : Nat) (w : World) (ha : SlOf IsStr w a1 c1 a.ins) (hb : SlOf IsStr w a2 c2 b.ins) :
    Calls Tryz.prog 9 #[splV a a1 c1, splV b a2 c2] w fun e w' => e = .returned (.bool (splSame a b)) ∧ Below w.heap.size w w' := by
  have HA := Lib.hid ha; clear ha
  have HB := Lib.hid hb; clear hb
  obtain ⟨p, d, i⟩ := a
  obtain ⟨p', d', i'⟩ := b
  simp only [splV] at *
  have H2 := Lib.hid (two_blocks w (.cells #[.int .i64 p, .int .i64 d, .slice a1 i.length c1] 24 (0, 0)) (.cells #[.int .i64 p', .int .i64 d', .slice a2 i'.length c2] 24 (0, 0)))
  by_cases h1 : p = p'
  · subst h1
    by_cases h2 : d = d'
    · subst h2
      have HS := Lib.hid (show splSame ⟨p, d, i⟩ ⟨p, d, i'⟩ = sameS i i' by simp [splSame])
      go_enter Tryz.func9, Tryz.ntmps9
      go_wp2_with fail
      refine (same_any i i' a1 a2 c1 c2 _ (HA.out.later lasts_str H2.out.2.2.1) (HB.out.later lasts_str H2.out.2.2.1)).mono ?_
      rintro e w1 ⟨rfl, n, rfl⟩
      go_wp2_with fail
      go_returns
      rw [HS.out]
      exact ⟨rfl, (H2.out.2.2.1).trans ⟨rfl, rfl, rfl, Nat.le_refl _, fun _ _ => rfl⟩⟩
    · have HS := Lib.hid (show splSame ⟨p, d, i⟩ ⟨p, d', i'⟩ = false by simp [splSame, h2])
      have h2' : decide (d = d') = false := by simpa using h2
      go_enter Tryz.func9, Tryz.ntmps9
      go_wp2_with fail
      go_returns
      rw [HS.out]
      exact ⟨rfl, H2.out.2.2.1⟩
  · have HS := Lib.hid (show splSame ⟨p, d, i⟩ ⟨p', d', i'⟩ = false by simp [splSame, h1])
    have h1' : decide (p = p') = false := by simpa using h1
    go_enter Tryz.func9, Tryz.ntmps9
    go_wp2_with fail
    go_returns
    rw [HS.out]
    exact ⟨rfl, H2.out.2.2.1⟩

def muchL (many : Int) (len : Nat) : Int → List Spl → Bool
  | n, [] => if many < len then true else decide (5000 < n)
  | n, s :: r => if greatS s.ins 2100 20000 then true else muchL many len (wrap64 (n + s.ins.length)) r
def muchS (list : List Spl) (many : Int) : Bool := muchL many list.length 0 list
theorem muchL_step {many : Int} {len : Nat} {n : Int} {list : List Spl} {k : Nat} {s : Spl} (h : list[k]? = some s) : muchL many len n (list.drop k) = if greatS s.ins 2100 20000 then true else muchL many len (wrap64 (n + s.ins.length)) (list.drop (k + 1)) := by
  obtain ⟨hk, rfl⟩ := List.getElem?_eq_some_iff.1 h
  rw [List.drop_eq_getElem_cons hk, muchL]

set_option maxRecDepth 100000 in
theorem much_any (list : List Spl) (al : Option Addr) (cl : Nat) (many : Int) (w : World) (hs : SplOf w al cl list) :
    Calls Tryz.prog 4 #[.slice al list.length cl, .int .i64 many] w fun e w' => e = .returned (.bool (muchS list many)) ∧ w' = w := by
  have HS := Lib.hid hs
  have hc : list.length ≤ 9223372036854775807 := Nat.le_trans hs.1 hs.2.1
  clear hs
  go_enter Tryz.func4, Tryz.ntmps4
  go_wp2_with fail
  go_loopw [5, 6] (fun x i wr => ∃ (k : Nat) (n : Int), x = .int .i64 n ∧ i = .int .i64 k ∧ k ≤ list.length ∧ Hid (muchS list many = muchL many list.length n (list.drop k)) ∧ wr = w) (fun _ i _ => list.length - (intOf i).toNat)
  case atStart => exact ⟨0, 0, rfl, rfl, by omega, Lib.hid rfl, rfl⟩
  case round =>
    obtain ⟨k, n, rfl, rfl, hk, HF, rfl⟩ := hrel
    by_cases hlt : k < list.length
    · obtain ⟨s, hks⟩ : ∃ s, list[k]? = some s := ⟨_, List.getElem?_eq_getElem hlt⟩
      obtain ⟨b, off, ai, ci, hao, c0, c1, c2, hins⟩ := HS.out.2.2.2 k s hks
      subst hao
      have HI := Lib.hid hins
      have HT := Lib.hid (HF.out.trans (muchL_step hks))
      clear c0 c1 hins hks
      cases hg : greatS s.ins 2100 20000 with
      | true =>
        rw [hg, if_pos rfl] at HT
        go_wp2_with fail
        refine (great_any s.ins ai ci 2100 20000 _ HI.out (by omega) (by omega)).mono ?_
        rintro e w1 ⟨rfl, rfl⟩
        rw [hg]
        go_wp2_with fail
        go_returns
        rw [HT.out]
        exact ⟨rfl, rfl⟩
      | false =>
        rw [hg, if_neg (by simp)] at HT
        go_wp2_with fail
        refine (great_any s.ins ai ci 2100 20000 _ HI.out (by omega) (by omega)).mono ?_
        rintro e w1 ⟨rfl, rfl⟩
        rw [hg]
        go_wp2_with fail
        go_roundw
        case rel => exact ⟨k + 1, _, rfl, by go_num, by omega, HT, trivial⟩
        case measure => simp [intOf]; omega
    · have hkl : k = list.length := by omega
      subst hkl
      have HF' := HF.out
      rw [List.drop_length, muchL] at HF'
      have HF' := Lib.hid HF'
      by_cases hm : many < (list.length : Int)
      · rw [if_pos hm] at HF'
        go_wp2_with fail
        go_returns
        rw [HF'.out]
        exact ⟨rfl, rfl⟩
      · rw [if_neg hm] at HF'
        have hm' : decide (many < (list.length : Int)) = false := by simpa using hm
        go_wp2_with fail
        go_returns
        exact ⟨rfl, rfl⟩
end Go.Proofs.YtgcncmhaihgldaaGreatDoor
