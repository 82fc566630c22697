/- A grid that came in as an argument, opened. -/
import Derived.Test.YtcgaaadcbhkfoaaGreatDoorCheck
import Derived.ProofKit
import Derived.OpenShut
import Derived.Deep.Matrix
import Derived.Lib.SmallJoins
namespace Go.Proofs.YtcgaaadcbhkfoaaGreatDoor
open Go Go.Proofs Go.RowKit Go.Ink Go.ChangeShapes Go.WideShapes Go.ChangeAt Go.Joins Go.Deep

theorem cellsGrid : Tryz.prog.cellsOf 24 = 5 := by kernel_rfl
theorem cellsInt : Tryz.prog.cellsOf 3 = 1 := by kernel_rfl
theorem cellsByte : Tryz.prog.cellsOf 5 = 1 := by kernel_rfl
theorem cellsBytes : Tryz.prog.cellsOf 37 = 1 := by kernel_rfl
theorem cellsRows : Tryz.prog.cellsOf 22 = 1 := by kernel_rfl

theorem byte_of_wf {n : Int} (h : (Lit.int .u8 n).wf = true) : 0 ≤ n ∧ n ≤ 255 := bounds_u8 h
theorem spot_of {w : World} {a : Addr} {k : Nat} {u : Value} (h0 : w.cell? (a.add 0) = some u) : ∃ b off, a = ⟨b, off, none⟩ ∧ ∀ w' : World, w'.cell? (a.add k) = w'.cell? ⟨b, off + k, none⟩ := by
  obtain ⟨b, off, spot⟩ := a
  have hspot : spot = none := by simpa [Addr.add] using World.cell?_spot h0
  subst hspot
  exact ⟨b, off, rfl, fun w' => by rw [← Go.WideShapes.add_plain]⟩

section
variable {H : Type} {enc : TypeId × Value → H} {w : World} {held : Bool}
set_option maxRecDepth 100000 in
/-- The rows of a grid that came in. -/
theorem open_rows {n : Nat} {v : Value} {x : DataW H × List MemPlace} (h : DataW.trod enc Tryz.prog w 0 (fun _ => true) held n 22 [v] = some x) :
    ∃ (ao : Option Addr) (cap : Nat) (ls : List (List UInt8)), v = .slice ao ls.length cap ∧ SlOf IsBytes w ao cap ls := by
  rcases open_int_rows Tryz.underlying22 Tryz.underlying37 Tryz.underlying5 cellsBytes cellsByte h with ⟨hcs, _⟩ | ⟨a, len, cap, A, L, C, Z, hcs, _, hl, hm, _, hr⟩
  · simp at hcs
    exact ⟨none, 0, [], by simpa using hcs, by simp, by simp [maxLen], fun _ => rfl, fun k x h => by simp at h⟩
  · simp at hcs
    refine ⟨some a, cap, (List.range len).map fun r => ((Z r).take (L r)).map fun n => UInt8.ofNat n.toNat, by simpa using hcs, by simpa using hl, hm, by simp, fun k l hk => ?_⟩
    have hkl : k < len := by have := (List.getElem?_eq_some_iff.1 hk).1; simpa using this
    have hl' : ((Z k).take (L k)).map (fun n => UInt8.ofNat n.toNat) = l := by simpa [List.getElem?_map, List.getElem?_range hkl] using hk
    obtain ⟨hc0, _⟩ := hr 0 (by omega)
    obtain ⟨b, off, rfl, hat⟩ := spot_of (k := k) hc0
    obtain ⟨hc, h1, h2, h3, h4, h5, h6⟩ := hr k (by omega)
    have hlen : l.length = L k := by rw [← hl']; simp; omega
    refine ⟨b, off, _, rfl, (hat w) ▸ hc, A k, C k, by rw [hlen], by omega, h2, h5, fun j c hj => ?_⟩
    have hjl : j < L k := by have := (List.getElem?_eq_some_iff.1 hj).1; omega
    cases hA : A k with
    | none => have := h5 hA; omega
    | some a' =>
      obtain ⟨_, h7⟩ := h6 a' hA
      obtain ⟨b', off', rfl, hat'⟩ := spot_of (k := j) (h7 0 (by omega))
      refine ⟨b', off', _, rfl, (hat' w) ▸ h7 j (by omega), ?_⟩
      have hjz : j < (Z k).length := by omega
      have hz : (Z k).getD j 0 = (Z k)[j] := by simp [List.getD_eq_getElem?_getD, hjz]
      have hb := byte_of_wf (h4 _ (List.getElem_mem hjz))
      have hcj : UInt8.ofNat ((Z k)[j]).toNat = c := by
        rw [← hl'] at hj
        simpa [List.getElem?_map, List.getElem?_take, hjl, hjz] using hj
      show _ = Value.int .u8 (c.toNat : Int)
      rw [hz, ← hcj]
      congr 1
      rw [UInt8.toNat_ofNat']
      omega
set_option maxRecDepth 100000 in
/-- A grid that came in. -/
theorem open_grid {r : Reach} {b0 : Nat} {v : Value} {d : DataW H} {p : List MemPlace} (hv : Value.okWide Tryz.prog w r b0 24 v) (h : DataW.Trod enc Tryz.prog w 0 (fun _ => true) held 24 v d p) :
    ∃ (g : Grd) (ao : Option Addr) (cap : Nat), v = gridV g ao cap ∧ SlOf IsBytes w ao cap g.cells := by
  obtain ⟨cs, rfl, hsz⟩ := okWide_struct Tryz.underlying24 hv
  rw [cellsGrid] at hsz
  obtain ⟨l⟩ := cs
  match l, hsz with
  | [c0, c1, c2, c3, c4], _ =>
    obtain ⟨fuel, hf⟩ := h
    obtain ⟨xs, n, _, _, _, hlen, hg⟩ := DataW.trod_struct Tryz.underlying24 hf
    have g0 := hg 0 _ rfl
    have g1 := hg 1 _ rfl
    have g2 := hg 2 _ rfl
    have g3 := hg 3 _ rfl
    have g4 := hg 4 _ rfl
    match xs, hlen with
    | [y0, y1, y2, y3, y4], _ =>
      simp [Value.cells, cellsInt, cellsRows] at g0 g1 g2 g3 g4
      obtain ⟨n0, e0, _, _⟩ := DataW.trod_int Tryz.underlying3 g0
      obtain ⟨n1, e1, _, _⟩ := DataW.trod_int Tryz.underlying3 g1
      obtain ⟨n3, e3, _, _⟩ := DataW.trod_int Tryz.underlying3 g3
      obtain ⟨n4, e4, _, _⟩ := DataW.trod_int Tryz.underlying3 g4
      obtain ⟨ao, cap, ls, e2, hs⟩ := open_rows g2
      simp at e0 e1 e3 e4
      subst e0 e1 e2 e3 e4
      exact ⟨⟨n0, n1, ls, n3, n4⟩, ao, cap, rfl, hs⟩
end
end Go.Proofs.YtcgaaadcbhkfoaaGreatDoor
