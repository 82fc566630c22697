/- Three bytes, a slice of bytes, two numbers that came in, opened. -/
import Derived.Test.YtgfcnafhfgncoaaDoorOpen13
import Derived.Test.YtgfcnafhfgncoaaDoorOpenW16
import Derived.ChangeSlices
namespace Go.Proofs.YtgfcnafhfgncoaaDoor
open Go Go.Proofs Go.RowKit Go.Ink Go.ChangeShapes Go.WideShapes Go.ChangeAt Go.Joins Go.Deep

theorem trip8Cells : Tryd.prog.cellsOf 53 = 3 := by kernel_rfl
section
variable {H : Type} {enc : TypeId × Value → H} {w : World} {held : Bool}
set_option maxRecDepth 100000 in
theorem open_trip8 {r : Reach} {b0 : Nat} {v : Value} {d : DataW H} {p : List MemPlace} (hv : Value.okWide Tryd.prog w r b0 53 v) (h : DataW.Trod enc Tryd.prog w 0 (fun _ => true) held 53 v d p) :
    ∃ a b c : UInt8, v = .agg #[.int .u8 (a.toNat : Int), .int .u8 (b.toNat : Int), .int .u8 (c.toNat : Int)] := by
  obtain ⟨cs, rfl, hsz⟩ := okWide_array Tryd.underlying53 hv
  rw [trip8Cells] at hsz
  obtain ⟨l⟩ := cs
  match l, hsz with
  | [c0, c1, c2], _ =>
    obtain ⟨fuel, hf⟩ := h
    obtain ⟨xs, n, _, _, _, hlen, hg⟩ := DataW.trod_array Tryd.underlying53 hf
    have g0 := hg 0 (by omega)
    have g1 := hg 1 (by omega)
    have g2 := hg 2 (by omega)
    match xs, hlen with
    | [y0, y1, y2], _ =>
      simp [Value.cells, byteCells1] at g0 g1 g2
      obtain ⟨n0, e0, _, h0⟩ := DataW.trod_int Tryd.underlying5 g0
      obtain ⟨n1, e1, _, h1⟩ := DataW.trod_int Tryd.underlying5 g1
      obtain ⟨n2, e2, _, h2⟩ := DataW.trod_int Tryd.underlying5 g2
      simp at e0 e1 e2
      subst e0 e1 e2
      obtain ⟨a, rfl⟩ := u8_of h0
      obtain ⟨b, rfl⟩ := u8_of h1
      obtain ⟨c, rfl⟩ := u8_of h2
      exact ⟨a, b, c, rfl⟩
set_option maxRecDepth 100000 in
theorem open_bytes {r : Reach} {b0 : Nat} {v : Value} {d : DataW H} {p : List MemPlace} (hv : Value.okWide Tryd.prog w r b0 39 v) (h : DataW.Trod enc Tryd.prog w 0 (fun _ => true) held 39 v d p) :
    ∃ (l : List UInt8) (ao : Option Addr) (cap : Nat), v = .slice ao l.length cap ∧ SlOf IsByte w ao cap l := by
  obtain ⟨a0, len, cap, rfl⟩ := okWide_slice Tryd.underlying39 hv
  obtain ⟨fuel, hf⟩ := h
  rcases Go.ChangeShapes.open_ints Tryd.underlying39 Tryd.underlying5 byteCells1 hf with ⟨hcs, _⟩ | ⟨a, len', cap', zs, hcs, _, hl, hm, hz, _, hcell, hwz⟩
  · simp [Value.cells] at hcs
    obtain ⟨rfl, rfl, rfl⟩ := hcs
    exact ⟨[], none, 0, rfl, by simp, by simp [maxLen], fun _ => rfl, fun k x h => by simp at h⟩
  · simp [Value.cells] at hcs
    obtain ⟨rfl, rfl, rfl⟩ := hcs
    simp only [if_true] at hz
    refine ⟨(zs.take len).map fun n => UInt8.ofNat n.toNat, some a, cap, by simp; omega, by simp; omega, hm, by simp, fun k x hk => ?_⟩
    have hkl : k < len := by have := (List.getElem?_eq_some_iff.1 hk).1; simp at this; omega
    have hc0 := hcell 0 (by omega)
    obtain ⟨b, off, rfl, hat⟩ : ∃ b off, a = ⟨b, off, none⟩ ∧ ∀ w' : World, w'.cell? (a.add k) = w'.cell? ⟨b, off + k, none⟩ := by
      obtain ⟨b, off, spot⟩ := a
      have hspot : spot = none := by simpa [Addr.add] using World.cell?_spot hc0
      subst hspot
      exact ⟨b, off, rfl, fun w' => by rw [← Go.WideShapes.add_plain]⟩
    have hc := hcell k (by omega)
    refine ⟨b, off, _, rfl, (hat w) ▸ hc, ?_⟩
    show _ = Value.int .u8 (x.toNat : Int)
    have hkz : k < zs.length := by omega
    simp only [List.getElem?_map, List.getElem?_take, hkl, if_true, List.getElem?_eq_getElem hkz, Option.map_some, Option.some.injEq] at hk
    obtain ⟨c, hcc⟩ := u8_of (hwz _ (List.getElem_mem hkz))
    rw [hcc] at hk
    rw [List.getD_eq_getElem?_getD, List.getElem?_eq_getElem hkz, ← hk]
    simp [hcc]
end
end Go.Proofs.YtgfcnafhfgncoaaDoor
