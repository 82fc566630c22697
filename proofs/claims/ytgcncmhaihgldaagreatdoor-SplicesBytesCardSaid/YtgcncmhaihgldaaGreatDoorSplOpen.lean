/- Splices that came in, opened. -/
import Derived.Test.YtgcncmhaihgldaaGreatDoorSplMem
import Derived.Test.YtgcncmhaihgldaaGreatDoorEnv15
namespace Go.Proofs.YtgcncmhaihgldaaGreatDoor
open Go Go.Proofs Go.RowKit Go.Ink Go.ChangeShapes Go.WideShapes Go.ChangeAt Go.Joins Go.Deep

theorem splCells : Tryz.prog.cellsOf 24 = 3 := by kernel_rfl
theorem intCells : Tryz.prog.cellsOf 3 = 1 := by kernel_rfl
theorem strsCells : Tryz.prog.cellsOf 22 = 1 := by kernel_rfl
def Spl.inRange (s : Spl) : Prop := -9223372036854775808 ≤ s.pos ∧ s.pos ≤ 9223372036854775807 ∧ -9223372036854775808 ≤ s.del ∧ s.del ≤ 9223372036854775807

section
variable {H : Type} {enc : TypeId × Value → H} {w : World} {held : Bool}
set_option maxRecDepth 100000 in
theorem open_spl_cells {n : Nat} {c0 c1 c2 : Value} {x : DataW H × List MemPlace} (h : DataW.trod enc Tryz.prog w 0 (fun _ => true) held n 24 [c0, c1, c2] = some x) :
    ∃ (s : Spl) (ao : Option Addr) (cap : Nat), c0 = .int .i64 s.pos ∧ c1 = .int .i64 s.del ∧ c2 = .slice ao s.ins.length cap ∧ SlOf IsStr w ao cap s.ins ∧ s.inRange := by
  obtain ⟨xs, m, _, _, _, hlen, hg⟩ := DataW.trod_struct Tryz.underlying24 h
  have g0 := hg 0 _ rfl
  have g1 := hg 1 _ rfl
  have g2 := hg 2 _ rfl
  match xs, hlen with
  | [y0, y1, y2], _ =>
    simp [intCells, strsCells] at g0 g1 g2
    obtain ⟨n0, e0, _, w0⟩ := DataW.trod_int Tryz.underlying3 g0
    obtain ⟨n1, e1, _, w1⟩ := DataW.trod_int Tryz.underlying3 g1
    obtain ⟨l, ao, cap, e2, hs⟩ := open_strs_trod g2
    simp at e0 e1
    subst e0 e1 e2
    exact ⟨⟨n0, n1, l⟩, ao, cap, rfl, rfl, rfl, hs, (bounds_i64 w0).1, (bounds_i64 w0).2, (bounds_i64 w1).1, (bounds_i64 w1).2⟩
set_option maxRecDepth 100000 in
theorem open_splice {r : Reach} {b0 : Nat} {v : Value} {d : DataW H} {p : List MemPlace} (hv : Value.okWide Tryz.prog w r b0 24 v) (h : DataW.Trod enc Tryz.prog w 0 (fun _ => true) held 24 v d p) :
    ∃ (s : Spl) (ao : Option Addr) (cap : Nat), v = splV s ao cap ∧ SlOf IsStr w ao cap s.ins ∧ s.inRange := by
  obtain ⟨cs, rfl, hsz⟩ := okWide_struct Tryz.underlying24 hv
  rw [splCells] at hsz
  obtain ⟨l⟩ := cs
  match l, hsz with
  | [c0, c1, c2], _ =>
    obtain ⟨fuel, hf⟩ := h
    obtain ⟨s, ao, cap, rfl, rfl, rfl, hs, hr⟩ := open_spl_cells hf
    exact ⟨s, ao, cap, rfl, hs, hr⟩
theorem cells3 {w : World} {a : Addr} {cs : List Value} (h : w.cells? 0 a 3 = some cs) : ∃ c0 c1 c2, cs = [c0, c1, c2] ∧ w.cell? (a.add 0) = some c0 ∧ w.cell? (a.add 1) = some c1 ∧ w.cell? (a.add 2) = some c2 := by
  unfold World.cells? at h
  rw [if_pos (Nat.zero_le _)] at h
  rw [show List.range 3 = [0, 1, 2] from rfl] at h
  simp only [List.mapM_cons, List.mapM_nil, Option.bind_eq_bind, Option.bind_eq_some_iff, Option.pure_def, Option.some.injEq] at h
  obtain ⟨c0, h0, r0, ⟨c1, h1, r1, ⟨c2, h2, r2, rfl, rfl⟩, rfl⟩, rfl⟩ := h
  exact ⟨c0, c1, c2, rfl, h0, h1, h2⟩
theorem add_at {b off k : Nat} : (⟨b, off, none⟩ : Addr).add k = ⟨b, off + k, none⟩ := by unfold Addr.add; split <;> simp_all
set_option maxRecDepth 100000 in
theorem open_splices {r : Reach} {b0 : Nat} {v : Value} {d : DataW H} {p : List MemPlace} (hv : Value.okWide Tryz.prog w r b0 26 v) (h : DataW.Trod enc Tryz.prog w 0 (fun _ => true) held 26 v d p) :
    ∃ (l : List Spl) (ao : Option Addr) (cap : Nat), v = .slice ao l.length cap ∧ SplOf w ao cap l ∧ ∀ s ∈ l, s.inRange := by
  obtain ⟨a0, len, cap, rfl⟩ := okWide_slice Tryz.underlying26 hv
  obtain ⟨fuel, hf⟩ := h
  rcases DataW.trod_slice Tryz.underlying26 hf with ⟨hcs, _⟩ | ⟨a, len', cap', elems, rest, n, _, hcs, _, _, hl, hm, hlen, hel, _, _⟩
  · simp [Value.cells] at hcs
    obtain ⟨rfl, rfl, rfl⟩ := hcs
    exact ⟨[], none, 0, rfl, ⟨by simp, by simp [maxLen], fun _ => rfl, fun k x h => by simp at h⟩, fun s hs => by simp at hs⟩
  · simp [Value.cells] at hcs
    obtain ⟨rfl, rfl, rfl⟩ := hcs
    have each : ∀ k, k < len → ∃ (s : Spl) (ai : Option Addr) (ci : Nat), w.cell? (a.add (k * 3)) = some (.int .i64 s.pos) ∧ w.cell? ((a.add (k * 3)).add 1) = some (.int .i64 s.del) ∧ w.cell? ((a.add (k * 3)).add 2) = some (.slice ai s.ins.length ci) ∧ SlOf IsStr w ai ci s.ins ∧ s.inRange := by
      intro k hk
      have he := hel k hk
      rw [splCells, List.getElem?_eq_getElem (by omega), Option.bind_eq_some_iff] at he
      obtain ⟨cs, hcs, ht⟩ := he
      obtain ⟨c0, c1, c2, rfl, h0, h1, h2⟩ := cells3 hcs
      obtain ⟨s, ai, ci, rfl, rfl, rfl, hs, hr⟩ := open_spl_cells ht
      exact ⟨s, ai, ci, by simpa [Addr.add] using h0, h1, h2, hs, hr⟩
    obtain ⟨f, hf'⟩ : ∃ f : Nat → Spl, ∀ k, k < len → ∃ (ai : Option Addr) (ci : Nat), w.cell? (a.add (k * 3)) = some (.int .i64 (f k).pos) ∧ w.cell? ((a.add (k * 3)).add 1) = some (.int .i64 (f k).del) ∧ w.cell? ((a.add (k * 3)).add 2) = some (.slice ai (f k).ins.length ci) ∧ SlOf IsStr w ai ci (f k).ins ∧ (f k).inRange :=
      ⟨fun k => if h : k < len then (each k h).choose else noSpl, fun k hk => by simp only [dif_pos hk]; exact (each k hk).choose_spec⟩
    refine ⟨(List.range len).map f, some a, cap, by simp, ⟨by simpa using hl, hm, by simp, fun k x hk => ?_⟩, fun s hs => ?_⟩
    · have hkl : k < len := by have := (List.getElem?_eq_some_iff.1 hk).1; simpa using this
      have hx : f k = x := by simpa [List.getElem?_map, List.getElem?_range hkl] using hk
      obtain ⟨ai, ci, c0, c1, c2, hs, _⟩ := hf' k hkl
      rw [hx] at c0 c1 c2 hs
      obtain ⟨b, off, spot⟩ := a
      have hspot : spot = none := by
        obtain ⟨_, _, e0, _⟩ := hf' 0 (by omega)
        simpa [Addr.add] using World.cell?_spot e0
      subst hspot
      simp only [add_at] at c0 c1 c2
      refine ⟨b, off, ai, ci, rfl, ?_, ?_, ?_, hs⟩
      · exact c0
      · exact c1
      · exact c2
    · simp only [List.mem_map, List.mem_range] at hs
      obtain ⟨k, hk, rfl⟩ := hs
      obtain ⟨_, _, _, _, _, _, hr⟩ := hf' k hk
      exact hr
end
end Go.Proofs.YtgcncmhaihgldaaGreatDoor
