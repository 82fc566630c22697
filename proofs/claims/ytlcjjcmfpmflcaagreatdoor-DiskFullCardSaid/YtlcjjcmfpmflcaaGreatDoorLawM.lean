/- Texts of the call's own. -/
import Derived.Test.YtlcjjcmfpmflcaaGreatDoorGreat
import Derived.Test.YtlcjjcmfpmflcaaGreatDoorBase
import Derived.Test.YtlcjjcmfpmflcaaGreatDoorShelf
import Derived.Deep.QuietTactic
import Derived.BigQuiet
import Derived.WalkSmall
set_option linter.unusedVariables false
set_option linter.unusedSimpArgs false
namespace Go.Proofs.YtlcjjcmfpmflcaaGreatDoor
open Go Go.Proofs Go.RowKit Go.Ink

theorem str_info : (Tryz.prog.info? 9).map (fun i => (i.zero, i.size, i.bytes)) = some (some (.string ⟨#[]⟩), 1, 16) := by kernel_rfl
/-- A list of texts, as cells. -/
def strVs (l : List (List UInt8)) : List Value := l.map fun t => .string ⟨t.toArray⟩
/-- A slice of the call's own, from block B on, that holds these texts. -/
def OwnStrs (w : World) (B : Nat) (v : Value) (l : List (List UInt8)) : Prop := w.ownsRow B 9 1 v l.length (strVs l)
theorem OwnStrs.slOf {w : World} {B : Nat} {v : Value} {l : List (List UInt8)} (h : OwnStrs w B v l) : ∃ ao cap, v = .slice ao l.length cap ∧ SlOf IsStr w ao cap l := by
  obtain ⟨h1, h2⟩ := h
  rcases h2 with ⟨rfl, h0⟩ | ⟨g, cap, cur, rfl, hg, hh, hc, hm, hs, ht⟩
  · refine ⟨none, 0, by rw [h0], by omega, by simp [maxLen], fun _ => rfl, fun k x hk => ?_⟩
    have := (List.getElem?_eq_some_iff.1 hk).1
    omega
  · refine ⟨_, cap, rfl, hc, hm, by simp, fun k x hk => ⟨g, 0, .string ⟨x.toArray⟩, rfl, ?_, rfl⟩⟩
    have hkl : k < l.length := (List.getElem?_eq_some_iff.1 hk).1
    rw [Lib.cell_of_heap hh, Nat.zero_add]
    have h5 : (cur.toList.take (l.length * 1))[k]? = (strVs l)[k]? := by rw [ht]
    rw [List.getElem?_take, if_pos (by omega)] at h5
    simpa [strVs, hk] using h5
theorem OwnStrs.nil (w : World) (B : Nat) : OwnStrs w B (.slice none 0 0) [] := World.ownsRow_nil _ _ _ _
theorem OwnStrs.later {w w' : World} {B : Nat} {v : Value} {l : List (List UInt8)} (h : OwnStrs w B v l) (hb : Below w.heap.size w w') : OwnStrs w' B v l := ownsRow_below h hb
theorem strVs_one (l : List (List UInt8)) : ∀ u ∈ strVs l, u.oneCell' = true := by
  intro u hu
  simp only [strVs, List.mem_map] at hu
  obtain ⟨t, _, rfl⟩ := hu
  rfl
theorem SlOf.strVs {w : World} {ad : Addr} {cap : Nat} {l : List (List UInt8)} (h : SlOf IsStr w (some ad) cap l) : ∀ j u, (strVs l)[j]? = some u → w.cell? (ad.add j) = some u := by
  intro j u hu
  simp only [Go.Proofs.YtlcjjcmfpmflcaaGreatDoor.strVs, List.getElem?_map, Option.map_eq_some_iff] at hu
  obtain ⟨t, ht, rfl⟩ := hu
  obtain ⟨b', o', u', ha, hcell, hr⟩ := h.2.2.2 j t ht
  simp only [Option.some.injEq] at ha
  subst ha
  have hr' : u' = .string ⟨t.toArray⟩ := hr
  subst hr'
  have e : (⟨b', o', none⟩ : Addr).add j = ⟨b', o' + j, none⟩ := by unfold Addr.add; split <;> simp_all
  rw [e]; exact hcell
end Go.Proofs.YtlcjjcmfpmflcaaGreatDoor
