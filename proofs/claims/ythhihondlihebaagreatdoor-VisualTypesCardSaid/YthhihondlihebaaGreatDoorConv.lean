/- A slice of bytes turned to a string. -/
import Derived.Test.YthhihondlihebaaGreatDoorBase
import Derived.Laws.BytesArg
namespace Go.Ink
open Go Go.RowKit
theorem strOfNums_bytes (l : List UInt8) : strOfNums (l.map fun c => (c.toNat : Int)) = ⟨l.toArray⟩ := by
  simp [strOfNums, Function.comp_def]
theorem SlOf.convert {P : Program} {w : World} {ao : Option Addr} {cap : Nat} {l : List UInt8} (h : SlOf IsByte w ao cap l) {src dst e : TypeId}
    (hs : P.underlying src = some (.slice e)) (he : P.underlying e = some (.int .u8)) (hd : P.underlying dst = some .string) {W : World} (hW : Below w.heap.size w W) :
    (Go.convert src dst (.slice ao l.length cap)).run P W = .ok (.string ⟨l.toArray⟩) W := by
  have h' := (h.later lasts_byte hW).2.2.2
  cases l with
  | nil =>
    rw [run_convert_bytes_string W src dst e _ _ cap hs he hd]
    cases ao <;> simp [Conv.bytesToString, loadCells]
    all_goals rfl
  | cons c l =>
    obtain ⟨b, off, u, rfl, hc, _⟩ := h' 0 c rfl
    rw [← strOfNums_bytes]
    refine run_convert_bytes_arg W src e hs he b off _ cap _ (by simp) (fun i hi => ?_) dst hd
    obtain ⟨x, hx⟩ : ∃ x, (c :: l)[i]? = some x := ⟨_, List.getElem?_eq_getElem hi⟩
    obtain ⟨b', off', u', ha, hc', rfl⟩ := h' i x hx
    simp only [Option.some.injEq, Addr.mk.injEq, and_true] at ha
    obtain ⟨rfl, rfl⟩ := ha
    rw [hc', List.getD_eq_getElem?_getD, List.getElem?_map, hx]
    rfl
theorem mk_append (a b : List UInt8) : (⟨a.toArray⟩ : ByteArray) ++ ⟨b.toArray⟩ = ⟨(a ++ b).toArray⟩ := by
  apply ByteArray.ext
  simp
end Go.Ink
