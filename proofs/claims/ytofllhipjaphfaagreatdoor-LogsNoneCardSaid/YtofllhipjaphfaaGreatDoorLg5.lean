/- lives of chapter 18, run by the kernel; the walk of LogsNone. -/
import Derived.Test.YtofllhipjaphfaaGreatDoorLg3
import Derived.Test.YtofllhipjaphfaaGreatDoorLg4
import Derived.Test.YtofllhipjaphfaaGreatDoorHk4
import Derived.Test.YtofllhipjaphfaaGreatDoorHk2
namespace Go.Proofs.YtofllhipjaphfaaGreatDoor
open Go Go.Proofs Go.Ev Go.RowKit Go.Ink

theorem no_count : NoCount Tryz.prog := noCount_ok (by kernel_rfl)
theorem mixed : Tryz.prog.follows .mixedOrders = true := by kernel_rfl
theorem ext_index : Ext Tryz.prog 144 Extern.BytealgIndexByte.indexByte := ⟨Tryz.f144, by kernel_rfl, by kernel_rfl, by kernel_rfl, by kernel_rfl, by kernel_rfl⟩
theorem ext_cmp : Ext Tryz.prog 113 Extern.BytealgCompare.compare := ⟨Tryz.f113, by kernel_rfl, by kernel_rfl, by kernel_rfl, by kernel_rfl, by kernel_rfl⟩
theorem ext_same : Ext Tryz.prog 95 Extern.AbiNoEscape.same := ⟨Tryz.f95, by kernel_rfl, by kernel_rfl, by kernel_rfl, by kernel_rfl, by kernel_rfl⟩
theorem more_hook : CallOk1 Tryz.prog 62 hMore :=
  more_ok no_count (c := (Tryz.f62.body).getD .skip) Tryz.func62 (by kernel_rfl) fun l w hl => more_any l w hl
theorem errno_hook : CallOk1 Tryz.prog 24 (hNil (.int .i64 0)) :=
  nil_ok no_count (c := (Tryz.f24.body).getD .skip) Tryz.func24 (by kernel_rfl) (fun ξ G => by simp only [Den]) fun w => errno_nil w
theorem none_hook : CallOk1 Tryz.prog 81 (hNone 178 0 160 7 57) :=
  none_ok no_count (c := (Tryz.f81.body).getD .skip) Tryz.func81 (by kernel_rfl) (by decide +kernel) (fun w => none_nil w) fun a w h => none_err _ w h (.inl ⟨a, rfl⟩)
theorem is_hook : CallOk1 Tryz.prog 52 (hIs 226 205 131 29) :=
  is_ok no_count (c := (Tryz.f52.body).getD .skip) Tryz.func52 (by kernel_rfl) (fun a w => is_nil a w) (fun pb po a w h => is_wrap_same pb po a w h) fun s a b w => isActed_any s a b w
noncomputable def hooks18 : List (Nat × Hook) := [(144, hIdx), (62, hMore), (24, hNil (.int .i64 0)), (113, hCmpS), (95, hSame), (52, hIs 226 205 131 29), (81, hNone 178 0 160 7 57)]
theorem hooks18_ok : ∀ p ∈ hooks18, CallOk1 Tryz.prog p.1 p.2 := by
  intro p hp
  simp only [hooks18, List.mem_cons, List.not_mem_nil, or_false] at hp
  rcases hp with rfl | rfl | rfl | rfl | rfl | rfl | rfl
  · exact idx_ok ext_index
  · exact more_hook
  · exact errno_hook
  · exact cmpS_ok ext_cmp
  · exact same_ok ext_same
  · exact is_hook
  · exact none_hook
/-! the variables of errors and strconv -/
def etV : Value := .iface 160 (.agg #[.pointer (some ⟨7, 57, none⟩)])
def etO : Obj := .cells #[etV] 124 (0, 0)
def errB (b : Nat) : Blk := tabBlk 57 [.iface 226 (.ptr b 0)]
noncomputable def heap18 : H := ⟨7 + 2, [[[some (.known (.cells #[.iface 160 (.agg #[.pointer (some ⟨7, 57, none⟩)])] 124 (0, 0))), some (errB 7), some (errB (7 + 1)), none, none, none, none, none], [none]]], []⟩
/-- What the variables hold. -/
structure Env18 (w : World) : Prop where
  f : EnvF w
  s : 7 ≤ w.heap.size
  t : w.heap[0]? = some etO
  e : ∃ a oa b ob : Nat, a < w.heap.size ∧ b < w.heap.size ∧ w.heap[1]? = some (.cells #[.iface 226 (.pointer (some ⟨a, oa, none⟩))] 57 (0, 0)) ∧ w.heap[2]? = some (.cells #[.iface 226 (.pointer (some ⟨b, ob, none⟩))] 57 (0, 0))
theorem Env18.later {w w' : World} (h : Env18 w) (hb : Below w.heap.size w w') : Env18 w' := by
  obtain ⟨h1, h2, h3, a, oa, b, ob, h4, h5, h6, h7⟩ := h
  exact ⟨h1.later hb, Nat.le_trans h2 hb.size, (hb.block _ (lt_of_heap h3)).trans h3, a, oa, b, ob, Nat.lt_of_lt_of_le h4 hb.size, Nat.lt_of_lt_of_le h5 hb.size, (hb.block _ (lt_of_heap h6)).trans h6, (hb.block _ (lt_of_heap h7)).trans h7⟩
theorem heap18_get {b : Nat} {x : Blk} (h : heap18.get b = some x) : (b = 0 ∧ x = .known etO) ∨ (b = 1 ∧ x = errB 7) ∨ (b = 2 ∧ x = errB (7 + 1)) := by
  by_cases hb : b < 9
  · match b, hb with
    | 0, _ => exact .inl ⟨rfl, (Option.some.inj h).symm⟩
    | 1, _ => exact .inr (.inl ⟨rfl, (Option.some.inj h).symm⟩)
    | 2, _ => exact .inr (.inr ⟨rfl, (Option.some.inj h).symm⟩)
    | 3, _ | 4, _ | 5, _ | 6, _ | 7, _ | 8, _ => cases h
  · have h1 : ((((([[[some (.known (.cells #[.iface 160 (.agg #[.pointer (some ⟨7, 57, none⟩)])] 124 (0, 0))), some (errB 7), some (errB (7 + 1)), none, none, none, none, none], [none]]] : List (List (List (Option Blk))))[b / 64]?).bind (·[b % 64 / 8]?)).bind (·[b % 8]?)).bind id) = some x := h
    cases h64 : b / 64 with
    | succ k => rw [h64] at h1; simp at h1
    | zero =>
      rw [h64] at h1
      cases h8 : b % 64 / 8 with
      | zero => omega
      | succ k =>
        rw [h8] at h1
        cases k with
        | succ k => simp at h1
        | zero =>
          cases hb8 : b % 8 with
          | zero => omega
          | succ k => rw [hb8] at h1; simp at h1
theorem heap18_ro : RoH heap18 := fun b x hb hw => by
  rcases heap18_get hb with ⟨_, rfl⟩ | ⟨_, rfl⟩ | ⟨_, rfl⟩ <;> exact hw
def G18 (a oa b ob : Nat) : Gh := vars 7 ++ [some ⟨a, oa, 0⟩, some ⟨b, ob, 0⟩]
theorem G18_var {a oa b ob g : Nat} (hg : g < 7) : (G18 a oa b ob)[g]? = some (some ⟨g, 0, 0⟩) := by
  unfold G18
  rw [List.getElem?_append_left (by simp [vars]; exact hg)]
  simp [vars, hg]
theorem heap18_rep {w : World} (h : Env18 w) : ∃ G, Rep Tryz.prog (fun _ => undef) G heap18 w ∧ GlobOk Tryz.prog G := by
  obtain ⟨_, hs, ht, a, oa, b, ob, ha, hb, h1, h2⟩ := h
  have e1 : (G18 a oa b ob)[7]? = some (some ⟨a, oa, 0⟩) := rfl
  have e2 : (G18 a oa b ob)[7 + 1]? = some (some ⟨b, ob, 0⟩) := rfl
  refine ⟨G18 a oa b ob, ⟨rfl, fun i g hi => ?_, fun i x hi => ?_, fun i j x y g g' hi hj h3 h4 h5 => ?_⟩, fun g hg => ⟨0, G18_var (by rw [show Tryz.prog.globals.size = 7 from by kernel_rfl] at hg; exact hg)⟩⟩
  · rcases Nat.lt_or_ge i 7 with hl | hl
    · rw [G18_var hl] at hi
      cases hi
      exact Nat.lt_of_lt_of_le hl hs
    · rcases Nat.eq_or_lt_of_le hl with rfl | hl
      · rw [e1] at hi; cases hi; exact ha
      · rcases Nat.eq_or_lt_of_le hl with rfl | hl
        · have hi2 := hi.symm.trans e2; cases hi2; exact hb
        · rw [List.getElem?_eq_none (by show 7 + 2 ≤ i; omega)] at hi; cases hi
  · rcases heap18_get hi with ⟨rfl, rfl⟩ | ⟨rfl, rfl⟩ | ⟨rfl, rfl⟩
    · exact ⟨_, _, G18_var (by decide), ht, rfl, rfl⟩
    · refine ⟨_, _, G18_var (by decide), h1, _, 0, 0, rfl, fun i v hv => ?_, (by show 0 + 1 ≤ 1; omega), rfl⟩
      cases i with
      | succ i => cases hv
      | zero =>
        cases hv
        exact ⟨_, rfl, by simp only [Den]; exact ⟨_, rfl, _, e1, rfl⟩⟩
    · refine ⟨_, _, G18_var (by decide), h2, _, 0, 0, rfl, fun i v hv => ?_, (by show 0 + 1 ≤ 1; omega), rfl⟩
      cases i with
      | succ i => cases hv
      | zero =>
        cases hv
        exact ⟨_, rfl, by simp only [Den]; exact ⟨_, rfl, _, e2, rfl⟩⟩
  · have hlt : ∀ {k : Nat} {z : Blk}, heap18.get k = some z → k < 7 := fun hk => by
      rcases heap18_get hk with ⟨rfl, _⟩ | ⟨rfl, _⟩ | ⟨rfl, _⟩ <;> decide
    rw [G18_var (hlt hi)] at h3
    rw [G18_var (hlt hj)] at h4
    cases h3
    cases h4
    exact h5
set_option maxRecDepth 100000 in
theorem lives_run : isTrue (runTop Tryz.prog hooks18 [] 3000 60 6 [] heap18) = true := by decide +kernel
theorem lives_any {w : World} (hw : Env18 w) : Calls Tryz.prog 6 #[] w fun e w' => e = .returned (.bool true) ∧ Below w.heap.size w w' := by
  obtain ⟨G, hR, hG⟩ := heap18_rep hw
  exact true_args no_count mixed hooks18_ok (fun p hp => by cases hp) lives_run heap18_ro hR hG DenL.nil
end Go.Proofs.YtofllhipjaphfaaGreatDoor
