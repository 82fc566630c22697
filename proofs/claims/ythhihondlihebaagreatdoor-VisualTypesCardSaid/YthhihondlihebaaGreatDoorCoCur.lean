/- core: the current line. -/
import Derived.Test.YthhihondlihebaaGreatDoorCo1
import Derived.Test.YthhihondlihebaaGreatDoorCoC
import Derived.Test.YthhihondlihebaaGreatDoorCoA
import Derived.Deep.Cut
namespace Go.Proofs.YthhihondlihebaaGreatDoor
open Go Go.Proofs Go.RowKit Go.Ink Go.Sort

theorem coreCur_of {S : Nat → Prop} {w : World} {c t : Nat} {cur : Int} {ps : List (List Line)} (h : CoreOf S w c t cur ps) : Calls Tryz.prog 64 #[.pointer (some ⟨c, 0, none⟩)] w fun e w' => e = .returned (.int .i64 cur) ∧ w' = w := by
  have HN := Lib.hid (coreNone_of h)
  have h0 := h.now
  clear h
  go_enter Tryz.func64, Tryz.ntmps64
  go_wp2_with fail
  refine HN.out.mono ?_
  rintro e w1 ⟨rfl, rfl⟩
  go_wp2_with fail
  go_returns
  exact ⟨rfl, rfl⟩
end Go.Proofs.YthhihondlihebaaGreatDoor
/- core: made anew, apart from what was there; a change that was made ends; registers. -/
namespace Go.Proofs.YthhihondlihebaaGreatDoor
open Go Go.Proofs Go.Ev Go.RowKit Go.Ink Go.Sort

/-- Registers that are new, which lie behind a place. -/
def NewRegsB (B : Nat) (w : World) (r : Nat) : Prop := ∃ m clk, w.heap[r]? = some (.cells #[.map (some m)] 98 (0, 0)) ∧ w.heap[m]? = some (.map #[] clk) ∧ B ≤ r ∧ B ≤ m
theorem NewRegsB.later {B : Nat} {w w' : World} {r : Nat} (h : NewRegsB B w r) (hb : Below w.heap.size w w') : NewRegsB B w' r := by
  obtain ⟨m, clk, h1, h2, h3⟩ := h
  exact ⟨m, clk, (hb.block _ (lt_of_heap h1)).trans h1, (hb.block _ (lt_of_heap' h2)).trans h2, h3⟩
theorem NewRegsB.mono {B B' : Nat} {w : World} {r : Nat} (h : NewRegsB B w r) (hb : B' ≤ B) : NewRegsB B' w r := by
  obtain ⟨m, clk, h1, h2, h3, h4⟩ := h
  exact ⟨m, clk, h1, h2, Nat.le_trans hb h3, Nat.le_trans hb h4⟩
theorem NewRegsB.kept {B : Nat} {S : Nat → Prop} {w w' : World} {r : Nat} (h : NewRegsB B w r) (hk : KeepT S w w') (hS : ∀ x, S x → x < B) : NewRegs w' r := by
  obtain ⟨m, clk, h1, h2, h3, h4⟩ := h
  exact ⟨m, clk, (hk.block _ (lt_of_heap h1) (fun h => by have := hS _ h; omega)).trans h1, (hk.block _ (lt_of_heap' h2) (fun h => by have := hS _ h; omega)).trans h2⟩
theorem regsNewB_any (w : World) : Calls Tryz.prog 27 #[] w fun e w' => ∃ r, e = .returned (.pointer (some ⟨r, 0, none⟩)) ∧ NewRegsB w.heap.size w' r ∧ Below w.heap.size w w' := by
  have hmm : ∀ (t : TypeId) (w : World), (Instr.makeMap t none).run Tryz.prog w = .ok (.map (some w.heap.size)) (w.alloc (.map #[] 0)) := fun _ _ => rfl
  go_enter Tryz.func27, Tryz.ntmps27
  go_wp2_with fail
  go_returns
  refine ⟨w.heap.size + 1, rfl, ⟨w.heap.size, 0, ?_, ?_, Nat.le_succ _, Nat.le_refl _⟩, ((Below.refl _ _).alloc (Nat.le_refl _) _).alloc (by simp) _⟩
  · show ((w.heap.push _).push _)[w.heap.size + 1]? = _
    rw [Array.getElem?_push, if_pos (by simp)]
  · show ((w.heap.push _).push _)[w.heap.size]? = _
    rw [Array.getElem?_push, if_neg (by simp), Array.getElem?_push, if_pos rfl]
set_option maxRecDepth 100000 in
set_option maxHeartbeats 2000000 in
theorem coreNew_apartB (l : List Line) (ao : Option Addr) (cap : Nat) (w : World) (hl : SlOf IsStr w ao cap l) (hlen : l.length ≤ 100000) (h0 : checkL l = 0) :
    Calls Tryz.prog 9 #[.slice ao l.length cap] w fun e w' => ∃ c t r, e = .returned (.tuple #[.pointer (some ⟨c, 0, none⟩), .int .i64 0]) ∧ TabOf (fun x => x < w.heap.size ∨ x = c) w' t (ofS [l]) ∧ CoreB w' c t (l.length : Int) [] r false none none none (.slice none 0 0) ∧ NewRegsB w.heap.size w' r ∧ w.heap.size ≤ c ∧ Below w.heap.size w w' := by
  have HT := Lib.hid ((tabNew_any (S := fun x => x < w.heap.size) l ao cap w hl hlen (fun _ h => h)).mono (R' := fun e w' => ∃ b, e = .returned (.pointer (some ⟨b, 0, none⟩)) ∧ TabOf (fun x => x < w.heap.size) w' b (ofS [l]) ∧ Below w.heap.size w w') fun e w' h => by
    unfold NewTab at h
    rw [if_pos h0] at h
    exact h)
  clear hl h0
  go_enter Tryz.func9, Tryz.ntmps9
  go_wp2_with fail
  refine HT.out.mono ?_
  rintro e w1 ⟨t, rfl, ht, hb1⟩
  have HTB := Lib.hid ht
  have HB1 := Lib.hid hb1
  clear ht hb1
  go_wp2_with fail
  refine (regsNewB_any _).mono ?_
  rintro e w2 ⟨r, rfl, hr, hb2⟩
  have HB2 := Lib.hid (HB1.out.trans (hb2.mono HB1.out.size))
  have HT2 := Lib.hid (HTB.out.later hb2)
  have HR := Lib.hid (hr.mono HB1.out.size)
  clear hr hb2
  go_wp2_with fail
  go_returns
  refine ⟨w2.heap.size, t, r, rfl, ?_, (heap_alloc_at _ _).trans rfl, HR.out.later ((Below.refl _ _).alloc (Nat.le_refl _) _), HB2.out.size, HB2.out.alloc HB2.out.size _⟩
  exact (HT2.out.apart (fun k hk => by
    rcases hk with hk | hk
    · exact .inl hk
    · exact .inr (Nat.le_of_eq hk.symm))).later ((Below.refl _ _).alloc (Nat.le_refl _) _)
section
variable {w w' : World} {c t : Nat} {cur : Int} {last : List UInt8} {r : Nat} {dirty : Bool} {undo was held : Option Addr} {dn : Value}
set_option maxRecDepth 100000 in
theorem coreEndT_of {s : Nat} {a : Option Addr} {n cp : Nat} (hn : 0 < n) (h : CoreB w c t cur last r dirty undo (some ⟨s, 0, none⟩) held (.slice a n cp)) :
    Calls Tryz.prog 47 #[.pointer (some ⟨c, 0, none⟩)] w fun e w' => e = .returned (.slice a n cp) ∧ CoreB w' c t cur last r true (some ⟨s, 0, none⟩) none none (.slice none 0 0) ∧ KeepT (Only c) w w' := by
  have HB := Lib.hid h
  have HN := Lib.hid (coreNone_b h.c0)
  have e32 := h.c32
  have e34 := h.c34
  have f30 := h.fz 30
  have f31 := h.fz 31
  have f32 := h.fz 32
  have f33 := h.fz 33
  have f34 := h.fz 34
  have e33 := h.c33
  have e31 := h.c31
  have e30 := h.c30
  clear h
  have hni : (0 : Int) < (n : Int) := by omega
  have s31 := HB.out.set31 (some ⟨s, 0, none⟩)
  have s30 := s31.set30 true
  have s32 := s30.set32 none
  have s33 := s32.set33 none
  have s34 := s33.set34 (.slice none 0 0)
  have g30 := s31.c30
  have g32 := s30.c32
  have g33 := s32.c33
  have g34 := s33.c34
  have k30 := s31.fz 30
  have k32 := s30.fz 32
  have k33 := s32.fz 33
  have k34 := s33.fz 34
  have HS := Lib.hid s34
  clear s30 s31 s32 s33 s34
  go_enter Tryz.func47, Tryz.ntmps47
  go_wp2_with fail
  refine HN.out.mono ?_
  rintro e w1 ⟨rfl, rfl⟩
  go_wp2_with fail
  go_returns
  exact ⟨rfl, HS.out, keepIn (eqIn c) (keepIn (eqIn c) (keepIn (eqIn c) (keepIn (eqIn c) (keepIn (eqIn c) (KeepT.refl _ _) 31 _) 30 _) 32 _) 33 _) 34 _⟩
end
theorem slOf_one {w : World} {b : Nat} {x : List UInt8} {T : TypeId} {fr : Nat × Nat} (h : w.heap[b]? = some (.cells #[.string ⟨x.toArray⟩] T fr)) : SlOf IsStr w (some ⟨b, 0, none⟩) 1 [x] :=
  ⟨by simp, by unfold maxLen; omega, by simp, fun k y hk => by
    match k, hk with
    | 0, hk =>
      simp only [List.getElem?_cons_zero, Option.some.injEq] at hk
      subst hk
      exact ⟨b, 0, _, rfl, by rw [Lib.cell_of_heap h]; rfl, rfl⟩⟩
theorem coreRegs_of {w : World} {c t : Nat} {cur : Int} {last : List UInt8} {r : Nat} {dirty : Bool} {undo was held : Option Addr} {dn : Value} (h : CoreB w c t cur last r dirty undo was held dn) :
    Calls Tryz.prog 73 #[.pointer (some ⟨c, 0, none⟩)] w fun e w' => e = .returned (.pointer (some ⟨r, 0, none⟩)) ∧ w' = w := by
  have HN := Lib.hid (coreNone_b h.c0)
  have e29 := h.c29
  clear h
  go_enter Tryz.func73, Tryz.ntmps73
  go_wp2_with fail
  refine HN.out.mono ?_
  rintro e w1 ⟨rfl, rfl⟩
  go_wp2_with fail
  go_returns
  exact ⟨rfl, rfl⟩
end Go.Proofs.YthhihondlihebaaGreatDoor
