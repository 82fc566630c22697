/- The walk of DiskFull (chapter 24). -/
import Derived.Test.YtlcjjcmfpmflcaaGreatDoorDfB
import Derived.Test.YtlcjjcmfpmflcaaGreatDoorSm17
import Derived.Deep.Cut
set_option linter.unusedVariables false
set_option linter.unusedSimpArgs false
namespace Go.Proofs.YtlcjjcmfpmflcaaGreatDoor
open Go Go.Proofs Go.Ev Go.RowKit Go.Ink Go.Sort

set_option maxRecDepth 100000 in
theorem oneF_any (k : Int) (n2 : List UInt8) (w : World) : Calls Tryz.prog 15 #[.int .u8 k, .string ⟨n2.toArray⟩] w fun e w' => e = .returned (.agg (cmdD k n2).toArray) ∧ Below w.heap.size w w' := by
  go_enter Tryz.func15, Tryz.ntmps15
  go_wp2_with fail
  go_returns
  exact ⟨rfl, below_alloc _ _⟩
/-- Registers that are new, which lie behind a place. -/
def NewRegsB (B : Nat) (w : World) (r : Nat) : Prop := ∃ m clk, w.heap[r]? = some (.cells #[.map (some m)] 136 (0, 0)) ∧ w.heap[m]? = some (.map #[] clk) ∧ B ≤ r ∧ B ≤ m
theorem NewRegsB.later {B : Nat} {w w' : World} {r : Nat} (h : NewRegsB B w r) (hb : Below w.heap.size w w') : NewRegsB B w' r := by
  obtain ⟨m, clk, h1, h2, h3⟩ := h
  exact ⟨m, clk, (hb.block _ (lt_of_heap h1)).trans h1, (hb.block _ (lt_of_heap' h2)).trans h2, h3⟩
theorem NewRegsB.mono {B B' : Nat} {w : World} {r : Nat} (h : NewRegsB B w r) (hb : B' ≤ B) : NewRegsB B' w r := by
  obtain ⟨m, clk, h1, h2, h3, h4⟩ := h
  exact ⟨m, clk, h1, h2, Nat.le_trans hb h3, Nat.le_trans hb h4⟩
theorem NewRegsB.kept {B : Nat} {S : Nat → Prop} {w w' : World} {r : Nat} (h : NewRegsB B w r) (hk : KeepT S w w') (hS : ∀ x, S x → x < B) : NewRegs w' r := by
  obtain ⟨m, clk, h1, h2, h3, h4⟩ := h
  exact ⟨m, clk, (hk.block _ (lt_of_heap h1) (fun h => by have := hS _ h; omega)).trans h1, (hk.block _ (lt_of_heap' h2) (fun h => by have := hS _ h; omega)).trans h2⟩
theorem regsNewB_any (w : World) : Calls Tryz.prog 34 #[] w fun e w' => ∃ r, e = .returned (.pointer (some ⟨r, 0, none⟩)) ∧ NewRegsB w.heap.size w' r ∧ Below w.heap.size w w' := by
  have hmm : ∀ (t : TypeId) (w : World), (Instr.makeMap t none).run Tryz.prog w = .ok (.map (some w.heap.size)) (w.alloc (.map #[] 0)) := fun _ _ => rfl
  go_enter Tryz.func34, Tryz.ntmps34
  go_wp2_with fail
  go_returns
  refine ⟨w.heap.size + 1, rfl, ⟨w.heap.size, 0, ?_, ?_, Nat.le_succ _, Nat.le_refl _⟩, ((Below.refl _ _).alloc (Nat.le_refl _) _).alloc (by simp) _⟩
  · show ((w.heap.push _).push _)[w.heap.size + 1]? = _
    rw [Array.getElem?_push, if_pos (by simp)]
  · show ((w.heap.push _).push _)[w.heap.size]? = _
    rw [Array.getElem?_push, if_neg (by simp), Array.getElem?_push, if_pos rfl]
set_option maxRecDepth 100000 in
set_option maxHeartbeats 2000000 in
theorem coreNew_apartB (l : List Line) (ao : Option Addr) (cap : Nat) (w : World) (hl : SlOf IsStr w ao cap l) (hlen : l.length ≤ 100000) (h0 : checkL l = 0) :
    Calls Tryz.prog 9 #[.slice ao l.length cap] w fun e w' => ∃ c t r, e = .returned (.tuple #[.pointer (some ⟨c, 0, none⟩), .int .i64 0]) ∧ TabOf (fun x => x < w.heap.size ∨ x = c) w' t (ofS [l]) ∧ CoreB w' c t (l.length : Int) [] r false none none none (.slice none 0 0) ∧ NewRegsB w.heap.size w' r ∧ w.heap.size ≤ c ∧ Below w.heap.size w w' := by
  have HT := Lib.hid ((tabNew_any (S := fun x => x < w.heap.size) l ao cap w hl hlen (fun _ h => h)).mono (R' := fun e w' => ∃ b, e = .returned (.pointer (some ⟨b, 0, none⟩)) ∧ TabOf (fun x => x < w.heap.size) w' b (ofS [l]) ∧ Below w.heap.size w w') fun e w' h => by
    unfold NewTab at h
    rw [if_pos h0] at h
    exact h)
  clear hl h0
  go_enter Tryz.func9, Tryz.ntmps9
  go_wp2_with fail
  refine HT.out.mono ?_
  rintro e w1 ⟨t, rfl, ht, hb1⟩
  have HTB := Lib.hid ht
  have HB1 := Lib.hid hb1
  clear ht hb1
  go_wp2_with fail
  refine (regsNewB_any _).mono ?_
  rintro e w2 ⟨r, rfl, hr, hb2⟩
  have HB2 := Lib.hid (HB1.out.trans (hb2.mono HB1.out.size))
  have HT2 := Lib.hid (HTB.out.later hb2)
  have HR := Lib.hid (hr.mono HB1.out.size)
  clear hr hb2
  go_wp2_with fail
  go_returns
  refine ⟨w2.heap.size, t, r, rfl, ?_, (heap_alloc_at _ _).trans rfl, HR.out.later ((Below.refl _ _).alloc (Nat.le_refl _) _), HB2.out.size, HB2.out.alloc HB2.out.size _⟩
  exact (HT2.out.apart (fun k hk => by
    rcases hk with hk | hk
    · exact .inl hk
    · exact .inr (Nat.le_of_eq hk.symm))).later ((Below.refl _ _).alloc (Nat.le_refl _) _)
section
variable {w w' : World} {c t : Nat} {cur : Int} {last : List UInt8} {r : Nat} {dirty : Bool} {undo was held : Option Addr} {dn : Value}
set_option maxRecDepth 100000 in
theorem coreEndT_of {s : Nat} {a : Option Addr} {n cp : Nat} (hn : 0 < n) (h : CoreB w c t cur last r dirty undo (some ⟨s, 0, none⟩) held (.slice a n cp)) :
    Calls Tryz.prog 13 #[.pointer (some ⟨c, 0, none⟩)] w fun e w' => e = .returned (.slice a n cp) ∧ CoreB w' c t cur last r true (some ⟨s, 0, none⟩) none none (.slice none 0 0) ∧ KeepT (Only c) w w' := by
  have HB := Lib.hid h
  have HN := Lib.hid (coreNone_b h.c0)
  have e32 := h.c32
  have e34 := h.c34
  have f30 := h.fz 30
  have f31 := h.fz 31
  have f32 := h.fz 32
  have f33 := h.fz 33
  have f34 := h.fz 34
  have e33 := h.c33
  have e31 := h.c31
  have e30 := h.c30
  clear h
  have hni : (0 : Int) < (n : Int) := by omega
  have s31 := HB.out.set31 (some ⟨s, 0, none⟩)
  have s30 := s31.set30 true
  have s32 := s30.set32 none
  have s33 := s32.set33 none
  have s34 := s33.set34 (.slice none 0 0)
  have g30 := s31.c30
  have g32 := s30.c32
  have g33 := s32.c33
  have g34 := s33.c34
  have k30 := s31.fz 30
  have k32 := s30.fz 32
  have k33 := s32.fz 33
  have k34 := s33.fz 34
  have HS := Lib.hid s34
  clear s30 s31 s32 s33 s34
  go_enter Tryz.func13, Tryz.ntmps13
  go_wp2_with fail
  refine HN.out.mono ?_
  rintro e w1 ⟨rfl, rfl⟩
  go_wp2_with fail
  go_returns
  exact ⟨rfl, HS.out, keepIn (eqIn c) (keepIn (eqIn c) (keepIn (eqIn c) (keepIn (eqIn c) (keepIn (eqIn c) (KeepT.refl _ _) 31 _) 30 _) 32 _) 33 _) 34 _⟩
end
def newL : List UInt8 := [110, 101, 119]
theorem slOf_one {w : World} {b : Nat} {x : List UInt8} {T : TypeId} {fr : Nat × Nat} (h : w.heap[b]? = some (.cells #[.string ⟨x.toArray⟩] T fr)) : SlOf IsStr w (some ⟨b, 0, none⟩) 1 [x] :=
  ⟨by simp, by unfold maxLen; omega, by simp, fun k y hk => by
    match k, hk with
    | 0, hk =>
      simp only [List.getElem?_cons_zero, Option.some.injEq] at hk
      subst hk
      exact ⟨b, 0, _, rfl, by rw [Lib.cell_of_heap h]; rfl, rfl⟩⟩
theorem ahead_ok (base : List Line) (hl : base.length ≤ 6) (hck : checkL base = 0) : tabErr (manyS (ofS [base])) ⟨((0 : Nat) : Int), ((0 : Nat) : Int), [newL]⟩ = 0 ∧ (tabSpl (ofS [base]) ⟨((0 : Nat) : Int), ((0 : Nat) : Int), [newL]⟩).flatten = newL :: base := by
  have hm : manyS (ofS [base]) = base.length := by rw [manyS_ofS]; simp [manyS]
  have hf : (ofS [base]).flatten = base := by rw [ofS_flat]; simp
  have e : doneS base ⟨((0 : Nat) : Int), ((0 : Nat) : Int), [newL]⟩ = (newL :: base, 0) := by
    rw [doneS_of (by decide) (by simp) (by simp only [List.length_singleton]; show base.length - 0 + 1 ≤ 2000; omega)]
    rfl
  have h0 : (doneS (ofS [base]).flatten ⟨((0 : Nat) : Int), ((0 : Nat) : Int), [newL]⟩).2 = 0 := by rw [hf, e]
  refine ⟨?_, by rw [tabSpl_flat h0, hf, e]⟩
  have := (tabErr_iff (ofS [base]).flatten ⟨((0 : Nat) : Int), ((0 : Nat) : Int), [newL]⟩).2 h0
  rw [manyS_flat]
  exact this
set_option maxRecDepth 100000 in
set_option maxHeartbeats 4000000 in
theorem diskFull_law (old : List UInt8) (base : List Line) (C : Nat) (ao : Option Addr) (cap : Nat) (w : World) (h1 : SlOf IsStr w ao cap base) (hs : 6 ≤ w.heap.size) (ht : Tab10 w) (hC : C ≤ 65535) (ho : old.length ≤ 140737488355328) :
    Calls Tryz.prog 3 #[.string ⟨old.toArray⟩, .slice ao base.length cap, .int .u16 (C : Int)] w fun e w' => e = .returned (.bool true) ∧ Below w.heap.size w w' := by
  have hc1 : base.length ≤ 9223372036854775807 := Nat.le_trans h1.1 h1.2.1
  have H1 := Lib.hid h1
  have HS := Lib.hid hs
  have HT10 := Lib.hid (fun (X : World) (hb : Below w.heap.size w X) => ht.later hb)
  have HLV := Lib.hid (fun (X : World) (hb : Below w.heap.size w X) => lives_any (w := X) (Nat.le_trans hs hb.size))
  have HSO := size_mk old
  clear h1 hs ht
  by_cases h100 : 100 < old.length
  · have h100i : (100 : Int) < (old.length : Int) := by omega
    go_enter Tryz.func3, Tryz.ntmps3
    go_wp2_with fail
    refine (HLV.out _ (Below.refl _ _)).mono ?_
    rintro e w2 ⟨rfl, hb2⟩
    have HB2 := Lib.hid hb2
    clear hb2
    go_wp2_with fail
    go_returns
    exact ⟨rfl, HB2.out⟩
  have h100i : ¬ (100 : Int) < (old.length : Int) := by omega
  go_enter Tryz.func3, Tryz.ntmps3
  go_wp2_with fail
  refine (beyondText_any base ao cap 6 _ H1.out).mono ?_
  rintro e w1 ⟨⟨b, rfl, hb⟩, rfl⟩
  cases b
  case true =>
    clear hb
    go_wp2_with fail
    refine (HLV.out _ (Below.refl _ _)).mono ?_
    rintro e w2 ⟨rfl, hb2⟩
    have HB2 := Lib.hid hb2
    clear hb2
    go_wp2_with fail
    go_returns
    exact ⟨rfl, HB2.out⟩
  have h6 : base.length ≤ 6 := by have := (hb rfl).1; omega
  have H20 := Lib.hid (hb rfl).2
  clear hb
  by_cases hC0 : C = 0
  · subst hC0
    go_wp2_with fail
    refine (HLV.out _ (Below.refl _ _)).mono ?_
    rintro e w2 ⟨rfl, hb2⟩
    have HB2 := Lib.hid hb2
    clear hb2
    go_wp2_with fail
    go_returns
    exact ⟨rfl, HB2.out⟩
  have hC0i : ((C : Int) == 0) = false := by rw [beq_eq_false_iff_ne]; omega
  have hC0n : ¬ (C : Int) = 0 := by omega
  have hCw : IntKind.i64.wrap (C : Int) = (C : Int) := IntWalk.i64_in _ (by omega)
  have hCw2 : wrap64 (C : Int) = (C : Int) := by unfold wrap64; omega
  have HCC := Lib.hid (⟨by omega, hC⟩ : 1 ≤ C ∧ C ≤ 65535)
  clear hC0
  have hJl : (joinL (newL :: base)).length ≤ 200 := by
    have := joinL_le base H20.out
    simp only [joinL, List.length_append, List.length_cons]
    have : newL.length = 3 := rfl
    omega
  obtain ⟨J, hJ⟩ : ∃ J, joinL (newL :: base) = J := ⟨_, rfl⟩
  rw [hJ] at hJl
  have HJ := Lib.hid hJ
  clear hJ
  go_wp2_with fail
  refine (filesNew_fl old J C HCC.out.1 HCC.out.2 (w := w1) HS.out).mono ?_
  rintro e w2 ⟨p, rfl, hf2, hb2⟩
  have HF2 := Lib.hid hf2
  have HB2 := Lib.hid hb2
  clear hf2 hb2
  by_cases hck : checkL base = 0
  case neg =>
    have HN := Lib.hid (fun (X : World) (h : SlOf IsStr X ao cap base) => coreNew_no base ao cap X h (by omega) hck)
    clear hck
    go_wp2_with fail
    refine (HN.out _ (H1.out.later lasts_str HB2.out)).mono ?_
    rintro e w3 ⟨rfl, rfl⟩
    go_wp2_with fail
    refine (HLV.out _ HB2.out).mono ?_
    rintro e w4 ⟨rfl, hb4⟩
    have HB4 := Lib.hid (HB2.out.trans (hb4.mono HB2.out.size))
    clear hb4
    go_wp2_with fail
    go_returns
    exact ⟨rfl, HB4.out⟩
  have HAH := Lib.hid (ahead_ok base h6 hck)
  have HCK := Lib.hid hck
  clear hck
  go_wp2_with fail
  refine (coreNew_apartB base ao cap w2 (H1.out.later lasts_str HB2.out) (by omega) HCK.out).mono ?_
  rintro e w3 ⟨c, t, r, rfl, hT3, hC3, hR3, hcg, hb3⟩
  have HT3 := Lib.hid hT3
  have HC3 := Lib.hid hC3
  have HR3 := Lib.hid hR3
  have HG3 := Lib.hid hcg
  have HB3 := Lib.hid (HB2.out.trans (hb3.mono HB2.out.size))
  have HF3 := Lib.hid (FsAt.later HF2.out hb3)
  have HZ3 := Lib.hid hb3.size
  clear hT3 hC3 hR3 hcg hb3
  have hA := fitA old C
  obtain ⟨a, ha⟩ : ∃ a, fitA old C = a := ⟨_, rfl⟩
  obtain ⟨b, hb⟩ : ∃ b, fullB old J C = b := ⟨_, rfl⟩
  rw [ha, hb] at HF3
  clear ha hb hA HF2
  have hz2 := HB2.out.size
  have hz3 := HZ3.out
  have hcg := HG3.out
  have hcl := HC3.out.lt
  go_wp2_with fail
  refine (savesWrite1_fl HF3.out (by omega)).mono ?_
  rintro e w4 ⟨rfl, hf4, hk4⟩
  have HF4 := Lib.hid hf4
  have hz4 := hk4.size
  have hnc : ¬ (fun x => w1.heap.size ≤ x ∧ x < w2.heap.size) c := fun h => by have := h.2; omega
  have HC4 := Lib.hid (HC3.out.kept hk4 hnc)
  have HT4 := Lib.hid ((HT3.out.apart (S' := fun x => (x < w2.heap.size ∨ x = c) ∨ (w3.heap.size ≤ x ∧ x < w4.heap.size)) (fun x hx => by
    rcases hx with hx | hx
    · exact .inl hx
    · exact .inr hx.1)).kept (hk4.mono (fun x _ hx => .inl (.inl hx.2))))
  have HR4 := Lib.hid (HR3.out.kept hk4 (fun x hx => hx.2))
  have HB4 := Lib.hid (HB3.out.trans (hk4.below (B := w1.heap.size) (by omega) (fun x hx => hx.1)))
  clear hf4 hk4 hnc
  go_wp2_with fail
  refine (coreBegin_of HC4.out HR4.out).mono ?_
  rintro e w5 ⟨rfl, s, hh, hC5, hst, hreg, hsg, hhg, hk5⟩
  have hz5 := hk5.size
  have HC5 := Lib.hid hC5
  have HF5 := Lib.hid (FsAt.kept HF4.out hk5 (fun x _ hx => by
    unfold Only at hx; subst hx
    rintro (h | h)
    · have := h.2; omega
    · omega))
  have HT5 := Lib.hid (HT4.out.kept (hk5.mono (fun x _ hx => by unfold Only at hx; exact .inl (.inr hx))))
  have HB5 := Lib.hid (HB4.out.trans (hk5.below (B := w1.heap.size) (by omega) (fun x hx => by unfold Only at hx; omega)))
  clear hC5 hst hreg hsg hhg hk5
  go_wp2_with fail
  generalize hw5a : w5.alloc _ = w5a
  have hb5a : Below w5.heap.size w5 w5a := hw5a ▸ below_alloc w5 _
  have HS5 := Lib.hid (slOf_one (x := newL) (show w5a.heap[w5.heap.size]? = some (.cells #[.string ⟨newL.toArray⟩] 9 (0, 0)) from hw5a ▸ heap_alloc_at w5 _))
  clear hw5a
  have hz5a := hb5a.size
  have HC5a := Lib.hid (HC5.out.later hb5a)
  have HT5a := Lib.hid (HT5.out.later hb5a)
  have HF5a := Lib.hid (FsAt.later HF5.out hb5a)
  have HB5a := Lib.hid (HB5.out.trans (hb5a.mono HB5.out.size))
  have hm5 : manyS (ofS [base]) = base.length := by rw [manyS_ofS]; simp [manyS]
  have HSP := Lib.hid (coreSplice_of (p := 0) (d := 0) (n := 0) (k := base.length) (ins := [newL]) (Nat.le_trans HS.out HB5a.out.size) HC5a.out HT5a.out (DoneOf.nil _) HS5.out (fun x hx => by
    rcases hx with (h | h) | h
    · omega
    · omega
    · omega) (.inl (.inr rfl)) (fun g hg => by cases hg) (Nat.le_trans (ofS_len [base]) (by simp)) (by omega) (by omega) (by omega) HAH.out.1)
  clear hb5a
  refine HSP.out.mono ?_
  rintro e w6 ⟨rfl, t', g, cp, hC6, hD6, hT6, hgo, hgl, hk6⟩
  have hz6 := hk6.size
  have hFc4 : ∀ x, ((w1.heap.size ≤ x ∧ x < w2.heap.size) ∨ (w3.heap.size ≤ x ∧ x < w4.heap.size)) → x ≠ c := fun x hx => by
    rcases hx with h | h <;> omega
  have HF6 := Lib.hid (FsAt.kept HF5a.out hk6 (fun x _ hx h => by
    rcases hx with hx | hx
    · exact hFc4 x h hx
    · cases hx))
  have HC6 := Lib.hid hC6
  have HT6 := Lib.hid hT6
  have HB6 := Lib.hid (HB5a.out.trans (hk6.below (B := w1.heap.size) HB5a.out.size (fun x hx => by
    rcases hx with hx | hx
    · omega
    · cases hx)))
  clear hC6 hD6 hT6 hgo hgl hk6 HSP
  go_wp2_with fail
  refine (coreEndT_of (by omega) HC6.out).mono ?_
  rintro e w7 ⟨rfl, hC7, hk7⟩
  have hz7 := hk7.size
  have HC7 := Lib.hid hC7
  have HT7 := Lib.hid (HT6.out.kept (hk7.mono (fun x _ hx => by unfold Only at hx; exact .inl (.inl (.inr hx)))))
  have HF7 := Lib.hid (FsAt.kept HF6.out hk7 (fun x _ hx h => by
    unfold Only at hx
    exact hFc4 x h hx))
  have HB7 := Lib.hid (HB6.out.trans (hk7.below (B := w1.heap.size) HB6.out.size (fun x hx => by unfold Only at hx; omega)))
  clear hC7 hk7
  go_wp2_with fail
  refine (oneF_any 119 [] w7).mono ?_
  rintro e w8 ⟨rfl, hb8⟩
  have hz8 := hb8.size
  have HC8 := Lib.hid (HC7.out.later hb8)
  have HT8 := Lib.hid (HT7.out.later hb8)
  have HF8 := Lib.hid (FsAt.later HF7.out hb8)
  have HB8 := Lib.hid (HB7.out.trans (hb8.mono HB7.out.size))
  have hps : (tabSpl (ofS [base]) ⟨((0 : Nat) : Int), ((0 : Nat) : Int), [newL]⟩).length ≤ 100000 := by
    have h1 := tabSpl_len (ofS [base]) ⟨((0 : Nat) : Int), ((0 : Nat) : Int), [newL]⟩
    have h2 := ofS_len [base]
    simp only [List.length_singleton] at h2
    omega
  have hfl := HAH.out.2
  obtain ⟨ps, hpe⟩ : ∃ ps, tabSpl (ofS [base]) ⟨((0 : Nat) : Int), ((0 : Nat) : Int), [newL]⟩ = ps := ⟨_, rfl⟩
  obtain ⟨cu, hcu⟩ : ∃ cu : Int, cu = (curS base.length 0 0 [newL].length (manyS (tabSpl (ofS [base]) ⟨((0 : Nat) : Int), ((0 : Nat) : Int), [newL]⟩)) : Int) := ⟨_, rfl⟩
  rw [← hcu] at HC8
  rw [hpe] at HT8 hps hfl
  have hM : manyS ps = base.length + 1 := by rw [manyS_flat, hfl]; simp
  have h10F : ∀ X, KeepT (fun x => ((w1.heap.size ≤ x ∧ x < w2.heap.size) ∨ (w3.heap.size ≤ x ∧ x < w4.heap.size)) ∨ x = c) w8 X → Tab10 X := fun X hX => HT10.out X (HB8.out.trans (hX.below (B := w1.heap.size) HB8.out.size (fun x hx => by
    rcases hx with (h | h) | h <;> omega)))
  have HPS := Lib.hid (⟨hps, hfl, hM⟩ : ps.length ≤ 100000 ∧ ps.flatten = newL :: base ∧ manyS ps = base.length + 1)
  clear hb8 hpe hcu hM hfl hps
  cases b
  case false =>
    have HRW := Lib.hid (runF_ok (F := fun x => (w1.heap.size ≤ x ∧ x < w2.heap.size) ∨ (w3.heap.size ≤ x ∧ x < w4.heap.size)) (Nat.le_trans HS.out HB8.out.size) HC8.out HT8.out HPS.out.2.1 HPS.out.1 (by rw [HPS.out.2.2]; omega) HF8.out (fun x hx => by rcases hx with h | h <;> omega) (.inl (.inl (.inr rfl))) (fun h => hFc4 c h rfl) HJ.out hJl h10F)
    clear h10F
    go_wp2_with fail
    refine HRW.out.mono ?_
    rintro e w9 ⟨rfl, hC9, ⟨F9, hf9, hF9⟩, hk9⟩
    have hz9 := hk9.size
    have HC9 := Lib.hid hC9
    have HF9 := Lib.hid hf9
    have HQ9 := Lib.hid hF9
    have HT9 := Lib.hid ((HT8.out.apart (S' := fun x => (((x < w2.heap.size ∨ x = c) ∨ (w3.heap.size ≤ x ∧ x < w4.heap.size)) ∨ x = g) ∨ w8.heap.size ≤ x) (fun x hx => hx)).kept (hk9.mono (fun x _ hx => by
      rcases hx with (h | h) | h
      · exact .inl (.inl (.inl (.inl h.2)))
      · exact .inl (.inl (.inr h))
      · exact .inl (.inl (.inl (.inr h))))))
    have HB9 := Lib.hid (HB8.out.trans (hk9.below (B := w1.heap.size) HB8.out.size (fun x hx => by rcases hx with (h | h) | h <;> omega)))
    have HRA := Lib.hid (show (resCells (toldL J.length) [102] c true false).toArray = #[.string ⟨(toldL J.length).toArray⟩, .pointer (some ⟨c, 0, none⟩), .string ⟨#[102]⟩, .slice none 0 0, .bool false, .bool true, .bool false] from rfl)
    rw [HRA.out]
    generalize toldL J.length = TD
    clear hC9 hf9 hF9 hk9
    go_wp2_with fail
    generalize hw10 : w9.alloc _ = w10
    have hb10 : Below w9.heap.size w9 w10 := hw10 ▸ below_alloc w9 _
    have HX10 := Lib.hid (show w10.heap[w9.heap.size]? = some (.cells #[.string ⟨TD.toArray⟩, .pointer (some ⟨c, 0, none⟩), .string ⟨#[102]⟩, .slice none 0 0, .bool false, .bool true, .bool false] 41 (0, 0)) from hw10 ▸ heap_alloc_at w9 _)
    clear hw10
    have hz10 := hb10.size
    have h9l : w9.heap.size < w10.heap.size := lt_of_heap HX10.out
    have HC10 := Lib.hid (HC9.out.later hb10)
    have HT10' := Lib.hid (HT9.out.later hb10)
    have HF10 := Lib.hid (FsAt.later HF9.out hb10)
    have HB10 := Lib.hid (HB9.out.trans (hb10.mono HB9.out.size))
    clear hb10
    refine (savesLoad_fl HF10.out).mono ?_
    rintro e w11 ⟨rfl, hk11⟩
    have hFx : ∀ x, F9 x → x ≠ w9.heap.size ∧ x ≠ c ∧ w1.heap.size ≤ x := fun x hx => by
      rcases HQ9.out x hx with (h | h) | h
      · refine ⟨?_, ?_, h.1⟩ <;> omega
      · refine ⟨?_, ?_, ?_⟩ <;> omega
      · refine ⟨?_, ?_, ?_⟩ <;> omega
    have hX11 := (hk11.block _ h9l (fun h => (hFx _ h).1 rfl)).trans HX10.out
    have c5 : w11.cell? ⟨w9.heap.size, 5, none⟩ = some (.bool true) := by rw [Lib.cell_of_heap hX11]; rfl
    have HC11 := Lib.hid (HC10.out.kept hk11 (fun h => (hFx _ h).2.1 rfl))
    have HT11 := Lib.hid (HT10'.out.kept (hk11.mono (fun x _ hx => by
      rcases HQ9.out x hx with (h | h) | h
      · exact .inl (.inl (.inl (.inl h.2)))
      · exact .inl (.inl (.inr h))
      · exact .inr h.1)))
    have HB11 := Lib.hid (HB10.out.trans (hk11.below (B := w1.heap.size) HB10.out.size (fun x hx => (hFx x hx).2.2)))
    rw [show flX old J a false = .tuple #[.string ⟨J.toArray⟩, .int .i64 0] from rfl]
    have hJJ : (J == J) = true := beq_self_eq_true J
    clear hk11 hX11 hFx
    have HCO := Lib.hid (show CoreOf _ w11 c t' cu ps from ⟨HC11.out.c0, HC11.out.c1, HT11.out, HPS.out.1, by rw [HPS.out.2.2]; omega⟩)
    have HNC := Lib.hid (coreN_of HCO.out)
    have HLN := Lib.hid (coreAllD_of HCO.out (newL :: base) HPS.out.2.1)
    rw [HPS.out.2.2] at HNC HLN
    go_wp2_with fail
    refine (coreDirty_of HC11.out).mono ?_
    rintro e w12 ⟨rfl, rfl⟩
    go_wp2_with fail
    refine HNC.out.mono ?_
    rintro e w13 ⟨rfl, rfl⟩
    go_wp2_with fail
    refine HLN.out.mono ?_
    rintro e w14 ⟨ao3, cap3, rfl, hs14, hb14⟩
    have HS14 := Lib.hid hs14
    have HB14 := Lib.hid (HB11.out.trans (hb14.mono HB11.out.size))
    clear hs14 hb14
    have HJN := Lib.hid (show Calls Tryz.prog 18 #[.slice ao3 (newL :: base).length cap3] w14 fun e w' => e = .returned (.string ⟨J.toArray⟩) ∧ Below w14.heap.size w14 w' from by
      have e := linesJoin_any (newL :: base) ao3 cap3 w14 HS14.out (by rw [HJ.out]; omega)
      rw [HJ.out] at e
      exact e)
    go_wp2_with fail
    refine HJN.out.mono ?_
    rintro e w15 ⟨rfl, hb15⟩
    have HB15 := Lib.hid (HB14.out.trans (hb15.mono HB14.out.size))
    clear hb15
    go_wp2_with fail
    refine (HLV.out _ HB15.out).mono ?_
    rintro e w16 ⟨rfl, hb16⟩
    have HB16 := Lib.hid (HB15.out.trans (hb16.mono HB15.out.size))
    clear hb16
    go_wp2_with fail
    go_returns
    exact ⟨rfl, HB16.out⟩
  case true =>
    have HRW := Lib.hid (runF_no (F := fun x => (w1.heap.size ≤ x ∧ x < w2.heap.size) ∨ (w3.heap.size ≤ x ∧ x < w4.heap.size)) (Nat.le_trans HS.out HB8.out.size) HC8.out HT8.out HPS.out.2.1 HPS.out.1 (by rw [HPS.out.2.2]; omega) HF8.out (fun x hx => by rcases hx with h | h <;> omega) (.inl (.inl (.inr rfl))) (fun h => hFc4 c h rfl) HJ.out hJl h10F)
    clear h10F
    go_wp2_with fail
    refine HRW.out.mono ?_
    rintro e w9 ⟨rfl, hC9, ⟨F9, hf9, hF9⟩, hk9⟩
    have hz9 := hk9.size
    have HC9 := Lib.hid hC9
    have HF9 := Lib.hid hf9
    have HQ9 := Lib.hid hF9
    have HB9 := Lib.hid (HB8.out.trans (hk9.below (B := w1.heap.size) HB8.out.size (fun x hx => by rcases hx with (h | h) | h <;> omega)))
    have HRA := Lib.hid (show resZero.toArray = #[.string ⟨#[]⟩, .pointer none, .string ⟨#[]⟩, .slice none 0 0, .bool false, .bool false, .bool false] from rfl)
    rw [HRA.out]
    clear hC9 hf9 hF9 hk9
    go_wp2_with fail
    generalize hw10 : w9.alloc _ = w10
    have hb10 : Below w9.heap.size w9 w10 := hw10 ▸ below_alloc w9 _
    clear hw10
    have HC10 := Lib.hid (HC9.out.later hb10)
    have HF10 := Lib.hid (FsAt.later HF9.out hb10)
    have HB10 := Lib.hid (HB9.out.trans (hb10.mono HB9.out.size))
    clear hb10
    refine (savesLoad_fl HF10.out).mono ?_
    rintro e w11 ⟨rfl, hk11⟩
    have hFx : ∀ x, F9 x → x ≠ c ∧ w1.heap.size ≤ x := fun x hx => by
      rcases HQ9.out x hx with (h | h) | h
      · refine ⟨?_, h.1⟩ <;> omega
      · refine ⟨?_, ?_⟩ <;> omega
      · refine ⟨?_, ?_⟩ <;> omega
    have HC11 := Lib.hid (HC10.out.kept hk11 (fun h => (hFx _ h).1 rfl))
    have HB11 := Lib.hid (HB10.out.trans (hk11.below (B := w1.heap.size) HB10.out.size (fun x hx => (hFx x hx).2)))
    have hoo : (old == old) = true := beq_self_eq_true old
    clear hk11 hFx
    cases a
    · rw [show flX old J false true = .tuple #[.string ⟨#[]⟩, .int .i64 4] from rfl]
      go_wp2_with fail
      refine (coreDirty_of HC11.out).mono ?_
      rintro e w12 ⟨rfl, rfl⟩
      go_wp2_with fail
      refine (HLV.out _ HB11.out).mono ?_
      rintro e w16 ⟨rfl, hb16⟩
      have HB16 := Lib.hid (HB11.out.trans (hb16.mono HB11.out.size))
      clear hb16
      go_wp2_with fail
      go_returns
      exact ⟨rfl, HB16.out⟩
    · rw [show flX old J true true = .tuple #[.string ⟨old.toArray⟩, .int .i64 0] from rfl]
      go_wp2_with fail
      refine (coreDirty_of HC11.out).mono ?_
      rintro e w12 ⟨rfl, rfl⟩
      go_wp2_with fail
      refine (HLV.out _ HB11.out).mono ?_
      rintro e w16 ⟨rfl, hb16⟩
      have HB16 := Lib.hid (HB11.out.trans (hb16.mono HB11.out.size))
      clear hb16
      go_wp2_with fail
      go_returns
      exact ⟨rfl, HB16.out⟩
end Go.Proofs.YtlcjjcmfpmflcaaGreatDoor
