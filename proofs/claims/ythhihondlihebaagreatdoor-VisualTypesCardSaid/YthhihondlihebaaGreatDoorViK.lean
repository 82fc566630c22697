/- A visual editor of one line takes bytes: motions, the beginning of a text, the text, its end (chapter 28). -/
import Derived.Test.YthhihondlihebaaGreatDoorViI
import Derived.Test.YthhihondlihebaaGreatDoorViF
namespace Go.Proofs.YthhihondlihebaaGreatDoor
open Go Go.Proofs Go.RowKit Go.Ink Go.Sort

/-- An editor of one line, the cursor in a column of it. -/
structure IdleAt (B : Nat) (w : World) (c d t r : Nat) (x : Line) (j : Nat) : Prop where
  hv : VisB w d { v0 c with ln := 1, col := (j : Int), mode := 1 }
  hc : CoreB w c t 1 [] r false none none none (.slice none 0 0)
  ht : TabOf (VSt B c d) w t (ofS [[x]])
  hr : NewRegs w r
  hB : B ≤ c
  hcd : c < d
/-- An editor in which text is typed. -/
def TypeAt (B : Nat) (w : World) (c d : Nat) (s : List Line × Line) (b : Line) (nd : Nat) : Prop :=
  ∃ (S : Nat → Prop) (v : Vis) (t cu r was : Nat) (dirty : Bool) (undo held : Option Addr) (dn : Value) (ps : List (List Line)),
    VisB w d v ∧ v.c = c ∧ v.mode = 2 ∧ v.ln = (s.1.length : Int) + 1 ∧ v.col = (s.2.length : Int) ∧ v.done.length = nd ∧
    CoreB w c t (cu : Int) [] r dirty undo (some ⟨was, 0, none⟩) held dn ∧ TabOf S w t ps ∧ DoneOf w dn nd ∧ cu ≤ manyS ps ∧ ps.length ≤ manyS ps ∧ ps.flatten = s.1 ++ [s.2 ++ b] ∧
    (∀ j, S j → j < w.heap.size) ∧ S c ∧ S d ∧ (∀ g, dn.ownBlock = some g → S g ∧ B ≤ g ∧ g ≠ d) ∧ B ≤ c ∧ c < d
/-- What a step tells where nothing is to be told. -/
def stepV (sl : Value) : Value := .tuple #[sl, .string ⟨#[]⟩, .bool false, .int .i64 0]
section
variable {w w' : World} {B c d t r : Nat} {x : Line} {j : Nat}
theorem one_many (x : Line) : manyS (ofS [[x]]) = 1 := by rw [manyS_flat, ofS_sing]; rfl
theorem one_len (x : Line) : (ofS [[x]]).length ≤ 1 := by have := ofS_len [[x]]; simpa using this
theorem one_short {x : Line} (hx : x.length ≤ 1000000) : ∀ i, (lnL [x] i).length ≤ 1000000 := fun i => by
  cases i with
  | zero => exact hx
  | succ i => simp [lnL]
theorem IdleAt.keep {w2 : World} (h : IdleAt B w c d t r x j) (hBw : B ≤ w.heap.size) (hk : KeepT (TwoV c d) w w2) : Below B w w2 :=
  hk.below hBw (fun i hi => by
    have := h.hB; have := h.hcd
    rcases hi with rfl | rfl
    · omega
    · omega)
theorem idle_motion {q : Nat} {b : UInt8} (hbK : b.toNat ∈ keyL) (hmot : isMot b.toNat = true) (h : IdleAt B w c d t r x j) (hw : 4 ≤ w.heap.size) (hBw : B ≤ w.heap.size) (hx : x.length ≤ 1000000) (hq : Okp [x] (0, q))
    (hmv : ∀ (X : World) (ao : Option Addr) (cap : Nat), SlOf IsStr X ao cap [x] → Calls Tryz.prog 51 #[.agg (askA (.slice ao 1 cap) (((0 : Nat) : Int) + 1) (j : Int) (b.toNat : Int) 0 0)] X fun e w' => e = .returned (.tuple #[toV (0, q) false false, .bool true]) ∧ Below X.heap.size X w') :
    Calls Tryz.prog 13 #[.pointer (some ⟨d, 0, none⟩), .int .u8 (b.toNat : Int)] w fun e w' => e = .returned (stepV (.slice none 0 0)) ∧ IdleAt B w' c d t r x q ∧ Below B w w' := by
  have hcd : c ≠ d := Nat.ne_of_lt h.hcd
  refine (visKey hbK hw h.hv rfl rfl (fun X sl W => sl = .slice none 0 0 ∧ VisB W d { v0 c with ln := 1, col := (q : Int), mode := 1 } ∧ CoreB W c t 1 [] r false none none none (.slice none 0 0) ∧ KeepT (TwoV c d) X W) (fun X hk hv => ?_)).mono fun e w' ⟨X, sl, hk, hv, he, hsl, hv2, hc2, hk2⟩ => ?_
  · have hc := h.hc.kept hk (by unfold Only; exact hcd)
    have ht := h.ht.kept (hk.mono (fun i _ hi => (.inr (.inr hi) : VSt B c d i)))
    refine (visMotion hbK hmot (p := (0, j)) (q := (0, q)) (F := [x]) (S := VSt B c d) (Nat.le_trans hw hk.size) hv hc ht (Nat.le_trans (one_len x) (by omega)) (by rw [one_many]; omega) (ofS_sing [x]) (one_short hx) hq rfl rfl hcd (.inr (.inr rfl)) hmv).mono fun e w' ⟨he, hv2, hc2, hk2⟩ => ?_
    exact ⟨_, he, rfl, hv2, hc2, hk2⟩
  · subst hsl
    have hkk : KeepT (TwoV c d) w w' := (hk.mono (fun i _ hi => (.inr hi : TwoV c d i))).trans hk2 (fun _ _ hi => hi)
    refine ⟨he, ⟨hv2, hc2, h.ht.kept (hkk.mono (fun i _ hi => .inr hi)), ?_, h.hB, h.hcd⟩, h.keep hBw hkk⟩
    exact h.hr.kept hkk (vis_not_regs h.hc h.hv)
theorem idle_0 (h : IdleAt B w c d t r x j) (hw : 4 ≤ w.heap.size) (hBw : B ≤ w.heap.size) (hx : x.length ≤ 1000000) (hj : Okp [x] (0, j)) :
    Calls Tryz.prog 13 #[.pointer (some ⟨d, 0, none⟩), .int .u8 48] w fun e w' => e = .returned (stepV (.slice none 0 0)) ∧ IdleAt B w' c d t r x 0 ∧ Below B w w' :=
  idle_motion (b := 48) (by decide) (by decide) h hw hBw hx ⟨by simp, .inl rfl⟩ (fun X ao cap hs => move_0 hs (one_short hx) (by simp) (0, j) hj)
theorem idle_l (h : IdleAt B w c d t r x j) (hw : 4 ≤ w.heap.size) (hBw : B ≤ w.heap.size) (hx : x.length ≤ 1000000) (hj : j + 1 < x.length) :
    Calls Tryz.prog 13 #[.pointer (some ⟨d, 0, none⟩), .int .u8 108] w fun e w' => e = .returned (stepV (.slice none 0 0)) ∧ IdleAt B w' c d t r x (j + 1) ∧ Below B w w' :=
  idle_motion (b := 108) (by decide) (by decide) h hw hBw hx ⟨by simp, .inr hj⟩ (fun X ao cap hs => move_l hs (one_short hx) (by simp) (0, j) ⟨by simp, .inr (by show j < x.length; omega)⟩ hj)
set_option maxHeartbeats 1000000 in
theorem idle_begin {n0 k : Nat} {b : UInt8} (hbK : b.toNat ∈ keyL) (hmot : isMot b.toNat = false) (hb121 : (b.toNat : Int) ≠ 121) (hb89 : (b.toNat : Int) ≠ 89) (hb82 : (b.toNat : Int) ≠ 82) (h : IdleAt B w c d t r x j) (hw : 4 ≤ w.heap.size) (hBw : B ≤ w.heap.size)
    (hI : ∀ X : World, 4 ≤ X.heap.size → Calls Tryz.prog 93 #[.string ⟨#[105, 73, 97, 65, 111, 79, 82]⟩, .int .u8 (b.toNat : Int)] X fun e w' => e = .returned (.int .i64 (n0 : Int)) ∧ Below X.heap.size X w')
    (hE : ∀ X s hh, VisB X d { v0 c with ln := 1, col := (j : Int), mode := 1 } → CoreB X c t 1 [] r false none (some ⟨s, 0, none⟩) (some ⟨hh, 0, none⟩) (.slice none 0 0) → TabOf (VSt B c d) X t (ofS [[x]]) → Calls Tryz.prog 120 #[.pointer (some ⟨d, 0, none⟩), keyV 0 0 (b.toNat : Int) 0 0] X fun e w' => e = .returned (.int .i64 0) ∧ VisB w' d { ({ v0 c with ln := 1, col := (j : Int), mode := 1 } : Vis) with col := (k : Int) } ∧ KeepT (Only d) X w')
    (hk : k ≤ x.length) :
    Calls Tryz.prog 13 #[.pointer (some ⟨d, 0, none⟩), .int .u8 (b.toNat : Int)] w fun e w' => e = .returned (stepV (.slice none 0 0)) ∧ TypeAt B w' c d ([], x.take k) (x.drop k) 0 ∧ Below B w w' := by
  have hcd : c ≠ d := Nat.ne_of_lt h.hcd
  refine (visKey hbK hw h.hv rfl rfl (fun X sl W => sl = .slice none 0 0 ∧ VisB W d { ({ v0 c with ln := 1, col := (j : Int), mode := 1 } : Vis) with ln := ((0 : Nat) : Int) + 1, col := (k : Int), dr := 0, dc := 0, dn := (b.toNat : Int), dm := 0, dl := 0, text := [], mode := 2, fl := ((0 : Nat) : Int) + 1, fc := (k : Int), done := [] } ∧ KeepT (TwoV c d) X W ∧ ∃ s hh,
      CoreB W c t (((0 : Nat) : Int) + 1) [] r false none (some ⟨s, 0, none⟩) (some ⟨hh, 0, none⟩) (.slice none 0 0) ∧ X.heap.size ≤ s ∧ X.heap.size ≤ hh) (fun X hk hv => ?_)).mono fun e w' ⟨X, sl, hk1, hv, he, hsl, hv2, hk2, s, hh, hc2, _, _⟩ => ?_
  · have hc := h.hc.kept hk (by unfold Only; exact hcd)
    have ht := h.ht.kept (hk.mono (fun i _ hi => (.inr (.inr hi) : VSt B c d i)))
    have hr := h.hr.kept hk (fun i hi hl => vis_not_regs h.hc h.hv i (.inr hi) hl)
    refine (visCmdIns hbK hmot (Nat.le_trans hw hk.size) (fun W => VisB W d { ({ v0 c with ln := 1, col := (j : Int), mode := 1 } : Vis) with ln := ((0 : Nat) : Int) + 1, col := (k : Int), dr := 0, dc := 0, dn := (b.toNat : Int), dm := 0, dl := 0, text := [], mode := 2, fl := ((0 : Nat) : Int) + 1, fc := (k : Int), done := [] } ∧ KeepT (TwoV c d) X W ∧ ∃ s hh,
      CoreB W c t (((0 : Nat) : Int) + 1) [] r false none (some ⟨s, 0, none⟩) (some ⟨hh, 0, none⟩) (.slice none 0 0) ∧ X.heap.size ≤ s ∧ X.heap.size ≤ hh) (fun Y hb => ?_)).mono fun e w' ⟨he, hq⟩ => ⟨_, he, rfl, hq⟩
    refine (visBegin (S := VSt B c d) (n := 0) (k := (k : Int)) hb121 hb89 hb82 (Nat.le_trans (Nat.le_trans hw hk.size) hb.size) hI (hv.later hb) (hc.later hb) (hr.later hb) (ht.later hb) (Nat.le_trans (one_len x) (by omega)) (by rw [one_many]; omega) rfl (by rw [one_many]; omega) hcd (.inr (.inl rfl)) (.inr (.inr rfl)) hE).mono fun e w' ⟨he, hv2, hk2, s, hh, hc2, h1, h2⟩ => ?_
    exact ⟨he, hv2, (KeepT.of_below (S := TwoV c d) hb).trans hk2 (fun _ _ hi => hi), s, hh, hc2, Nat.le_trans hb.size h1, Nat.le_trans hb.size h2⟩
  · subst hsl
    have hkk : KeepT (TwoV c d) w w' := (hk1.mono (fun i _ hi => (.inr hi : TwoV c d i))).trans hk2 (fun _ _ hi => hi)
    have hlen : (x.take k).length = k := by rw [List.length_take, Nat.min_eq_left hk]
    refine ⟨he, ⟨VSt B c d, _, t, 1, r, s, false, none, some ⟨hh, 0, none⟩, .slice none 0 0, ofS [[x]], hv2, rfl, rfl, rfl, by simp only [hlen], rfl, hc2, h.ht.kept (hkk.mono (fun i _ hi => .inr hi)), DoneOf.nil _, by rw [one_many]; omega, by rw [one_many]; exact one_len x, by rw [ofS_sing]; simp, ?_, .inr (.inl rfl), .inr (.inr rfl), by simp [Value.ownBlock], h.hB, h.hcd⟩, h.keep hBw hkk⟩
    rintro i (hi | rfl | rfl)
    · exact Nat.lt_of_lt_of_le hi (Nat.le_trans hBw hkk.size)
    · exact hc2.lt
    · exact hv2.lt
theorem idle_i (h : IdleAt B w c d t r x 0) (hw : 4 ≤ w.heap.size) (hBw : B ≤ w.heap.size) :
    Calls Tryz.prog 13 #[.pointer (some ⟨d, 0, none⟩), .int .u8 105] w fun e w' => e = .returned (stepV (.slice none 0 0)) ∧ TypeAt B w' c d ([], x.take 0) (x.drop 0) 0 ∧ Below B w w' :=
  idle_begin (b := 105) (n0 := 0) (k := 0) (by decide) (by decide) (by decide) (by decide) (by decide) h hw hBw (fun X hX => keysIns_i hX) (fun X s hh hv hc ht =>
    (visEnterI (S := VSt B c d) hv hc ht (Nat.le_trans (one_len x) (by omega)) (by rw [one_many]; omega) (by rw [one_many]; omega)).mono fun e w' ⟨he, hb⟩ => ⟨he, hv.later hb, KeepT.of_below hb⟩) (Nat.zero_le _)
theorem idle_a {k : Nat} (h : IdleAt B w c d t r x (k - 1)) (hk1 : 1 ≤ k) (hk : k ≤ x.length) (hxl : x.length ≤ 1000000) (hw : 4 ≤ w.heap.size) (hBw : B ≤ w.heap.size) :
    Calls Tryz.prog 13 #[.pointer (some ⟨d, 0, none⟩), .int .u8 97] w fun e w' => e = .returned (stepV (.slice none 0 0)) ∧ TypeAt B w' c d ([], x.take k) (x.drop k) 0 ∧ Below B w w' :=
  idle_begin (b := 97) (n0 := 2) (k := k) (by decide) (by decide) (by decide) (by decide) (by decide) h hw hBw (fun X hX => keysIns_a hX) (fun X s hh hv hc ht =>
    (visEnterA (S := VSt B c d) (n := 0) (k := k) (x := x) rfl (by show ((k - 1 : Nat) : Int) = (k : Int) - 1; omega) hk1 hk hxl (by rw [ofS_sing]; rfl) hv hc ht (Nat.le_trans (one_len x) (by omega)) (by rw [one_many]; omega) (by rw [one_many]; omega)).mono fun e w' ⟨he, hv2, hk2⟩ => ⟨he, hv2, hk2⟩) hk
set_option maxHeartbeats 1000000 in
theorem type_step {s : List Line × Line} {b : Line} {nd m : Nat} {u : UInt8} (hu : u = 10 ∨ (32 ≤ u.toNat ∧ u.toNat ≤ 126)) (h : TypeAt B w c d s b nd) (hok : TyOk m s b) (hm : m ≤ 900) (hs : s.1.length ≤ 900) (hnd : nd ≤ 900) (hw : 4 ≤ w.heap.size) (hBw : B ≤ w.heap.size) :
    Calls Tryz.prog 13 #[.pointer (some ⟨d, 0, none⟩), .int .u8 (u.toNat : Int)] w fun e w' => e = .returned (stepV (.slice none 0 0)) ∧ TypeAt B w' c d (tyS s u) b (nd + 1) ∧ Below B w w' := by
  obtain ⟨S, v, t, cu, r, was, dirty, undo, held, dn, ps, hv, rfl, hmode, hln, hcol, hdone, hc, ht, hd, hcu, hps, hfl, hS, hSc, hSd, hdn, hBc, hcd⟩ := h
  have hmany : manyS ps = s.1.length + 1 := by rw [manyS_flat, hfl, List.length_append, List.length_singleton]
  have hx : ps.flatten[s.1.length]? = some (s.2 ++ b) := by rw [hfl, List.getElem?_append_right (Nat.le_refl _), Nat.sub_self]; rfl
  have hk : s.2.length ≤ (s.2 ++ b).length := by rw [List.length_append]; omega
  have hxl : (s.2 ++ b).length ≤ 1000 := by rw [List.length_append]; have := hok.2.1; omega
  have htk : (s.2 ++ b).take s.2.length = s.2 := List.take_left
  have hdr : (s.2 ++ b).drop s.2.length = b := List.drop_left
  obtain ⟨hE, hF⟩ := ty_splice (c := u) hfl (by omega) (fun y hy => ⟨Nat.le_trans ((hok.ins u) y hy).1 (by omega), ((hok.ins u) y hy).2⟩)
  have hcd' : v.c ≠ d := Nat.ne_of_lt hcd
  have hmb := (tabSpl_many hE).2.1
  have hlt := hv.lt
  have fin : ∀ (W : World) (v2 : Vis) (t' g cp n2 : Nat), VisB W d v2 → v2.c = v.c → v2.mode = 2 → v2.ln = ((tyS s u).1.length : Int) + 1 → v2.col = ((tyS s u).2.length : Int) → v2.done.length = nd + 1 → CoreB W v.c t' (n2 : Int) [] r dirty undo (some ⟨was, 0, none⟩) held (.slice (some ⟨g, 0, none⟩) (nd + 1) cp) → n2 ≤ manyS (tabSpl ps ⟨(s.1.length : Int), ((1 : Nat) : Int), insT s.2 b u⟩) → DoneOf W (.slice (some ⟨g, 0, none⟩) (nd + 1) cp) (nd + 1) →
      TabOf (fun j => S j ∨ j = g) W t' (tabSpl ps ⟨(s.1.length : Int), ((1 : Nat) : Int), insT s.2 b u⟩) → (dn.ownBlock = some g ∨ w.heap.size ≤ g) → g < W.heap.size → KeepT (fun j => j = v.c ∨ j = d ∨ dn.ownBlock = some j) w W → TypeAt B W v.c d (tyS s u) b (nd + 1) ∧ Below B w W := by
    intro W v2 t' g cp n2 a1 a2 a3 a4 a5 a6 a7 a8 a9 a10 a11 a12 a13
    refine ⟨⟨fun j => S j ∨ j = g, v2, t', n2, r, was, dirty, undo, held, _, _, a1, a2, a3, a4, a5, a6, a7, a10, a9, a8, tabSpl_full _ _, hF, ?_, .inl hSc, .inl hSd, ?_, hBc, hcd⟩, a13.below hBw ?_⟩
    · rintro j (hj | rfl)
      · exact Nat.lt_of_lt_of_le (hS j hj) a13.size
      · exact a12
    · intro g' hg'
      have e : g = g' := by simpa [Value.ownBlock] using hg'
      subst e
      refine ⟨.inr rfl, ?_, ?_⟩
      · rcases a11 with hh | hh
        · exact (hdn _ hh).2.1
        · omega
      · rcases a11 with hh | hh
        · exact (hdn _ hh).2.2
        · omega
    · rintro i (rfl | rfl | hi)
      · exact hBc
      · omega
      · exact (hdn _ hi).2.1
  rcases hu with rfl | ⟨hu1, hu2⟩
  · have e : insT s.2 b 10 = [(s.2 ++ b).take s.2.length, (s.2 ++ b).drop s.2.length] := by rw [htk, hdr]; unfold insT; rw [if_pos rfl]
    rw [e] at hE fin hmb
    have et : tyS s 10 = (s.1 ++ [s.2], []) := by unfold tyS; rw [if_pos rfl]
    refine (visStepIns (b := 10) (by decide) hv hmode (fun W => TypeAt B W v.c d (tyS s 10) b (nd + 1) ∧ Below B w W) ?_).mono fun e w' ⟨he, hr⟩ => ⟨he, hr⟩
    refine (visInsLF (S := S) hw hv hmode hln hcol hc ht hd (by omega) hcu (by omega) hps hx hk (by omega) hE hS hSc hSd (fun g hg => (hdn g hg).1) (fun hg => (hdn d hg).2.2 rfl) hcd' (by omega)).mono fun e w' ⟨he, t', g, cp, q1, q2, q3, q4, q5, q6, q7⟩ => ⟨he, ?_⟩
    refine fin w' _ t' g cp (s.1.length + 1 + 1) q1 rfl hmode ?_ ?_ (by simp [hdone]) ?_ ?_ q3 q4 q5 q6 q7
    · rw [et]; simp only [List.length_append, List.length_singleton]; omega
    · rw [et]; rfl
    · rw [show ((s.1.length + 1 + 1 : Nat) : Int) = (s.1.length : Int) + 1 + 1 by omega]; exact q2
    · rw [hmb, hmany]; simp only [List.length_cons, List.length_nil]; omega
  · have hu10 : u ≠ 10 := by rintro rfl; revert hu1; decide
    have hu27 : u ≠ 27 := by rintro rfl; revert hu1; decide
    have e : insT s.2 b u = [(s.2 ++ b).take s.2.length ++ u :: (s.2 ++ b).drop s.2.length] := by rw [htk, hdr]; unfold insT; rw [if_neg hu10]
    rw [e] at hE fin hmb
    have et : tyS s u = (s.1, s.2 ++ [u]) := by unfold tyS; rw [if_neg hu10]
    refine (visStepIns (b := u) hu27 hv hmode (fun W => TypeAt B W v.c d (tyS s u) b (nd + 1) ∧ Below B w W) ?_).mono fun e w' ⟨he, hr⟩ => ⟨he, hr⟩
    refine (visInsByte (S := S) hu1 hu2 hw hv hmode hln hcol hc ht hd (by omega) hcu (by omega) hps hx hk (by omega) hE hS hSc hSd (fun g hg => (hdn g hg).1) (fun hg => (hdn d hg).2.2 rfl) hcd' (by omega)).mono fun e w' ⟨he, t', g, cp, q1, q2, q3, q4, q5, q6, q7⟩ => ⟨he, ?_⟩
    refine fin w' _ t' g cp (s.1.length + 1) q1 rfl hmode ?_ ?_ (by simp [hdone]) ?_ ?_ q3 q4 q5 q6 q7
    · rw [et]
    · rw [et]; simp only [List.length_append, List.length_singleton]; omega
    · rw [show ((s.1.length + 1 : Nat) : Int) = (s.1.length : Int) + 1 by omega]; exact q2
    · rw [hmb, hmany]; simp only [List.length_cons, List.length_nil]; omega
/-- The editor behind a text: its lines. -/
def EndAt (w : World) (c d : Nat) (L : List Line) : Prop := (∃ v : Vis, VisB w d v ∧ v.mode = 1) ∧ ∃ (S : Nat → Prop) (t : Nat) (cur : Int) (ps : List (List Line)), CoreOf S w c t cur ps ∧ ps.flatten = L
theorem EndAt.later {L : List Line} (h : EndAt w c d L) (hb : Below w.heap.size w w') : EndAt w' c d L := by
  obtain ⟨⟨v, h1, h2⟩, S, t, cur, ps, h3, h4⟩ := h
  exact ⟨⟨v, h1.later hb, h2⟩, S, t, cur, ps, h3.later hb, h4⟩
theorem type_end {s : List Line × Line} {b : Line} {nd m : Nat} (h : TypeAt B w c d s b nd) (hok : TyOk m s b) (hm : m ≤ 900) (hs : s.1.length ≤ 900) (hBw : B ≤ w.heap.size) :
    Calls Tryz.prog 13 #[.pointer (some ⟨d, 0, none⟩), .int .u8 27] w fun e w' => ∃ ao cap, e = .returned (stepV (.slice ao nd cap)) ∧ EndAt w' c d (s.1 ++ [s.2 ++ b]) ∧ Below B w w' := by
  obtain ⟨S, v, t, cu, r, was, dirty, undo, held, dn, ps, hv, rfl, hmode, hln, hcol, hdone, hc, ht, hd, hcu, hps, hfl, hS, hSc, hSd, hdn, hBc, hcd⟩ := h
  obtain ⟨ao, cap, rfl⟩ := hd.shape
  have hmany : manyS ps = s.1.length + 1 := by rw [manyS_flat, hfl, List.length_append, List.length_singleton]
  have hcd' : v.c ≠ d := Nat.ne_of_lt hcd
  have hsl := hok.2.1
  have hsh : ∀ i, (lnL (s.1 ++ [s.2 ++ b]) i).length ≤ 1000000 := fun i => by
    unfold lnL
    rw [List.getD_eq_getElem?_getD]
    cases hg : (s.1 ++ [s.2 ++ b])[i]? with
    | none => simp
    | some y => have := (hok.lines y (List.mem_of_getElem? hg)).1; simp only [Option.getD_some]; omega
  have hq : Okp (s.1 ++ [s.2 ++ b]) (s.1.length, s.2.length - 1) := by
    refine ⟨by simp, ?_⟩
    have e : lnL (s.1 ++ [s.2 ++ b]) s.1.length = s.2 ++ b := by
      unfold lnL
      rw [List.getD_eq_getElem?_getD, List.getElem?_append_right (Nat.le_refl _), Nat.sub_self]
      rfl
    show s.2.length - 1 = 0 ∨ s.2.length - 1 < (lnL (s.1 ++ [s.2 ++ b]) s.1.length).length
    rw [e, List.length_append]
    omega
  refine (visStepEsc hv hmode (fun X sl W => sl = .slice ao nd cap ∧ EndAt W v.c d (s.1 ++ [s.2 ++ b]) ∧ Below B w W) ?_).mono fun e w' ⟨sl, he, hsl, hr⟩ => ⟨ao, cap, hsl ▸ he, hr⟩
  refine (visLeave (S := S) hv hc ht (by omega) (by omega) hfl hsh hln hcol (by omega) hq hcd' hSd).mono fun e w' ⟨he, hv2, ⟨dy, ud, hc2⟩, hk2⟩ => ⟨_, he, rfl, ⟨⟨_, hv2, rfl⟩, ?_⟩, hk2.below hBw (fun i hi => by rcases hi with rfl | rfl <;> omega)⟩
  exact ⟨S, t, _, ps, ⟨hc2.c0, hc2.c1, ht.kept (hk2.mono (fun i _ hi => by rcases hi with rfl | rfl; exact hSc; exact hSd)), by omega, by omega⟩, hfl⟩
end
end Go.Proofs.YthhihondlihebaaGreatDoor
