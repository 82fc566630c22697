/- Terminals in memory, in short; two of them. -/
import Derived.Test.YtcgaaadcbhkfoaaGreatDoorVtK
import Derived.Test.YtcgaaadcbhkfoaaGreatDoorSameG
namespace Go.Proofs.YtcgaaadcbhkfoaaGreatDoor
open Go Go.Proofs Go.RowKit Go.Ink

theorem max_lt {w : World} (h : MaxAt w) : 0 < w.heap.size := by
  obtain ⟨m, h⟩ := h; exact lt_of_cell h
theorem VtStep.below {B : Nat} {w w' : World} {v gr cap ga : Nat} {os : List Nat} {pv : Value} {t t' : Tm} (h : VtStep B w v gr cap ga pv t' w') (h0 : VtAt B w v gr cap ga os pv t) : Below B w w' := by
  obtain ⟨_, _, _, hk, _⟩ := h
  exact hk.below (by have := lt_of_heap h0.head; have := h0.gt; omega) (vtS_ge h0)
theorem start_good {rows cols : Nat} (h1 : 2 ≤ rows ∧ rows ≤ 60) (h2 : 8 ≤ cols ∧ cols ≤ 132) : (Tm.start rows cols).Good := Tm.Good.start h1 h2
/-- A terminal in memory; S: its blocks. -/
def VtP (w : World) (B v : Nat) (t : Tm) (S : Nat → Prop) : Prop := ∃ gr cap ga os pv, VtAt B w v gr cap ga os pv t ∧ S = VtS v gr ga pv
theorem VtP.lt {w : World} {B v : Nat} {t : Tm} {S : Nat → Prop} (h : VtP w B v t S) : ∀ i, S i → B ≤ i ∧ i < w.heap.size := by
  obtain ⟨gr, cap, ga, os, pv, h, rfl⟩ := h
  exact fun i e => ⟨vtS_ge h i e, h.lts i e⟩
theorem VtP.kept {w w' : World} {B v : Nat} {t : Tm} {S S' : Nat → Prop} (h : VtP w B v t S) (hk : KeepT S' w w') (hn : ∀ i, S i → ¬ S' i) : VtP w' B v t S := by
  obtain ⟨gr, cap, ga, os, pv, h, rfl⟩ := h
  exact ⟨gr, cap, ga, os, pv, h.kept hk hn, rfl⟩
theorem VtP.later {w w' : World} {B v : Nat} {t : Tm} {S : Nat → Prop} (h : VtP w B v t S) (hb : Below w.heap.size w w') : VtP w' B v t S :=
  h.kept (S' := fun _ => False) (KeepT.of_below hb) (fun _ _ e => e)
theorem VtP.of_new {w : World} {rows cols : Nat} {e : Ending} {w' : World} (h : VtNew w rows cols e w') : ∃ v S, e = .returned (.pointer (some ⟨v, 0, none⟩)) ∧ VtP w' w.heap.size v (Tm.start rows cols) S ∧ Below w.heap.size w w' := by
  obtain ⟨v, gr, cap, ga, os, rfl, h, hb⟩ := h
  exact ⟨v, _, rfl, ⟨gr, cap, ga, os, _, h, rfl⟩, hb⟩
/-- What writing leaves. -/
structure FedP (w : World) (B v : Nat) (t' : Tm) (S : Nat → Prop) (w' : World) (S' : Nat → Prop) : Prop where
  vt : VtP w' B v t' S'
  keep : KeepT S w w'
  new : ∀ i, S' i → S i ∨ w.heap.size ≤ i
theorem FedP.below {w : World} {B v : Nat} {t t' : Tm} {S S' : Nat → Prop} {w' : World} (h : FedP w B v t' S w' S') (h0 : VtP w B v t S) (hB : B ≤ w.heap.size) : Below B w w' :=
  h.keep.below hB (fun i e => (h0.lt i e).1)
/-- Two that share no block share none behind the one's writing. -/
theorem FedP.apart {w : World} {B v B2 v2 : Nat} {t' t2 : Tm} {S S' S2 : Nat → Prop} {w' : World} (h : FedP w B v t' S w' S') (h2 : VtP w B2 v2 t2 S2) (ha : ∀ i, S i → ¬ S2 i) : (∀ i, S' i → ¬ S2 i) ∧ VtP w' B2 v2 t2 S2 := by
  refine ⟨fun i e e2 => ?_, h2.kept h.keep (fun i e e' => ha i e' e)⟩
  rcases h.new i e with h' | h'
  · exact ha i h' e2
  · have := (h2.lt i e2).2; omega
theorem feedP {w : World} {B v : Nat} {t : Tm} {S : Nat → Prop} (h : VtP w B v t S) (hg : t.Good) (s : List UInt8) (hl : t.par.length + s.length ≤ 1000000) (hm : MaxAt w) (hB : 0 < B) :
    Calls Tryz.prog 10 #[.pointer (some ⟨v, 0, none⟩), .string ⟨s.toArray⟩] w fun e w' => e = .returned (.int .i64 0) ∧ ∃ S', FedP w B v (t.feed s) S w' S' := by
  obtain ⟨gr, cap, ga, os, pv, h, rfl⟩ := h
  refine (feed_any h hg s hl hm hB).mono ?_
  rintro e w' ⟨he, os', pv', h1, h2, h3⟩
  refine ⟨he, _, ⟨⟨gr, cap, ga, os', pv', h1, rfl⟩, h2, fun i e => ?_⟩⟩
  rcases e with e | e | e | e
  · exact .inl (.inl e)
  · exact .inl (.inr (.inl e))
  · exact .inl (.inr (.inr (.inl e)))
  · rcases h3 i e with h | h
    · exact .inl (.inr (.inr (.inr h)))
    · exact .inr h
theorem gridP {w : World} {B v : Nat} {t : Tm} {S : Nat → Prop} (h : VtP w B v t S) (hg : t.Good) :
    Calls Tryz.prog 29 #[.pointer (some ⟨v, 0, none⟩)] w (GridPost w t.grd) := by
  obtain ⟨gr, cap, ga, os, pv, h, rfl⟩ := h
  exact grid_any h hg
theorem Tm.Good.ok {t : Tm} (h : t.Good) : t.grd.ok = true := by
  have h1 := h.rows; have h2 := h.cols; have h3 := h.many; have h4 := h.row; have h5 := h.col
  have hw : t.cells.any (wrongB (t.cols : Int)) = false := by
    rw [Bool.eq_false_iff]
    intro hh
    rw [List.any_eq_true] at hh
    obtain ⟨l, hl, hb⟩ := hh
    unfold wrongB at hb
    rw [h.each l hl] at hb
    simp only [bne_self_eq_false, Bool.false_or, List.any_eq_true] at hb
    obtain ⟨c, hc, hodd⟩ := hb
    have hcc := h.cell l hl c hc
    unfold oddB at hodd
    simp only [Bool.or_eq_true, decide_eq_true_eq] at hodd
    have e1 := UInt8.le_iff_toNat_le.1 hcc.1
    have e2 := UInt8.le_iff_toNat_le.1 hcc.2
    rcases hodd with e | e
    · have := UInt8.lt_iff_toNat_lt.1 e; omega
    · have := UInt8.lt_iff_toNat_lt.1 e; omega
  show (sizedB t.rows t.cols && !((t.cells.length : Int) != t.rows) && inB t.row t.rows && inB t.col t.cols && !(t.cells.any (wrongB t.cols))) = true
  rw [hw, h3]
  simp [sizedB, inB]
  omega
/-- A grid that is handed back may be. -/
theorem checkP {w : World} {t : Tm} (hg : t.Good) (ao : Option Addr) (cap : Nat) (hs : SlOf IsBytes w ao cap t.cells) :
    Calls Tryz.prog 8 #[gridV t.grd ao cap] w fun e w' => e = .returned (.int .i64 0) ∧ Below w.heap.size w w' := by
  have h := check_any t.grd ao cap w hs
  rw [hg.ok] at h
  exact h
theorem feed_reset_len (t : Tm) : (t.feed [27, 91, 109]) = t.at0 [] := feed_reset t
/-- One terminal, made by the call that began in w0. -/
structure OneP (w0 w : World) (B v : Nat) (t : Tm) (S : Nat → Prop) : Prop where
  a : VtP w B v t S
  g : t.Good
  m : MaxAt w
  below : Below w0.heap.size w0 w
  lo : w0.heap.size ≤ B
  ml : 0 < B
  hi : B ≤ w.heap.size
theorem OneP.later {w0 w w' : World} {B v : Nat} {t : Tm} {S : Nat → Prop} (h : OneP w0 w B v t S) (hb : Below w.heap.size w w') : OneP w0 w' B v t S :=
  ⟨h.a.later hb, h.g, h.m.later hb, h.below.trans (hb.mono h.below.size), h.lo, h.ml, Nat.le_trans h.hi hb.size⟩
theorem OneP.drewN {w0 w : World} {B v : Nat} {t : Tm} {S : Nat → Prop} (h : OneP w0 w B v t S) (n : Nat) : OneP w0 (w.drewN n) B v t S := h.later (below_drewN (Below.refl _ _) n)
theorem OneP.fed {w0 w w' : World} {B v : Nat} {t : Tm} {S S' : Nat → Prop} {s : List UInt8} (h : OneP w0 w B v t S) (hf : FedP w B v (t.feed s) S w' S') : OneP w0 w' B v (t.feed s) S' :=
  ⟨hf.vt, h.g.feed s, h.m.kept hf.keep (fun e => by have := (h.a.lt _ e).1; have := h.ml; omega), h.below.trans ((hf.below h.a h.hi).mono h.lo), h.lo, h.ml, Nat.le_trans h.hi hf.keep.size⟩
theorem OneP.feed {w0 w : World} {B v : Nat} {t : Tm} {S : Nat → Prop} (h : OneP w0 w B v t S) (s : List UInt8) (hl : t.par.length + s.length ≤ 1000000) :
    Calls Tryz.prog 10 #[.pointer (some ⟨v, 0, none⟩), .string ⟨s.toArray⟩] w fun e w' => e = .returned (.int .i64 0) ∧ ∃ S', FedP w B v (t.feed s) S w' S' :=
  feedP h.a h.g s hl h.m h.ml
theorem OneP.of_new {w0 w : World} (hb : Below w0.heap.size w0 w) (hm : MaxAt w) {rows cols : Nat} {e : Ending} {w' : World} (h : VtNew w rows cols e w') (h1 : 2 ≤ rows ∧ rows ≤ 60) (h2 : 8 ≤ cols ∧ cols ≤ 132) :
    ∃ v S, e = .returned (.pointer (some ⟨v, 0, none⟩)) ∧ OneP w0 w' w.heap.size v (Tm.start rows cols) S ∧ Below w.heap.size w w' := by
  obtain ⟨v, S, he, hv, hb'⟩ := VtP.of_new h
  exact ⟨v, S, he, ⟨hv, start_good h1 h2, hm.later hb', hb.trans (hb'.mono hb.size), hb.size, max_lt hm, hb'.size⟩, hb'⟩
/-- Two terminals that share no block. -/
structure TwoP (w0 w : World) (B v : Nat) (t : Tm) (S : Nat → Prop) (B2 v2 : Nat) (t2 : Tm) (S2 : Nat → Prop) : Prop where
  a : OneP w0 w B v t S
  b : OneP w0 w B2 v2 t2 S2
  ap : ∀ i, S i → ¬ S2 i
theorem TwoP.later {w0 w w' : World} {B v : Nat} {t : Tm} {S : Nat → Prop} {B2 v2 : Nat} {t2 : Tm} {S2 : Nat → Prop} (h : TwoP w0 w B v t S B2 v2 t2 S2) (hb : Below w.heap.size w w') : TwoP w0 w' B v t S B2 v2 t2 S2 := ⟨h.a.later hb, h.b.later hb, h.ap⟩
theorem OneP.other {w0 w w' : World} {B v : Nat} {t t' : Tm} {S S' : Nat → Prop} {B2 v2 : Nat} {t2 : Tm} {S2 : Nat → Prop} (h : OneP w0 w B2 v2 t2 S2) (ha : OneP w0 w B v t S) (hf : FedP w B v t' S w' S') (hap : ∀ i, S i → ¬ S2 i) : OneP w0 w' B2 v2 t2 S2 :=
  ⟨(hf.apart h.a hap).2, h.g, h.m.kept hf.keep (fun e => by have := (ha.a.lt _ e).1; have := ha.ml; omega), h.below.trans ((hf.below ha.a ha.hi).mono ha.lo), h.lo, h.ml, Nat.le_trans h.hi hf.keep.size⟩
theorem TwoP.fedA {w0 w w' : World} {B v : Nat} {t : Tm} {S S' : Nat → Prop} {B2 v2 : Nat} {t2 : Tm} {S2 : Nat → Prop} {s : List UInt8} (h : TwoP w0 w B v t S B2 v2 t2 S2) (hf : FedP w B v (t.feed s) S w' S') : TwoP w0 w' B v (t.feed s) S' B2 v2 t2 S2 :=
  ⟨h.a.fed hf, h.b.other h.a hf h.ap, (hf.apart h.b.a h.ap).1⟩
theorem TwoP.swap {w0 w : World} {B v : Nat} {t : Tm} {S : Nat → Prop} {B2 v2 : Nat} {t2 : Tm} {S2 : Nat → Prop} (h : TwoP w0 w B v t S B2 v2 t2 S2) : TwoP w0 w B2 v2 t2 S2 B v t S := ⟨h.b, h.a, fun i e e' => h.ap i e' e⟩
theorem OneP.kept {w0 w w' : World} {B v : Nat} {t : Tm} {S S' : Nat → Prop} (h : OneP w0 w B v t S) (hk : KeepT S' w w') (hn : ∀ i, S i → ¬ S' i) (hlo : ∀ i, S' i → B ≤ i) : OneP w0 w' B v t S :=
  ⟨h.a.kept hk hn, h.g, h.m.kept hk (fun e => by have := hlo _ e; have := h.ml; omega), h.below.trans ((hk.below h.hi hlo).mono h.lo), h.lo, h.ml, Nat.le_trans h.hi hk.size⟩
theorem OneP.slt {w0 w : World} {B v : Nat} {t : Tm} {S : Nat → Prop} (h : OneP w0 w B v t S) : ∀ i, S i → i < w.heap.size := fun i e => (h.a.lt i e).2
end Go.Proofs.YtcgaaadcbhkfoaaGreatDoor
