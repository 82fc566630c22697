/- An interpreter of the model's code, run by the kernel at closed calls: its lists, heap, values, pure operations. No program in sight. -/
import Derived.Test.YtnblgomjmmnkaaaGreatDoorEvA
import Derived.Laws.Sem
import Derived.Laws.Strings
import Derived.Laws.StructEq
import Derived.Laws.Cells
import Derived.Laws.Slices
import Derived.Laws.Tables
set_option linter.unusedVariables false
set_option linter.unusedSimpArgs false
namespace Go.Ev
open Go
variable {α β γ : Type}

theorem forceNat_eq (n : Nat) (k : Nat → α) : forceNat n k = k n := by cases n <;> rfl
theorem forceInt_eq (n : Int) (k : Int → α) : forceInt n k = k n := by cases n <;> simp [forceInt, forceNat_eq]
theorem lget_eq (n : Nat) (l : List α) (k : α → β) (e : β) : lget n l k e = match l[n]? with | some x => k x | none => e := by
  induction n generalizing l with
  | zero => cases l <;> rfl
  | succ n ih => cases l with
    | nil => rfl
    | cons x l => exact ih l
theorem lget_ok {n : Nat} {l : List α} {k : α → R γ} {c : Nat} {r : γ} (h : lget n l k (.no c) = .ok r) : ∃ x, l[n]? = some x ∧ k x = .ok r := by
  rw [lget_eq] at h
  split at h
  · exact ⟨_, by assumption, h⟩
  · cases h
theorem lset_ok {n : Nat} {l : List α} {v : α} {k : List α → R γ} {c : Nat} {r : γ} (h : lset n l v k (.no c) = .ok r) : n < l.length ∧ k (l.set n v) = .ok r := by
  induction n generalizing l k with
  | zero => cases l with
    | nil => cases h
    | cons x l => exact ⟨by simp, h⟩
  | succ n ih => cases l with
    | nil => cases h
    | cons x l =>
      obtain ⟨h1, h2⟩ := ih (l := l) h
      exact ⟨by simpa using h1, by simpa using h2⟩
theorem lmod_ok {n : Nat} {l : List α} {f : α → (α → R γ) → R γ} {k : List α → R γ} {c : Nat} {r : γ} (h : lmod n l f k (.no c) = .ok r) :
    ∃ x, l[n]? = some x ∧ f x (fun y => k (l.set n y)) = .ok r := by
  induction n generalizing l k with
  | zero => cases l with
    | nil => cases h
    | cons x l => exact ⟨x, rfl, h⟩
  | succ n ih => cases l with
    | nil => cases h
    | cons x l =>
      obtain ⟨y, h1, h2⟩ := ih (l := l) h
      exact ⟨y, by simpa using h1, by simpa using h2⟩
theorem ltake_ok {n : Nat} {l : List α} {k : List α → R γ} {c : Nat} {r : γ} (h : ltake (.no c) n l k = .ok r) : n ≤ l.length ∧ k (l.take n) = .ok r := by
  induction n generalizing l k with
  | zero => exact ⟨by simp, h⟩
  | succ n ih => cases l with
    | nil => cases h
    | cons x l =>
      obtain ⟨h1, h2⟩ := ih (l := l) h
      exact ⟨by simpa using h1, by simpa using h2⟩
theorem ldrop_ok {n : Nat} {l : List α} {k : List α → R γ} {c : Nat} {r : γ} (h : ldrop (.no c) n l k = .ok r) : n ≤ l.length ∧ k (l.drop n) = .ok r := by
  induction n generalizing l with
  | zero => exact ⟨by simp, h⟩
  | succ n ih => cases l with
    | nil => cases h
    | cons x l =>
      obtain ⟨h1, h2⟩ := ih (l := l) h
      exact ⟨by simpa using h1, by simpa using h2⟩
theorem lapp_eq (xs ys : List α) (k : List α → β) : lapp xs ys k = k (xs ++ ys) := by
  induction xs generalizing k with
  | nil => rfl
  | cons x xs ih => exact ih _
theorem lover_ok {xs l : List α} {k : List α → R γ} {c : Nat} {r : γ} (h : lover (.no c) xs l k = .ok r) : xs.length ≤ l.length ∧ k (xs ++ l.drop xs.length) = .ok r := by
  induction xs generalizing l k with
  | nil => exact ⟨by simp, by simpa [lover] using h⟩
  | cons x xs ih => cases l with
    | nil => cases h
    | cons y l =>
      obtain ⟨h1, h2⟩ := ih (l := l) h
      exact ⟨by simpa using h1, by simpa using h2⟩
theorem lsplice_ok {n : Nat} {xs l : List α} {k : List α → R γ} {c : Nat} {r : γ} (h : lsplice (.no c) n xs l k = .ok r) :
    n + xs.length ≤ l.length ∧ k (l.take n ++ xs ++ l.drop (n + xs.length)) = .ok r := by
  induction n generalizing l k with
  | zero =>
    obtain ⟨h1, h2⟩ := lover_ok (l := l) h
    exact ⟨by omega, by simpa using h2⟩
  | succ n ih => cases l with
    | nil => cases h
    | cons y l =>
      obtain ⟨h1, h2⟩ := ih (l := l) h
      refine ⟨by simp; omega, ?_⟩
      rw [show n + 1 + xs.length = (n + xs.length) + 1 by omega]
      simpa using h2
theorem lalt_ok {n : Nat} {l : List α} {f : Option α → (α → R γ) → R γ} {k : List α → R γ} {c : Nat} {r : γ} (h : lalt n l f k (.no c) = .ok r) :
    n ≤ l.length ∧ f l[n]? (fun y => k (if n < l.length then l.set n y else l ++ [y])) = .ok r := by
  induction n generalizing l k with
  | zero => cases l with
    | nil => exact ⟨by simp, h⟩
    | cons x l => exact ⟨by simp, h⟩
  | succ n ih => cases l with
    | nil => cases h
    | cons x l =>
      obtain ⟨h1, h2⟩ := ih (l := l) h
      refine ⟨by simpa using h1, ?_⟩
      have e : ∀ y, (if n + 1 < (x :: l).length then (x :: l).set (n + 1) y else (x :: l) ++ [y]) = x :: (if n < l.length then l.set n y else l ++ [y]) := by
        intro y
        simp only [List.length_cons, Nat.add_lt_add_iff_right]
        split <;> simp
      have e1 : (x :: l)[n + 1]? = l[n]? := by simp
      rw [e1]
      simp only [e]
      exact h2
theorem llen_eq (l : List α) (k : Nat → β) : llen l k = k l.length := by
  have : ∀ (l : List α) (n : Nat), List.rec (motive := fun _ => Nat → β) (fun n => k n) (fun _ _ ih n => ih (Nat.succ n)) l n = k (n + l.length) := by
    intro l
    induction l with
    | nil => intro n; rfl
    | cons x l ih => intro n; exact (ih (n + 1)).trans (by simp; congr 1; omega)
  exact (this l 0).trans (by simp)
theorem repl_eq (n : Nat) (x : List α) : repl n x = (List.replicate n x).flatten := by
  induction n with
  | zero => rfl
  | succ n ih => simp [List.replicate_succ]; rw [← ih]; rfl

/-- element n of rows of 8 -/
theorem alt_get (n : Nat) (l : List α) (y : α) (hn : n ≤ l.length) (j : Nat) : (if n < l.length then l.set n y else l ++ [y])[j]? = if j = n then some y else l[j]? := by
  split
  · rename_i h
    rw [List.getElem?_set]
    by_cases hj : j = n
    · subst hj; simp [h]
    · simp [hj, Ne.symm hj]
  · rename_i h
    have hl : l.length = n := by omega
    rw [List.getElem?_append]
    by_cases hj : j = n
    · subst hj; simp [hl]
    · simp only [hj, if_false]
      split
      · rfl
      · rw [List.getElem?_eq_none (by simp; omega), List.getElem?_eq_none (by omega)]

/-! temporaries -/
def tgetP (c : Tm) (k : Nat) : Option V := (c[k / 8]?).bind (·[k % 8]?)
theorem tget_eq (c : Tm) (k : Nat) (K : V → β) (e : β) : tget c k K e = match tgetP c k with | some v => K v | none => e := by
  unfold tget tgetP
  simp only [lget_eq, show Nat.div k 8 = k / 8 from rfl, show Nat.mod k 8 = k % 8 from rfl]
  cases c[k / 8]? with
  | none => rfl
  | some l => simp only [Option.bind_some]; cases l[k % 8]? <;> rfl
theorem tget_ok {c : Tm} {k : Nat} {K : V → R γ} {e : Nat} {r : γ} (h : tget c k K (.no e) = .ok r) : ∃ v, tgetP c k = some v ∧ K v = .ok r := by
  rw [tget_eq] at h
  split at h
  · exact ⟨_, by assumption, h⟩
  · cases h
theorem tset_ok {c : Tm} {k : Nat} {v : V} {K : Tm → R γ} {e : Nat} {r : γ} (h : tset c k v K (.no e) = .ok r) :
    ∃ c', K c' = .ok r ∧ (∀ j, tgetP c' j = if j = k then some v else tgetP c j) ∧ (tgetP c k).isSome := by
  obtain ⟨l, hl, h1⟩ := lmod_ok h
  obtain ⟨h2, h3⟩ := lset_ok h1
  simp only [show Nat.div k 8 = k / 8 from rfl, show Nat.mod k 8 = k % 8 from rfl] at hl h2 h3
  have hlt : k / 8 < c.length := (List.getElem?_eq_some_iff.1 hl).1
  refine ⟨_, h3, fun j => ?_, ?_⟩
  · unfold tgetP
    rw [List.getElem?_set]
    by_cases hj : k / 8 = j / 8
    · rw [if_pos hj, if_pos hlt]
      simp only [Option.bind_some]
      rw [List.getElem?_set]
      by_cases hm : k % 8 = j % 8
      · have : j = k := by omega
        rw [if_pos hm, if_pos h2, if_pos this]
      · have : j ≠ k := by rintro rfl; exact hm rfl
        rw [if_neg hm, if_neg this, ← hj, hl]
        rfl
    · have : j ≠ k := by rintro rfl; exact hj rfl
      rw [if_neg hj, if_neg this]
  · unfold tgetP
    rw [hl]
    simp only [Option.bind_some]
    simp [List.getElem?_eq_getElem h2]

/-! heap -/
def tgetB (t : List (List (List (Option Blk)))) (b : Nat) : Option Blk := (((t[b / 64]?).bind (·[b % 64 / 8]?)).bind (·[b % 8]?)).bind id
def H.get (h : H) (b : Nat) : Option Blk := tgetB h.t b
theorem hget_eq (h : H) (b : Nat) (K : Blk → β) (e : β) : hget h b K e = match h.get b with | some v => K v | none => e := by
  unfold hget H.get tgetB
  simp only [lget_eq, show Nat.div b 64 = b / 64 from rfl, show Nat.mod b 64 = b % 64 from rfl, show Nat.div (b % 64) 8 = b % 64 / 8 from rfl, show Nat.mod b 8 = b % 8 from rfl]
  cases h.t[b / 64]? with
  | none => rfl
  | some l =>
    simp only [Option.bind_some]
    cases l[b % 64 / 8]? with
    | none => rfl
    | some l =>
      simp only [Option.bind_some]
      cases l[b % 8]? with
      | none => rfl
      | some x => cases x <;> rfl
theorem hget_ok {h : H} {b : Nat} {K : Blk → R γ} {e : Nat} {r : γ} (h0 : hget h b K (.no e) = .ok r) : ∃ x, h.get b = some x ∧ K x = .ok r := by
  rw [hget_eq] at h0
  split at h0
  · exact ⟨_, by assumption, h0⟩
  · cases h0
theorem optL_eq (o : Option (List α)) (k : List α → β) : optL o k = k (o.getD []) := by cases o <;> rfl
theorem tput_ok {t : List (List (List (Option Blk)))} {b : Nat} {x : Option Blk} {K : List (List (List (Option Blk))) → R γ} {e : Nat} {r : γ} (h : tput t b x K (.no e) = .ok r) :
    ∃ t', K t' = .ok r ∧ ∀ j, tgetB t' j = if j = b then x else tgetB t j := by
  unfold tput at h
  obtain ⟨h1, h⟩ := lalt_ok h
  rw [optL_eq] at h
  obtain ⟨h2, h⟩ := lalt_ok h
  rw [optL_eq] at h
  obtain ⟨h3, h⟩ := lalt_ok h
  refine ⟨_, h, fun j => ?_⟩
  change b / 64 ≤ t.length at h1
  generalize hl : (t[Nat.div b 64]?).getD [] = l at *
  generalize hm : (l[Nat.div (Nat.mod b 64) 8]?).getD [] = m at *
  have hl' : (t[b / 64]?).getD [] = l := hl
  have hm' : (l[b % 64 / 8]?).getD [] = m := hm
  change b % 64 / 8 ≤ l.length at h2
  change b % 8 ≤ m.length at h3
  unfold tgetB
  rw [show (Nat.div b 64) = b / 64 from rfl, show Nat.div (Nat.mod b 64) 8 = b % 64 / 8 from rfl, show Nat.mod b 8 = b % 8 from rfl, alt_get _ _ _ h1]
  by_cases e1 : j / 64 = b / 64
  · rw [if_pos e1]
    simp only [Option.bind_some]
    rw [alt_get _ _ _ h2]
    by_cases e2 : j % 64 / 8 = b % 64 / 8
    · rw [if_pos e2]
      simp only [Option.bind_some]
      rw [alt_get _ _ _ h3]
      by_cases e3 : j % 8 = b % 8
      · have : j = b := by omega
        rw [if_pos e3, if_pos this]
        simp
      · have : j ≠ b := fun hh => e3 (by rw [hh])
        rw [if_neg e3, if_neg this, e1, e2]
        cases ht : t[b / 64]? with
        | none => rw [ht] at hl'; subst hl'; simp at hm'; subst hm'; simp
        | some l' =>
          rw [ht] at hl'
          simp at hl'
          subst hl'
          simp only [Option.bind_some]
          cases hk : l'[b % 64 / 8]? with
          | none => rw [hk] at hm'; simp at hm'; subst hm'; simp
          | some m' => rw [hk] at hm'; simp at hm'; subst hm'; simp
    · have : j ≠ b := fun hh => e2 (by rw [hh])
      rw [if_neg e2, if_neg this, e1]
      cases ht : t[b / 64]? with
      | none => rw [ht] at hl'; subst hl'; simp
      | some l' => rw [ht] at hl'; simp at hl'; subst hl'; simp
  · have : j ≠ b := fun hh => e1 (by rw [hh])
    rw [if_neg e1, if_neg this]
theorem hset_ok {h : H} {b : Nat} {x : Option Blk} {K : H → R γ} {e : Nat} {r : γ} (h0 : hset h b x K (.no e) = .ok r) :
    ∃ h', K h' = .ok r ∧ h'.next = h.next ∧ h'.ds = h.ds ∧ ∀ j, h'.get j = if j = b then x else h.get j := by
  obtain ⟨t', h1, h2⟩ := tput_ok h0
  exact ⟨_, h1, rfl, rfl, h2⟩
theorem hnew_ok {h : H} {x : Option Blk} {K : Nat → H → R γ} {e : Nat} {r : γ} (h0 : hnew h x K (.no e) = .ok r) :
    ∃ h', K h.next h' = .ok r ∧ h'.next = h.next + 1 ∧ h'.ds = h.ds ∧ ∀ j, h'.get j = if j = h.next then x else h.get j := by
  unfold hnew at h0
  rw [forceNat_eq, forceNat_eq] at h0
  obtain ⟨t', h1, h2⟩ := tput_ok h0
  exact ⟨_, h1, rfl, rfl, h2⟩
theorem hres_ok {m : Nat} {h : H} {K : H → R γ} {e : Nat} {r : γ} (h0 : hres m h K (.no e) = .ok r) :
    ∃ h', K h' = .ok r ∧ h'.next = h.next + m ∧ h'.ds = h.ds ∧ ∀ j, h'.get j = if h.next ≤ j ∧ j < h.next + m then none else h.get j := by
  induction m generalizing h with
  | zero => exact ⟨h, h0, rfl, rfl, fun j => by rw [if_neg (by omega)]⟩
  | succ m ih =>
    obtain ⟨h1, a1, a2, a3, a4⟩ := hnew_ok (h := h) (K := fun _ h => hres m h K (.no e)) h0
    obtain ⟨h2, b1, b2, b3, b4⟩ := ih a1
    refine ⟨h2, b1, by omega, by rw [b3, a3], fun j => ?_⟩
    rw [b4 j, a4 j, a2]
    by_cases hj : j = h.next
    · subst hj
      rw [if_neg (by omega), if_pos rfl, if_pos (by omega)]
    · by_cases hk : h.next + 1 ≤ j ∧ j < h.next + 1 + m
      · rw [if_pos hk, if_pos (by omega)]
      · rw [if_neg hk, if_neg hj, if_neg (by omega)]
end Go.Ev
namespace Go.Ev
open Go
/-- where a block of the evaluator's lies: its real number, the cell where it begins, how many elements it has room for -/
structure GB where
  addr : Nat
  off : Nat
  cap : Nat
abbrev Gh := List (Option GB)
/-- the bytes of a number -/
def digs : Nat → Nat → List UInt8
  | 0, _ => []
  | n + 1, c => UInt8.ofNat (c / 256 ^ n % 256) :: digs n c
theorem digs_length (n c : Nat) : (digs n c).length = n := by induction n with
  | zero => rfl
  | succ n ih => simp [digs, ih]

section
variable (ξ : Nat → Value)
mutual
def Den (G : Gh) : V → Value → Prop
  | .bool b, x => x = .bool b
  | .int k n, x => x = .int k n
  | .str n c, x => c < 256 ^ n ∧ x = .string ⟨(digs n c).toArray⟩
  | .pnil, x => x = .pointer none
  | .ptr b off, x => ∃ g, G[b]? = some (some g) ∧ x = .pointer (some ⟨g.addr, g.off + off, none⟩)
  | .snil, x => x = .slice none 0 0
  | .slice b off len cap, x => ∃ g, G[b]? = some (some g) ∧ x = .slice (some ⟨g.addr, g.off + off, none⟩) len cap
  | .gsl b off len lb cut, x => ∃ g, G[b]? = some (some g) ∧ cut + lb ≤ g.cap ∧ len ≤ lb ∧ x = .slice (some ⟨g.addr, g.off + off, none⟩) len (g.cap - cut)
  | .sle b off cut lo size, x => ∃ g, G[b]? = some (some g) ∧ cut + lo ≤ g.cap ∧ x = .slice (some ⟨g.addr, if g.cap - cut = lo then g.off + off else g.off + off + lo * size, none⟩) 0 (g.cap - cut - lo)
  | .fn f first cap, x => ∃ a b, x = .func f a b ∧ DenL G first a.toList ∧ DenL G cap b.toList
  | .fnil, x => x = .nilFunc
  | .iface t v, x => ∃ y, x = .iface t y ∧ Den G v y
  | .inil, x => x = .nilIface
  | .agg l, x => ∃ a : Array Value, x = .agg a ∧ DenL G l a.toList
  | .tup l, x => ∃ a : Array Value, x = .tuple a ∧ DenL G l a.toList
  | .mnil, x => x = .map none
  | .map b, x => ∃ g, G[b]? = some (some g) ∧ x = .map (some g.addr)
  | .opq i, x => x = ξ i ∧ ∀ cs, x ≠ .agg cs
  | .junk, x => ∃ k n, x = .int k n
def DenL (G : Gh) : List V → List Value → Prop
  | [], l => l = []
  | v :: vs, l => ∃ x xs, l = x :: xs ∧ Den G v x ∧ DenL G vs xs
end
/-- more is known -/
def Le (G G' : Gh) : Prop := G.length ≤ G'.length ∧ ∀ (b : Nat) (g : GB), G[b]? = some (some g) → G'[b]? = some (some g)
theorem Le.refl (G : Gh) : Le G G := ⟨Nat.le_refl _, fun _ _ h => h⟩
theorem Le.trans {A B C : Gh} (h : Le A B) (k : Le B C) : Le A C := ⟨Nat.le_trans h.1 k.1, fun b g hb => k.2 b g (h.2 b g hb)⟩
theorem Le.append (G E : Gh) : Le G (G ++ E) := ⟨by simp, fun b g hb => by
  have hlt : b < G.length := (List.getElem?_eq_some_iff.1 hb).1
  rw [List.getElem?_append_left hlt]; exact hb⟩
variable {ξ} {G G' : Gh}
mutual
theorem Den.mono (hG : Le G G') : ∀ {v : V} {x : Value}, Den ξ G v x → Den ξ G' v x
  | .bool _, _, h | .int _ _, _, h | .pnil, _, h | .snil, _, h | .fnil, _, h | .inil, _, h | .mnil, _, h | .opq _, _, h => by simpa [Den] using h
  | .str _ _, _, h => by simpa [Den] using h
  | .junk, _, h => by simpa [Den] using h
  | .ptr _ _, _, h => by simp only [Den] at h ⊢; obtain ⟨g, h1, h2⟩ := h; exact ⟨g, hG.2 _ _ h1, h2⟩
  | .slice .., _, h => by simp only [Den] at h ⊢; obtain ⟨g, h1, h2⟩ := h; exact ⟨g, hG.2 _ _ h1, h2⟩
  | .gsl .., _, h => by simp only [Den] at h ⊢; obtain ⟨g, h1, h2⟩ := h; exact ⟨g, hG.2 _ _ h1, h2⟩
  | .sle .., _, h => by simp only [Den] at h ⊢; obtain ⟨g, h1, h2⟩ := h; exact ⟨g, hG.2 _ _ h1, h2⟩
  | .map _, _, h => by simp only [Den] at h ⊢; obtain ⟨g, h1, h2⟩ := h; exact ⟨g, hG.2 _ _ h1, h2⟩
  | .fn _ _ _, _, h => by simp only [Den] at h ⊢; obtain ⟨a, b, h1, h2, h3⟩ := h; exact ⟨a, b, h1, DenL.mono hG h2, DenL.mono hG h3⟩
  | .iface _ _, _, h => by simp only [Den] at h ⊢; obtain ⟨y, h1, h2⟩ := h; exact ⟨y, h1, Den.mono hG h2⟩
  | .agg _, _, h => by simp only [Den] at h ⊢; obtain ⟨a, h1, h2⟩ := h; exact ⟨a, h1, DenL.mono hG h2⟩
  | .tup _, _, h => by simp only [Den] at h ⊢; obtain ⟨a, h1, h2⟩ := h; exact ⟨a, h1, DenL.mono hG h2⟩
theorem DenL.mono (hG : Le G G') : ∀ {l : List V} {xs : List Value}, DenL ξ G l xs → DenL ξ G' l xs
  | [], _, h => by simpa [DenL] using h
  | _ :: _, _, h => by simp only [DenL] at h ⊢; obtain ⟨x, xs, h1, h2, h3⟩ := h; exact ⟨x, xs, h1, Den.mono hG h2, DenL.mono hG h3⟩
end
theorem DenL.length : ∀ {l : List V} {xs : List Value}, DenL ξ G l xs → xs.length = l.length
  | [], _, h => by simp only [DenL] at h; simp [h]
  | _ :: _, _, h => by simp only [DenL] at h; obtain ⟨x, xs, rfl, _, h3⟩ := h; simp [h3.length]
theorem DenL.get : ∀ {l : List V} {xs : List Value} {i : Nat} {v : V}, DenL ξ G l xs → l[i]? = some v → ∃ x, xs[i]? = some x ∧ Den ξ G v x
  | [], _, _, _, _, h => by simp at h
  | w :: _, _, 0, _, h, hi => by simp only [DenL] at h; obtain ⟨x, xs, rfl, h2, _⟩ := h; simp at hi; subst hi; exact ⟨x, rfl, h2⟩
  | _ :: _, _, i + 1, _, h, hi => by
    simp only [DenL] at h
    obtain ⟨x, xs, rfl, _, h3⟩ := h
    obtain ⟨y, hy, hd⟩ := h3.get (i := i) (by simpa using hi)
    exact ⟨y, by simpa using hy, hd⟩
theorem DenL.of_get : ∀ {l : List V} {xs : List Value}, xs.length = l.length → (∀ (i : Nat) v, l[i]? = some v → ∃ x, xs[i]? = some x ∧ Den ξ G v x) → DenL ξ G l xs
  | [], xs, hl, _ => by simp only [DenL]; exact List.length_eq_zero_iff.1 hl
  | w :: l, [], hl, _ => by simp at hl
  | w :: l, x :: xs, hl, h => by
    simp only [DenL]
    refine ⟨x, xs, rfl, ?_, DenL.of_get (by simpa using hl) (fun i v hi => ?_)⟩
    · obtain ⟨y, hy, hd⟩ := h 0 w rfl
      simp at hy; subst hy; exact hd
    · obtain ⟨y, hy, hd⟩ := h (i + 1) v (by simpa using hi)
      exact ⟨y, by simpa using hy, hd⟩
theorem DenL.append : ∀ {l m : List V} {xs ys : List Value}, DenL ξ G l xs → DenL ξ G m ys → DenL ξ G (l ++ m) (xs ++ ys)
  | [], _, _, _, h, k => by simp only [DenL] at h; subst h; simpa using k
  | _ :: _, _, _, _, h, k => by simp only [DenL] at h; obtain ⟨x, xs, rfl, h2, h3⟩ := h; simp only [List.cons_append, DenL]; exact ⟨x, _, rfl, h2, h3.append k⟩
theorem DenL.take {l : List V} {xs : List Value} (h : DenL ξ G l xs) (n : Nat) : DenL ξ G (l.take n) (xs.take n) :=
  .of_get (by simp [h.length]) fun i v hi => by
    rw [List.getElem?_take] at hi
    split at hi
    · obtain ⟨x, hx, hd⟩ := h.get hi
      exact ⟨x, by rw [List.getElem?_take, if_pos (by assumption)]; exact hx, hd⟩
    · cases hi
theorem DenL.drop {l : List V} {xs : List Value} (h : DenL ξ G l xs) (n : Nat) : DenL ξ G (l.drop n) (xs.drop n) :=
  .of_get (by simp [h.length]) fun i v hi => by
    rw [List.getElem?_drop] at hi
    obtain ⟨x, hx, hd⟩ := h.get hi
    exact ⟨x, by rw [List.getElem?_drop]; exact hx, hd⟩
theorem DenL.cons {v : V} {x : Value} {l : List V} {xs : List Value} (h : Den ξ G v x) (k : DenL ξ G l xs) : DenL ξ G (v :: l) (x :: xs) := by simp only [DenL]; exact ⟨x, xs, rfl, h, k⟩
theorem DenL.nil : DenL ξ G [] [] := by simp [DenL]
theorem DenL.one {v : V} {x : Value} (h : Den ξ G v x) : DenL ξ G [v] [x] := .cons h .nil

/-! blocks -/
def Entries (ξ : Nat → Value) (G : Gh) (es : List (V × V × Nat)) (xs : List MapEntry) : Prop :=
  xs.length = es.length ∧ ∀ (i : Nat) k v s, es[i]? = some (k, v, s) → ∃ e, xs[i]? = some e ∧ Den ξ G k e.key ∧ Den ξ G v e.val ∧ e.born = s
def Room (P : Program) (g : GB) (n size el : Nat) (fz lo hi : Nat) : BK → Prop
  | .own => g.off = 0 ∧ size = n ∧ (hi ≤ fz ∨ hi = lo)
  | .grow => g.off + g.cap * P.cellsOf el ≤ size ∧ (hi ≤ g.off + fz ∨ hi = lo)
  | .conv => g.off + g.cap * P.cellsOf el ≤ size ∧ (hi ≤ g.off + fz ∨ hi ≤ lo ∨ size ≤ lo)
  | .ro => g.off = 0
def BRep (P : Program) (ξ : Nat → Value) (G : Gh) (g : GB) : Blk → Obj → Prop
  | .cells cs el k fz, o => ∃ (arr : Array Value) (lo hi : Nat), o = .cells arr el (lo, hi) ∧ (∀ i v, cs[i]? = some v → ∃ x, arr[g.off + i]? = some x ∧ Den ξ G v x) ∧ g.off + cs.length ≤ arr.size ∧ Room P g cs.length arr.size el fz lo hi k
  | .map es c, o => ∃ xs : Array MapEntry, o = .map xs c ∧ Entries ξ G es xs.toList
  | .siter n c p, o => g.off = 0 ∧ c < 256 ^ n ∧ o = .stringIter ⟨(digs n c).toArray⟩ p
def Blk.wr : Blk → Prop
  | .cells _ _ .ro _ => False
  | _ => True
theorem BRep.mono {P : Program} (hG : Le G G') {g : GB} {x : Blk} {o : Obj} (h : BRep P ξ G g x o) : BRep P ξ G' g x o := by
  cases x with
  | cells cs el k fz =>
    obtain ⟨arr, lo, hi, h1, h2, h3, h4⟩ := h
    exact ⟨arr, lo, hi, h1, fun i v hv => let ⟨x, hx, hd⟩ := h2 i v hv; ⟨x, hx, hd.mono hG⟩, h3, h4⟩
  | map es c =>
    obtain ⟨xs, h1, h2, h3⟩ := h
    exact ⟨xs, h1, h2, fun i k v s hi => let ⟨e, he, hk, hv, hs⟩ := h3 i k v s hi; ⟨e, he, hk.mono hG, hv.mono hG, hs⟩⟩
  | siter n c p => exact h
/-- the evaluator's heap stands for the world's -/
structure Rep (P : Program) (ξ : Nat → Value) (G : Gh) (h : H) (w : World) : Prop where
  len : G.length = h.next
  lt : ∀ (b : Nat) (g : GB), G[b]? = some (some g) → g.addr < w.heap.size
  blk : ∀ (b : Nat) (x : Blk), h.get b = some x → ∃ (g : GB) (o : Obj), G[b]? = some (some g) ∧ w.heap[g.addr]? = some o ∧ BRep P ξ G g x o
  inj : ∀ (b b' : Nat) (x x' : Blk) (g g' : GB), h.get b = some x → h.get b' = some x' → G[b]? = some (some g) → G[b']? = some (some g') → g.addr = g'.addr → b = b'
/-- block r may be written -/
def Wr (G : Gh) (h : H) (r : Nat) : Prop := ∃ (b : Nat) (x : Blk) (g : GB), h.get b = some x ∧ x.wr ∧ G[b]? = some (some g) ∧ g.addr = r
/-- block r is known -/
def Kn (G : Gh) (h : H) (r : Nat) : Prop := ∃ (b : Nat) (x : Blk) (g : GB), h.get b = some x ∧ G[b]? = some (some g) ∧ g.addr = r
/-- what a step may do -/
structure Step (G : Gh) (h : H) (w : World) (G' : Gh) (h' : H) (w' : World) : Prop where
  os : w'.os = w.os
  tape : w'.tape = w.tape
  output : w'.output = w.output
  size : w.heap.size ≤ w'.heap.size
  keep : ∀ r, r < w.heap.size → ¬ Wr G h r → w'.heap[r]? = w.heap[r]?
  wr : ∀ r, r < w.heap.size → Wr G' h' r → Wr G h r
  kn : ∀ r, r < w.heap.size → Kn G' h' r → Kn G h r
  pre : ∃ E, G' = G ++ E
theorem Step.le {h h' : H} {w w' : World} (s : Step G h w G' h' w') : Le G G' := by obtain ⟨E, rfl⟩ := s.pre; exact Le.append G E
theorem Step.refl (G : Gh) (h : H) (w : World) : Step G h w G h w := ⟨rfl, rfl, rfl, Nat.le_refl _, fun _ _ _ => rfl, fun _ _ h => h, fun _ _ h => h, [], by simp⟩
theorem Step.trans {A B C : Gh} {a b c : H} {u v w : World} (s : Step A a u B b v) (t : Step B b v C c w) : Step A a u C c w :=
  ⟨t.os.trans s.os, t.tape.trans s.tape, t.output.trans s.output, Nat.le_trans s.size t.size,
   fun r hr hn => (t.keep r (Nat.lt_of_lt_of_le hr s.size) (fun hw => hn (s.wr r hr hw))).trans (s.keep r hr hn),
   fun r hr hw => s.wr r hr (t.wr r (Nat.lt_of_lt_of_le hr s.size) hw),
   fun r hr hw => s.kn r hr (t.kn r (Nat.lt_of_lt_of_le hr s.size) hw),
   by obtain ⟨E, rfl⟩ := s.pre; obtain ⟨F, rfl⟩ := t.pre; exact ⟨E ++ F, by simp⟩⟩
/-- draws alone -/
theorem Step.drew {h : H} {w : World} (n : Nat) : Step G h w G h { w with drawn := n } := ⟨rfl, rfl, rfl, Nat.le_refl _, fun _ _ _ => rfl, fun _ _ h => h, fun _ _ h => h, [], by simp⟩
theorem Rep.drew {P : Program} {h : H} {w : World} (R : Rep P ξ G h w) (n : Nat) : Rep P ξ G h { w with drawn := n } := ⟨R.len, R.lt, R.blk, R.inj⟩
theorem Rep.lt_next {P : Program} {h : H} {w : World} (R : Rep P ξ G h w) {b : Nat} {x : Blk} (hb : h.get b = some x) : b < h.next := by
  obtain ⟨g, o, h1, _⟩ := R.blk b x hb
  rw [← R.len]
  exact (List.getElem?_eq_some_iff.1 h1).1
/-- a new block -/
theorem Rep.new {P : Program} {h h' : H} {w : World} {x : Blk} {o : Obj} {g : GB} {d : Nat} (R : Rep P ξ G h w) (hn : h'.next = h.next + 1) (hg : ∀ j, h'.get j = if j = h.next then some x else h.get j)
    (ha : g.addr = w.heap.size) (hB : BRep P ξ G g x o) :
    Rep P ξ (G ++ [some g]) h' { w with heap := w.heap.push o, drawn := d } ∧ Step G h w (G ++ [some g]) h' { w with heap := w.heap.push o, drawn := d } := by
  have hle : Le G (G ++ [some g]) := Le.append _ _
  have hnew : (G ++ [some g])[h.next]? = some (some g) := by rw [← R.len]; simp
  have hpush : ∀ r, r < w.heap.size → (w.heap.push o)[r]? = w.heap[r]? := fun r hr => by rw [Array.getElem?_push, if_neg (by omega)]
  have hpn : (w.heap.push o)[w.heap.size]? = some o := by simp
  have hcase : ∀ b x' g', h'.get b = some x' → (G ++ [some g])[b]? = some (some g') → (b = h.next ∧ g' = g ∧ x' = x) ∨ (b ≠ h.next ∧ h.get b = some x' ∧ G[b]? = some (some g')) := by
    intro b x' g' h1 h2
    rw [hg] at h1
    by_cases hb : b = h.next
    · subst hb
      rw [if_pos rfl] at h1
      rw [hnew] at h2
      simp at h1 h2
      exact .inl ⟨rfl, h2.symm, h1.symm⟩
    · rw [if_neg hb] at h1
      have hlt := R.lt_next h1
      rw [List.getElem?_append_left (by rw [R.len]; exact hlt)] at h2
      exact .inr ⟨hb, h1, h2⟩
  refine ⟨⟨by simp [R.len, hn], ?_, ?_, ?_⟩, ⟨rfl, rfl, rfl, by simp, fun r hr _ => hpush r hr, ?_, ?_, [some g], rfl⟩⟩
  · intro b g' hb
    simp only [Array.size_push]
    rw [List.getElem?_append] at hb
    split at hb
    · have := R.lt b g' hb; omega
    · rw [List.getElem?_singleton] at hb
      split at hb
      · simp at hb; subst hb; omega
      · cases hb
  · intro b x' hb
    have hb' := hb
    rw [hg] at hb
    by_cases he : b = h.next
    · subst he
      rw [if_pos rfl] at hb
      simp at hb
      subst hb
      exact ⟨g, o, hnew, by rw [ha]; exact hpn, hB.mono hle⟩
    · rw [if_neg he] at hb
      obtain ⟨g', o', h1, h2, h3⟩ := R.blk b x' hb
      exact ⟨g', o', hle.2 _ _ h1, (hpush _ (R.lt _ _ h1)).trans h2, h3.mono hle⟩
  · intro b b' x1 x2 g1 g2 h1 h2 h3 h4 h5
    rcases hcase b x1 g1 h1 h3 with ⟨e1, e2, _⟩ | ⟨e1, e2, e3⟩ <;> rcases hcase b' x2 g2 h2 h4 with ⟨f1, f2, _⟩ | ⟨f1, f2, f3⟩
    · omega
    · subst e2; have := R.lt _ _ f3; omega
    · subst f2; have := R.lt _ _ e3; omega
    · exact R.inj b b' x1 x2 g1 g2 e2 f2 e3 f3 h5
  · rintro r hr ⟨b, x', g', h1, h2, h3, h4⟩
    rcases hcase b x' g' h1 h3 with ⟨e1, e2, _⟩ | ⟨e1, e2, e3⟩
    · subst e2; omega
    · exact ⟨b, x', g', e2, h2, e3, h4⟩
  · rintro r hr ⟨b, x', g', h1, h3, h4⟩
    rcases hcase b x' g' h1 h3 with ⟨e1, e2, _⟩ | ⟨e1, e2, e3⟩
    · subst e2; omega
    · exact ⟨b, x', g', e2, e3, h4⟩
/-- a block that was there turns -/
theorem Rep.put {P : Program} {h h' : H} {w w' : World} {b : Nat} {x x' : Blk} {g : GB} {o' : Obj} (R : Rep P ξ G h w) (hn : h'.next = h.next) (hg : ∀ j, h'.get j = if j = b then some x' else h.get j)
    (hb : h.get b = some x) (hG : G[b]? = some (some g)) (hwr : x.wr) (ho : w'.os = w.os) (ht : w'.tape = w.tape) (hu : w'.output = w.output) (hs : w'.heap.size = w.heap.size)
    (hh : ∀ r, w'.heap[r]? = if r = g.addr then some o' else w.heap[r]?) (hB : BRep P ξ G g x' o') (hx : x'.wr) : Rep P ξ G h' w' ∧ Step G h w G h' w' := by
  refine ⟨⟨R.len.trans hn.symm, fun b' g' hb' => by rw [hs]; exact R.lt _ _ hb', ?_, ?_⟩, ⟨ho, ht, hu, by omega, ?_, ?_, ?_, [], by simp⟩⟩
  · intro b' y hy
    rw [hg] at hy
    by_cases he : b' = b
    · subst he
      rw [if_pos rfl] at hy
      simp at hy
      subst hy
      exact ⟨g, o', hG, by rw [hh, if_pos rfl], hB⟩
    · rw [if_neg he] at hy
      obtain ⟨g', o2, h1, h2, h3⟩ := R.blk b' y hy
      have hne : g'.addr ≠ g.addr := fun e => he (R.inj b' b y x g' g hy hb h1 hG e)
      exact ⟨g', o2, h1, by rw [hh, if_neg hne]; exact h2, h3⟩
  · intro b1 b2 x1 x2 g1 g2 h1 h2 h3 h4 h5
    have l1 : ∃ y, h.get b1 = some y := by rw [hg] at h1; by_cases he : b1 = b; exact ⟨x, by rw [he]; exact hb⟩; rw [if_neg he] at h1; exact ⟨_, h1⟩
    have l2 : ∃ y, h.get b2 = some y := by rw [hg] at h2; by_cases he : b2 = b; exact ⟨x, by rw [he]; exact hb⟩; rw [if_neg he] at h2; exact ⟨_, h2⟩
    obtain ⟨y1, l1⟩ := l1
    obtain ⟨y2, l2⟩ := l2
    exact R.inj b1 b2 y1 y2 g1 g2 l1 l2 h3 h4 h5
  · intro r hr hw
    rw [hh]
    by_cases he : r = g.addr
    · exact absurd ⟨b, x, g, hb, hwr, hG, he.symm⟩ hw
    · rw [if_neg he]
  · rintro r hr ⟨b', y, g', h1, h2, h3, h4⟩
    rw [hg] at h1
    by_cases he : b' = b
    · subst he
      rw [hG] at h3
      simp at h3
      subst h3
      exact ⟨b', x, g, hb, hwr, hG, h4⟩
    · rw [if_neg he] at h1
      exact ⟨b', y, g', h1, h2, h3, h4⟩
  · rintro r hr ⟨b', y, g', h1, h3, h4⟩
    rw [hg] at h1
    by_cases he : b' = b
    · subst he
      exact ⟨b', x, g', hb, h3, h4⟩
    · rw [if_neg he] at h1
      exact ⟨b', y, g', h1, h3, h4⟩
/-- a block is forgotten -/
theorem Rep.kill {P : Program} {h h' : H} {w : World} {b : Nat} (R : Rep P ξ G h w) (hn : h'.next = h.next) (hg : ∀ j, h'.get j = if j = b then none else h.get j) : Rep P ξ G h' w :=
  have sub : ∀ j x, h'.get j = some x → h.get j = some x := fun j x hj => by
    rw [hg] at hj
    split at hj
    · cases hj
    · exact hj
  ⟨R.len.trans hn.symm, R.lt, fun b' x hx => R.blk b' x (sub _ _ hx), fun b1 b2 x1 x2 g1 g2 h1 h2 => R.inj b1 b2 x1 x2 g1 g2 (sub _ _ h1) (sub _ _ h2)⟩
theorem Step.kill {h h' : H} {w : World} {b : Nat} (hg : ∀ j, h'.get j = if j = b then none else h.get j) : Step G h w G h' w :=
  ⟨rfl, rfl, rfl, Nat.le_refl _, fun _ _ _ => rfl, fun r _ ⟨b', x, g, h1, h2, h3, h4⟩ => ⟨b', x, g, by rw [hg] at h1; split at h1; cases h1; exact h1, h2, h3, h4⟩, fun r _ ⟨b', x, g, h1, h3, h4⟩ => ⟨b', x, g, by rw [hg] at h1; split at h1; cases h1; exact h1, h3, h4⟩, [], by simp⟩
end
end Go.Ev
namespace Go.Ev
open Go
/-! operands, integers, texts -/
section
variable {P : Program} {ξ : Nat → Value} {G : Gh} {γ : Type}
theorem ofVal_some {o : Option V} {K : V → R γ} {c : Nat} {r : γ} (h : Option.rec (.no c) K o = (.ok r : R γ)) : ∃ v, o = some v ∧ K v = .ok r := by
  cases o with
  | none => cases h
  | some v => exact ⟨v, rfl, h⟩
theorem cond_ok {b : Bool} {x : R γ} {c : Nat} {r : γ} (h : cond b x (.no c) = .ok r) : b = true ∧ x = .ok r := by
  cases b with
  | true => exact ⟨rfl, h⟩
  | false => cases h
theorem cond_no {b : Bool} {x : R γ} {c : Nat} {r : γ} (h : cond b (.no c) x = .ok r) : b = false ∧ x = .ok r := by
  cases b with
  | true => cases h
  | false => exact ⟨rfl, h⟩
/-- what an operand is -/
noncomputable def evP (P : Program) (T : Tm) : Operand → Option V
  | .tmp t => tgetP T t
  | .const v => ofVal v
  | .global g => if g < P.globals.size then some (.ptr g 0) else none
  | .func f => some (.fn (.func f) [] [])
theorem ev_ok {T : Tm} {x : Operand} {K : V → R γ} {c : Nat} {r : γ} (h : ev P T (.no c) x K = .ok r) : ∃ v, evP P T x = some v ∧ K v = .ok r := by
  cases x with
  | tmp t => exact tget_ok h
  | const v => exact ofVal_some h
  | global g =>
    obtain ⟨h1, h2⟩ := cond_ok h
    exact ⟨_, by rw [evP]; exact if_pos (Nat.le_of_ble_eq_true h1), h2⟩
  | func f => exact ⟨_, rfl, h⟩
/-- the temporaries, and the package's variables, stand for the frame's -/
structure TDen (P : Program) (ξ : Nat → Value) (G : Gh) (T : Tm) (a : Act) : Prop where
  tmp : ∀ (t : Nat) (v : V), tgetP T t = some v → ∃ x, a.tmps[t]? = some x ∧ Den ξ G v x
  glob : ∀ g : Nat, g < P.globals.size → ∃ c, G[g]? = some (some ⟨g, 0, c⟩)
theorem TDen.mono {G' : Gh} {T : Tm} {a : Act} (h : TDen P ξ G T a) (hG : Le G G') : TDen P ξ G' T a :=
  ⟨fun t v hv => let ⟨x, hx, hd⟩ := h.tmp t v hv; ⟨x, hx, hd.mono hG⟩, fun g hg => let ⟨c, hc⟩ := h.glob g hg; ⟨c, hG.2 _ _ hc⟩⟩
theorem strOf_fst : ∀ l : List UInt8, (strOf l).1 = l.length
  | [] => rfl
  | b :: l => by
    show Nat.succ (strOf l).1 = _
    rw [strOf_fst l]; rfl
theorem strOf_lt : ∀ l : List UInt8, (strOf l).2 < 256 ^ l.length
  | [] => by decide
  | b :: l => by
    show Nat.add (Nat.mul b.toNat (Nat.pow 256 (strOf l).1)) (strOf l).2 < _
    rw [strOf_fst l]
    have h := strOf_lt l
    have hb := b.toNat_lt
    simp only [List.length_cons, Nat.pow_succ]
    show b.toNat * 256 ^ l.length + (strOf l).2 < _
    have : b.toNat * 256 ^ l.length ≤ 255 * 256 ^ l.length := Nat.mul_le_mul_right _ (by omega)
    omega
theorem digs_add (n a c : Nat) : digs n (a * 256 ^ n + c) = digs n c := by
  have key : ∀ m, m ≤ n → digs m (a * 256 ^ n + c) = digs m c := by
    intro m
    induction m with
    | zero => intro _; rfl
    | succ m ih =>
      intro hm
      simp only [digs]
      rw [ih (by omega)]
      congr 2
      have e : a * 256 ^ n = (a * 256 ^ (n - (m + 1))) * 256 * 256 ^ m := by
        rw [Nat.mul_assoc, Nat.mul_assoc, ← Nat.pow_succ', ← Nat.pow_add]
        congr 2; omega
      rw [e, Nat.add_comm, Nat.add_mul_div_right _ _ (by exact Nat.pow_pos (by decide)), Nat.add_mul_mod_self_right]
  exact key n (Nat.le_refl _)
theorem digs_strOf : ∀ l : List UInt8, digs l.length (strOf l).2 = l
  | [] => rfl
  | b :: l => by
    have hlt := strOf_lt l
    show UInt8.ofNat ((strOf (b :: l)).2 / 256 ^ l.length % 256) :: digs l.length (strOf (b :: l)).2 = _
    have e : (strOf (b :: l)).2 = b.toNat * 256 ^ l.length + (strOf l).2 := by
      show Nat.add (Nat.mul b.toNat (Nat.pow 256 (strOf l).1)) (strOf l).2 = _
      rw [strOf_fst l]; rfl
    rw [e, digs_add, digs_strOf l]
    congr 1
    rw [Nat.add_comm, Nat.add_mul_div_right _ _ (by exact Nat.pow_pos (by decide)), Nat.div_eq_of_lt hlt, Nat.zero_add, Nat.mod_eq_of_lt b.toNat_lt]
    simp
mutual
theorem ofVal_den : ∀ {v : Value} {w : V}, ofVal v = some w → Den ξ G w v
  | .bool _, _, h => by simp only [ofVal, Option.some.injEq] at h; subst h; simp [Den]
  | .int _ _, _, h => by simp only [ofVal, Option.some.injEq] at h; subst h; simp [Den]
  | .float .., _, h => by simp [ofVal] at h
  | .complex .., _, h => by simp [ofVal] at h
  | .string s, _, h => by
    simp only [ofVal, Option.some.injEq] at h
    subst h
    simp only [Den]
    rw [strOf_fst]
    exact ⟨strOf_lt _, by rw [digs_strOf]⟩
  | .pointer none, _, h => by simp only [ofVal, Option.some.injEq] at h; subst h; simp [Den]
  | .pointer (some _), _, h => by simp [ofVal] at h
  | .slice none 0 0, _, h => by simp only [ofVal, Option.some.injEq] at h; subst h; simp [Den]
  | .slice none 0 (_ + 1), _, h => by simp [ofVal] at h
  | .slice none (_ + 1) _, _, h => by simp [ofVal] at h
  | .slice (some _) _ _, _, h => by simp [ofVal] at h
  | .map none, _, h => by simp only [ofVal, Option.some.injEq] at h; subst h; simp [Den]
  | .map (some _), _, h => by simp [ofVal] at h
  | .chan _, _, h => by simp [ofVal] at h
  | .func .., _, h => by simp [ofVal] at h
  | .nilFunc, _, h => by simp only [ofVal, Option.some.injEq] at h; subst h; simp [Den]
  | .iface t v, _, h => by
    simp only [ofVal] at h
    split at h
    · rename_i w hw
      simp at h; subst h
      simp only [Den]
      exact ⟨v, rfl, ofVal_den hw⟩
    · cases h
  | .nilIface, _, h => by simp only [ofVal, Option.some.injEq] at h; subst h; simp [Den]
  | .agg ⟨l⟩, _, h => by
    simp only [ofVal] at h
    split at h
    · rename_i w hw
      simp at h; subst h
      simp only [Den]
      exact ⟨⟨l⟩, rfl, ofVals_den hw⟩
    · cases h
  | .tuple ⟨l⟩, _, h => by
    simp only [ofVal] at h
    split at h
    · rename_i w hw
      simp at h; subst h
      simp only [Den]
      exact ⟨⟨l⟩, rfl, ofVals_den hw⟩
    · cases h
theorem ofVals_den : ∀ {l : List Value} {w : List V}, ofVals l = some w → DenL ξ G w l
  | [], _, h => by simp only [ofVals, Option.some.injEq] at h; subst h; simp [DenL]
  | v :: l, _, h => by
    simp only [ofVals] at h
    split at h
    · rename_i x hx
      split at h
      · rename_i y hy
        simp at h; subst h
        simp only [DenL]
        exact ⟨v, l, rfl, ofVal_den hx, ofVals_den hy⟩
      · cases h
    · cases h
end
theorem evP_den {T : Tm} {a : Act} {x : Operand} {v : V} (hT : TDen P ξ G T a) (h : evP P T x = some v) : Den ξ G v (a.eval x) := by
  cases x with
  | tmp t =>
    obtain ⟨y, hy, hd⟩ := hT.tmp t v h
    simpa [Act.eval, Array.getD_eq_getD_getElem?, hy] using hd
  | const v => exact ofVal_den h
  | global g =>
    rw [evP] at h
    split at h
    · rename_i hg
      simp at h; subst h
      obtain ⟨c, hc⟩ := hT.glob g hg
      simp only [Den]
      exact ⟨_, hc, by simp [Act.eval]⟩
    · cases h
  | func f =>
    simp only [evP, Option.some.injEq] at h
    subst h
    simp only [Den]
    exact ⟨#[], #[], rfl, by simp [DenL], by simp [DenL]⟩
theorem evs_ok {T : Tm} {xs : List Operand} {K : List V → R γ} {c : Nat} {r : γ} (h : evs P T (.no c) xs K = .ok r) :
    ∃ l, K l = .ok r ∧ ∀ {ξ : Nat → Value} {G : Gh} {a : Act}, TDen P ξ G T a → DenL ξ G l (xs.map a.eval) := by
  induction xs generalizing K with
  | nil => exact ⟨[], h, fun _ => by simp [DenL]⟩
  | cons x xs ih =>
    obtain ⟨v, hv, h1⟩ := ev_ok (K := fun v => evs P T (.no c) xs fun l => K (v :: l)) h
    obtain ⟨l, h2, h3⟩ := ih h1
    exact ⟨v :: l, h2, fun ht => .cons (evP_den ht hv) (h3 ht)⟩
theorem TDen.put {T T' : Tm} {a : Act} {d : Nat} {v : V} {x : Value} (hT : TDen P ξ G T a) (h1 : ∀ j, tgetP T' j = if j = d then some v else tgetP T j) (h2 : (tgetP T d).isSome) (hd : Den ξ G v x) :
    TDen P ξ G T' (a.put (some d) x) := by
  obtain ⟨v0, hv0⟩ := Option.isSome_iff_exists.1 h2
  obtain ⟨y, hy, _⟩ := hT.tmp d v0 hv0
  have hlt : d < a.tmps.size := (Array.getElem?_eq_some_iff.1 hy).1
  refine ⟨fun t w hw => ?_, hT.glob⟩
  rw [h1] at hw
  simp only [Act.put, Array.getElem?_setIfInBounds]
  by_cases ht : t = d
  · subst ht
    rw [if_pos rfl] at hw
    simp at hw; subst hw
    exact ⟨x, by simp [hlt], hd⟩
  · rw [if_neg ht] at hw
    obtain ⟨z, hz, hd⟩ := hT.tmp t w hw
    exact ⟨z, by rw [if_neg (fun e => ht e.symm)]; exact hz, hd⟩
theorem dstK_ok {d : Option Tmp} {v : V} {T : Tm} {K : Tm → R γ} {r : γ} (h : dstK d v T K = .ok r) :
    ∃ T', K T' = .ok r ∧ ∀ {ξ : Nat → Value} {G : Gh} {a : Act} {x : Value}, TDen P ξ G T a → Den ξ G v x → TDen P ξ G T' (a.put d x) := by
  cases d with
  | none => exact ⟨T, h, fun ht _ => ht⟩
  | some d =>
    obtain ⟨T', h1, h2, h3⟩ := tset_ok (K := K) h
    exact ⟨T', h1, fun ht hd => ht.put h2 h3 hd⟩
/-! integers -/
theorem wrapK_eq {β : Type} (k : IntKind) (n : Int) (K : Int → β) : wrapK k n K = K (k.wrap n) := by
  unfold wrapK
  split
  · cases n with
    | ofNat n =>
      simp only [forceNat_eq, forceInt_eq]
      show cond (Nat.ble n 9223372036854775807) _ _ = _
      cases hb : Nat.ble n 9223372036854775807 with
      | true =>
        have := Nat.le_of_ble_eq_true hb
        have e : IntKind.i64.wrap (Int.ofNat n) = Int.ofNat n := by rw [IntKind.wrap_i64]; simp only [Int.ofNat_eq_natCast]; omega
        rw [e]; rfl
      | false => rfl
    | negSucc n =>
      simp only [forceNat_eq, forceInt_eq]
      show cond (Nat.ble n 9223372036854775807) _ _ = _
      cases hb : Nat.ble n 9223372036854775807 with
      | true =>
        have := Nat.le_of_ble_eq_true hb
        have e : IntKind.i64.wrap (Int.negSucc n) = Int.negSucc n := by rw [IntKind.wrap_i64]; omega
        rw [e]; rfl
      | false => rfl
  · rw [forceInt_eq]
theorem intK_eq {β : Type} (k : IntKind) (n : Int) (K : V → β) : intK k n K = K (.int k (k.wrap n)) := wrapK_eq k n _
theorem boolK_eq {β : Type} (b : Bool) (K : V → β) : boolK b K = K (.bool b) := by cases b <;> rfl
theorem nboolK_eq {β : Type} (b : Bool) (K : V → β) : nboolK b K = K (.bool !b) := by cases b <;> rfl
theorem eqI_eq (a b : Int) : eqI a b = decide (a = b) := by
  cases a <;> cases b
  · show Nat.beq _ _ = _; rw [Bool.eq_iff_iff]; simp; omega
  · show false = _; simp
  · show false = _; simp
  · show Nat.beq _ _ = _; rw [Bool.eq_iff_iff]; simp
theorem ltI_eq (a b : Int) : ltI a b = decide (a < b) := by
  cases a <;> cases b
  · show Nat.ble _ _ = _; rw [Bool.eq_iff_iff, Nat.ble_eq]; simp; omega
  · show false = _; simp; omega
  · show true = _; simp; omega
  · show Nat.ble _ _ = _; rw [Bool.eq_iff_iff, Nat.ble_eq]; simp; omega
end
end Go.Ev
namespace Go.Ev
open Go
section
variable {P : Program} {γ : Type}
/-- a type's form -/
inductive TKof (P : Program) (t : TypeId) : TK → Prop
  | agg (fs : Array Field) (l : List (Nat × Nat × Nat)) (h : P.underlying t = some (.struct fs)) (hl : fieldsK P fs.toList = some l) : TKof P t (.agg l)
  | arr (n e : Nat) (i : TypeInfo) (h : P.underlying t = some (.array n e)) (hi : P.info? e = some i) : TKof P t (.arr n e i.size)
  | slc (e : Nat) (i : TypeInfo) (h : P.underlying t = some (.slice e)) (hi : P.info? e = some i) : TKof P t (.slc e i.size)
  | int (k : IntKind) (h : P.underlying t = some (.int k)) : TKof P t (.int k)
  | bool (h : P.underlying t = some .bool) : TKof P t .bool
  | str (h : P.underlying t = some .string) : TKof P t .str
  | ptr (e : Nat) (i : TypeInfo) (h : P.underlying t = some (.pointer e)) (hi : P.info? e = some i) : TKof P t (.ptr e i.size)
  | uns (h : P.underlying t = some .unsafePointer) : TKof P t .uns
  | ifc (ms : Array (String × TypeId)) (h : P.underlying t = some (.interface ms)) : TKof P t .ifc
  | fnc (a b : Array TypeId) (v : Bool) (h : P.underlying t = some (.func a b v)) : TKof P t .fnc
  | map (k e : Nat) (h : P.underlying t = some (.map k e)) : TKof P t (.map k e)
  | oth (d : TypeDesc) (h : P.underlying t = some d) (h1 : ∀ fs, d ≠ .struct fs) (h2 : ∀ n e, d ≠ .array n e) (h3 : ∀ ms, d ≠ .interface ms) (h4 : ∀ e, d ≠ .pointer e) : TKof P t .oth
  | bad : TKof P t .bad
theorem tyK_of (P : Program) (t : TypeId) : TKof P t (tyK P t) := by
  unfold tyK
  cases h : P.underlying t with
  | none => exact .bad
  | some d =>
    cases d with
    | struct fs =>
      dsimp only
      cases hl : fieldsK P fs.toList with
      | none => exact .bad
      | some l => exact .agg fs l h hl
    | array n e =>
      dsimp only [sizeK]
      cases hi : P.info? e with
      | none => exact .bad
      | some i => exact .arr n e i h hi
    | slice e =>
      dsimp only [sizeK]
      cases hi : P.info? e with
      | none => exact .bad
      | some i => exact .slc e i h hi
    | pointer e =>
      dsimp only [sizeK]
      cases hi : P.info? e with
      | none => exact .bad
      | some i => exact .ptr e i h hi
    | int k => exact .int k h
    | bool => exact .bool h
    | string => exact .str h
    | unsafePointer => exact .uns h
    | interface ms => exact .ifc ms h
    | func a b v => exact .fnc a b v h
    | map k e => exact .map k e h
    | _ => exact .oth _ h (by simp) (by simp) (by simp) (by simp)
theorem fieldsK_get {fs : List Field} {l : List (Nat × Nat × Nat)} (h : fieldsK P fs = some l) :
    l.length = fs.length ∧ ∀ (i : Nat) f, fs[i]? = some f → ∃ t, P.info? f.type = some t ∧ l[i]? = some (f.offset, t.size, f.type) := by
  induction fs generalizing l with
  | nil => simp [fieldsK] at h; subst h; simp
  | cons f fs ih =>
    simp only [fieldsK] at h
    split at h
    · rename_i i hi
      split at h
      · rename_i l' hl
        simp at h; subst h
        obtain ⟨h1, h2⟩ := ih hl
        refine ⟨by simp [h1], fun j g hj => ?_⟩
        cases j with
        | zero => simp at hj; subst hj; exact ⟨i, hi, rfl⟩
        | succ j => simpa using h2 j g (by simpa using hj)
      · cases h
    · cases h
theorem underlying_run {t : TypeId} {d : TypeDesc} (h : P.underlying t = some d) (w : World) : (underlying t).run P w = .ok d w := by
  simp [underlying, h]
theorem typeInfo_run {t : TypeId} {i : TypeInfo} (h : P.info? t = some i) (w : World) : (typeInfo t).run P w = .ok i w := by
  simp [typeInfo, h]
theorem sizeOf_run {t : TypeId} {i : TypeInfo} (h : P.info? t = some i) (w : World) : (sizeOf t).run P w = .ok i.size w := by
  simp [sizeOf, typeInfo_run h]
/-- what zero of a type is -/
theorem zeroK_ok {t : TypeId} {K : V → R γ} {c : Nat} {r : γ} (h : zeroK P (.no c) t K = .ok r) :
    ∃ v z, K v = .ok r ∧ ofVal z = some v ∧ ∀ w, (zeroValue t).run P w = .ok z w := by
  obtain ⟨v, hv, h1⟩ := ofVal_some h
  unfold zeroV at hv
  split at hv
  · rename_i i hi
    split at hv
    · rename_i z hz
      exact ⟨v, z, h1, hv, fun w => by simp [zeroValue, typeInfo_run hi, hz]⟩
    · cases hv
  · cases hv
theorem isAgg_of {t : TypeId} {yes no : R γ} {c : Nat} {r : γ} (h : agK (tyK P t) yes no (.no c) = .ok r) :
    ((∀ w, (isAgg t).run P w = .ok true w) ∧ yes = .ok r) ∨ ((∀ w, (isAgg t).run P w = .ok false w) ∧ no = .ok r) := by
  have ht := tyK_of P t
  generalize tyK P t = k at h ht
  cases ht with
  | agg fs l hu hl => exact .inl ⟨fun w => by simp [isAgg, underlying_run hu], h⟩
  | arr n e i hu hi => exact .inl ⟨fun w => by simp [isAgg, underlying_run hu], h⟩
  | slc e i hu hi => exact .inr ⟨fun w => by simp [isAgg, underlying_run hu], h⟩
  | int k hu => exact .inr ⟨fun w => by simp [isAgg, underlying_run hu], h⟩
  | bool hu => exact .inr ⟨fun w => by simp [isAgg, underlying_run hu], h⟩
  | str hu => exact .inr ⟨fun w => by simp [isAgg, underlying_run hu], h⟩
  | ptr e i hu hi => exact .inr ⟨fun w => by simp [isAgg, underlying_run hu], h⟩
  | uns hu => exact .inr ⟨fun w => by simp [isAgg, underlying_run hu], h⟩
  | ifc ms hu => exact .inr ⟨fun w => by simp [isAgg, underlying_run hu], h⟩
  | fnc a b v hu => exact .inr ⟨fun w => by simp [isAgg, underlying_run hu], h⟩
  | map k e hu => exact .inr ⟨fun w => by simp [isAgg, underlying_run hu], h⟩
  | oth d hu h1 h2 h3 h4 =>
    refine .inr ⟨fun w => ?_, h⟩
    simp only [isAgg, Sem.run_bind, underlying_run hu, Result.andThen_ok]
    cases d with
    | struct fs => exact absurd rfl (h1 fs)
    | array n e => exact absurd rfl (h2 n e)
    | _ => rfl
  | bad => cases h
theorem cellsOf_info {t : TypeId} {i : TypeInfo} (h : P.info? t = some i) : P.cellsOf t = i.size := by simp [Program.cellsOf, h]
theorem isAgg_info {t : TypeId} {b : Bool} (h : ∀ w, (isAgg t).run P w = .ok b w) : ∃ i, P.info? t = some i := by
  have := h default
  cases hi : P.info? t with
  | some i => exact ⟨i, rfl⟩
  | none =>
    have hu : P.underlying t = none := by simp [Program.underlying, hi]
    simp [isAgg, underlying, hu] at this
/-- a part of cells -/
theorem partK_ok {t : TypeId} {cs : List V} {off : Nat} {K : V → R γ} {c : Nat} {r : γ} (h : partK P (.no c) t cs off K = .ok r) :
    ∃ v, K v = .ok r ∧ ∀ {ξ : Nat → Value} {G : Gh} {xs : Array Value} (w : World), DenL ξ G cs xs.toList → ∃ x, (part t xs off).run P w = .ok x w ∧ Den ξ G v x := by
  obtain ⟨h1, h2⟩ := ldrop_ok h
  rcases isAgg_of h2 with ⟨ha, h3⟩ | ⟨ha, h3⟩
  · obtain ⟨h4, h5⟩ := ltake_ok h3
    obtain ⟨i, hi⟩ := isAgg_info ha
    refine ⟨_, h5, fun {ξ G xs} w hd => ⟨.agg (xs.extract off (off + i.size)), by simp [part, ha, sizeOf_run hi], ?_⟩⟩
    simp only [Den]
    refine ⟨_, rfl, ?_⟩
    rw [cellsOf_info hi]
    have := (hd.drop off).take i.size
    rw [Array.toList_extract]
    simpa [List.extract_eq_take_drop] using this
  · cases hl : cs.drop off with
    | nil => rw [hl] at h3; cases h3
    | cons v l =>
      rw [hl] at h3
      refine ⟨v, h3, fun {ξ G xs} w hd => ?_⟩
      have hv : cs[off]? = some v := by
        have := congrArg (·[0]?) hl
        simpa [List.getElem?_drop] using this
      obtain ⟨x, hx, hden⟩ := hd.get hv
      have hx' : xs[off]? = some x := by simpa using hx
      exact ⟨x, by simp [part, ha, hx'], hden⟩
end
end Go.Ev
namespace Go.Ev
open Go
section
variable {P : Program} {γ : Type}
/-- what operation o yields, whatever the heap: v -/
def Pure (P : Program) (o : Oper) (T : Tm) (v : V) : Prop :=
  ∀ (ξ : Nat → Value) (G : Gh) (a : Act) (w : World), TDen P ξ G T a → ∃ x, (execOp a.eval o).run P w = .ok (.value x) w ∧ Den ξ G v x
def PureK (P : Program) (o : Oper) (T : Tm) (h : H) (K : V → H → R γ) (r : γ) : Prop := ∃ v, K v h = .ok r ∧ Pure P o T v
theorem opMove_ok {o : Oper} {x : Operand} {T : Tm} {h : H} {K : V → H → R γ} {r : γ} (ho : o.op = .move x ∨ o.op = .assign x) (h0 : opMove P x T h K = .ok r) : PureK P o T h K r := by
  obtain ⟨v, hv, h1⟩ := ev_ok h0
  refine ⟨v, h1, fun ξ G a w hT => ⟨a.eval x, ?_, evP_den hT hv⟩⟩
  rcases ho with ho | ho <;> (unfold execOp; rw [ho]; rfl)
theorem opPick_ok {o : Oper} {c a b : Operand} {T : Tm} {h : H} {K : V → H → R γ} {r : γ} (ho : o.op = .pick c a b) (h0 : opPick P c a b T h K = .ok r) : PureK P o T h K r := by
  obtain ⟨v, hv, h1⟩ := ev_ok h0
  split at h1
  · rename_i t
    cases t with
    | true =>
      obtain ⟨u, hu, h2⟩ := ev_ok h1
      refine ⟨u, h2, fun ξ G ac w hT => ⟨ac.eval a, ?_, evP_den hT hu⟩⟩
      have := evP_den hT hv
      simp only [Den] at this
      unfold execOp; rw [ho]; simp [this, asBool]
    | false =>
      obtain ⟨u, hu, h2⟩ := ev_ok h1
      refine ⟨u, h2, fun ξ G ac w hT => ⟨ac.eval b, ?_, evP_den hT hu⟩⟩
      have := evP_den hT hv
      simp only [Den] at this
      unfold execOp; rw [ho]; simp [this, asBool]
  · cases h1
theorem opNilCheck_ok {o : Oper} {x : Operand} {T : Tm} {h : H} {K : V → H → R γ} {r : γ} (ho : o.op = .nilCheck x) (h0 : opNilCheck P x T h K = .ok r) : PureK P o T h K r := by
  obtain ⟨v, hv, h1⟩ := ev_ok h0
  have key : ∀ (ξ : Nat → Value) (G : Gh) (a : Act) (w : World), TDen P ξ G T a → Den ξ G v (a.eval x) → (∀ y, a.eval x = y → y ≠ .pointer none ∧ y ≠ .nilIface ∧ y ≠ .nilFunc ∧ (∀ n f c, y ≠ .func (.method n) f c)) →
      ∃ y, (execOp a.eval o).run P w = .ok (.value y) w ∧ Den ξ G v y := by
    intro ξ G a w hT hd hn
    refine ⟨a.eval x, ?_, hd⟩
    obtain ⟨n1, n2, n3, n4⟩ := hn _ rfl
    unfold execOp
    rw [ho]
    dsimp only
    split
    · exact absurd (by assumption) n1
    · exact absurd (by assumption) n2
    · exact absurd (by assumption) n3
    · exact absurd (by assumption) (n4 _ _ _)
    · rfl
  cases v with
  | pnil => cases h1
  | inil => cases h1
  | fnil => cases h1
  | opq i => cases h1
  | fn f a b =>
    cases f with
    | func f =>
      refine ⟨_, h1, fun ξ G ac w hT => ?_⟩
      have hd := evP_den hT hv
      refine key ξ G ac w hT hd fun y hy => ?_
      simp only [Den] at hd
      obtain ⟨a', b', e, _⟩ := hd
      rw [e] at hy; subst hy
      simp
    | _ => cases h1
  | _ =>
    refine ⟨_, h1, fun ξ G ac w hT => ?_⟩
    have hd := evP_den hT hv
    refine key ξ G ac w hT hd fun y hy => ?_
    rw [hy] at hd
    simp only [Den] at hd
    first
      | (subst hd; simp)
      | (obtain ⟨_, rfl⟩ := hd; simp)
      | (obtain ⟨_, _, rfl⟩ := hd; simp)
      | (obtain ⟨_, rfl, _⟩ := hd; simp)
      | (obtain ⟨_, _, _, rfl⟩ := hd; simp)
      | (obtain ⟨_, _, _, _, rfl⟩ := hd; simp)
theorem opUnOp_ok {o : Oper} {op : UnOp} {t : TypeId} {x : Operand} {T : Tm} {h : H} {K : V → H → R γ} {r : γ} (ho : o.op = .unOp op t x) (h0 : opUnOp P op x T h K = .ok r) : PureK P o T h K r := by
  obtain ⟨v, hv, h1⟩ := ev_ok h0
  split at h1
  · rename_i b
    have h2 : K (.bool !b) h = .ok r := by cases b <;> exact h1
    refine ⟨_, h2, fun ξ G a w hT => ⟨.bool !b, ?_, by simp [Den]⟩⟩
    have := evP_den hT hv
    simp only [Den] at this
    unfold execOp; rw [ho]; simp [this, Op.unary]
  · rename_i k n
    rw [intK_eq] at h1
    refine ⟨_, h1, fun ξ G a w hT => ⟨.int k (k.wrap (Int.neg n)), ?_, by simp [Den]⟩⟩
    have := evP_den hT hv
    simp only [Den] at this
    unfold execOp; rw [ho]; simp [this, Op.unary, Op.intArith]; rfl
  · cases h1
theorem opIface_ok {o : Oper} {t : TypeId} {x : Operand} {T : Tm} {h : H} {K : V → H → R γ} {r : γ} (ho : o.op = .makeInterface t x) (h0 : opIface P t x T h K = .ok r) : PureK P o T h K r := by
  obtain ⟨v, hv, h1⟩ := ev_ok h0
  have ht := tyK_of P t
  have key : (∃ d, P.underlying t = some d ∧ ∀ ms, d ≠ .interface ms) → K (.iface t v) h = .ok r → PureK P o T h K r := by
    rintro ⟨d, hd, hm⟩ hk
    refine ⟨_, hk, fun ξ G a w hT => ⟨.iface t (a.eval x), ?_, by simp only [Den]; exact ⟨_, rfl, evP_den hT hv⟩⟩⟩
    unfold execOp; rw [ho]
    simp only [Instr.makeInterface, Sem.run_bind, underlying_run hd, Result.andThen_ok]
    cases d with
    | interface ms => exact absurd rfl (hm ms)
    | _ => rfl
  generalize tyK P t = k at h1 ht
  cases ht with
  | ifc ms hu => cases h1
  | bad => cases h1
  | agg fs l hu hl => exact key ⟨_, hu, by simp⟩ h1
  | arr n e i hu hi => exact key ⟨_, hu, by simp⟩ h1
  | slc e i hu hi => exact key ⟨_, hu, by simp⟩ h1
  | int k hu => exact key ⟨_, hu, by simp⟩ h1
  | bool hu => exact key ⟨_, hu, by simp⟩ h1
  | str hu => exact key ⟨_, hu, by simp⟩ h1
  | ptr e i hu hi => exact key ⟨_, hu, by simp⟩ h1
  | uns hu => exact key ⟨_, hu, by simp⟩ h1
  | fnc a b v hu => exact key ⟨_, hu, by simp⟩ h1
  | map k e hu => exact key ⟨_, hu, by simp⟩ h1
  | oth d hu h1' h2' h3' h4' => exact key ⟨_, hu, h3'⟩ h1
theorem opFunc_ok {o : Oper} {f : Fn} {a b : Array Operand} {T : Tm} {h : H} {K : V → H → R γ} {r : γ} (ho : o.op = .makeFunc f a b) (h0 : opFunc P f a b T h K = .ok r) : PureK P o T h K r := by
  obtain ⟨l, h1, hl⟩ := evs_ok h0
  obtain ⟨m, h2, hm⟩ := evs_ok h1
  refine ⟨_, h2, fun ξ G ac w hT => ⟨.func f (a.map ac.eval) (b.map ac.eval), ?_, ?_⟩⟩
  · unfold execOp; rw [ho]; simp [Instr.makeFunc]
  · simp only [Den]
    exact ⟨_, _, rfl, by simpa using hl hT, by simpa using hm hT⟩
theorem opExtract_ok {o : Oper} {t : Operand} {i : Nat} {T : Tm} {h : H} {K : V → H → R γ} {r : γ} (ho : o.op = .extract t i) (h0 : opExtract P t i T h K = .ok r) : PureK P o T h K r := by
  obtain ⟨v, hv, h1⟩ := ev_ok h0
  split at h1
  · rename_i l
    obtain ⟨u, hu, h2⟩ := lget_ok h1
    refine ⟨u, h2, fun ξ G ac w hT => ?_⟩
    have hd := evP_den hT hv
    simp only [Den] at hd
    obtain ⟨xs, e, hd⟩ := hd
    obtain ⟨y, hy, hdy⟩ := hd.get hu
    have hy' : xs[i]? = some y := by simpa using hy
    refine ⟨y, ?_, hdy⟩
    unfold execOp; rw [ho]; simp [e, Instr.extract, hy']
  · cases h1
theorem opField_ok {o : Oper} {t : TypeId} {x : Operand} {f : Nat} {T : Tm} {h : H} {K : V → H → R γ} {r : γ} (ho : o.op = .field t x f) (h0 : opField P t x f T h K = .ok r) : PureK P o T h K r := by
  obtain ⟨v, hv, h1⟩ := ev_ok h0
  split at h1
  · rename_i cs
    have ht := tyK_of P t
    generalize tyK P t = k at h1 ht
    cases ht with
    | agg fs l hu hl =>
      obtain ⟨⟨off, s, ft⟩, hg, h2⟩ := lget_ok h1
      obtain ⟨hlen, hget⟩ := fieldsK_get hl
      have hlt : f < fs.size := by have := (List.getElem?_eq_some_iff.1 hg).1; simp at hlen; omega
      have hf : fs.toList[f]? = some fs[f] := by simp [hlt]
      obtain ⟨i, hi, hl2⟩ := hget f _ hf
      rw [hg] at hl2
      simp at hl2
      obtain ⟨e1, e2, e3⟩ := hl2
      obtain ⟨u, h3, h4⟩ := partK_ok h2
      refine ⟨u, h3, fun ξ G ac w hT => ?_⟩
      have hd := evP_den hT hv
      simp only [Den] at hd
      obtain ⟨xs, e, hd⟩ := hd
      obtain ⟨y, hy, hdy⟩ := h4 w hd
      refine ⟨y, ?_, hdy⟩
      have hf' : fs[f]? = some fs[f] := by simp [hlt]
      unfold execOp; rw [ho]
      simp only [Instr.field, Sem.run_bind, underlying_run hu, Result.andThen_ok, hf', asAgg, e, Sem.run_pure]
      rw [← e1, ← e3]
      simp [hy]
    | _ => cases h1
  · cases h1
theorem natK_ok {v : V} {K : Nat → R γ} {c : Nat} {r : γ} (h : natK (.no c) v K = .ok r) : ∃ k n, v = .int k (Int.ofNat n) ∧ K n = .ok r := by
  unfold natK at h
  split at h
  · rename_i k n
    cases n with
    | ofNat n => exact ⟨k, n, rfl, h⟩
    | negSucc n => cases h
  · cases h
theorem opFieldAddr_ok {o : Oper} {t : TypeId} {x : Operand} {f : Nat} {T : Tm} {h : H} {K : V → H → R γ} {r : γ} (ho : o.op = .fieldAddr t x f) (h0 : opFieldAddr P t x f T h K = .ok r) : PureK P o T h K r := by
  obtain ⟨v, hv, h1⟩ := ev_ok h0
  split at h1
  · rename_i b off
    have ht := tyK_of P t
    generalize tyK P t = k at h1 ht
    cases ht with
    | agg fs l hu hl =>
      obtain ⟨⟨fo, s, ft⟩, hg, h2⟩ := lget_ok h1
      obtain ⟨hs, h3⟩ := cond_no h2
      rw [forceNat_eq] at h3
      obtain ⟨hlen, hget⟩ := fieldsK_get hl
      have hlt : f < fs.size := by have := (List.getElem?_eq_some_iff.1 hg).1; simp at hlen; omega
      have hf : fs.toList[f]? = some fs[f] := by simp [hlt]
      obtain ⟨i, hi, hl2⟩ := hget f _ hf
      rw [hg] at hl2
      simp at hl2
      obtain ⟨e1, e2, e3⟩ := hl2
      refine ⟨_, h3, fun ξ G ac w hT => ?_⟩
      have hd := evP_den hT hv
      simp only [Den] at hd
      obtain ⟨g, hG, e⟩ := hd
      have hf' : fs[f]? = some fs[f] := by simp [hlt]
      have hsz : ¬ i.size = 0 := by
        intro h0
        have : s = 0 := by omega
        subst this
        simp at hs
      refine ⟨.pointer (some ⟨g.addr, g.off + (off + fo), none⟩), ?_, by simp only [Den]; exact ⟨g, hG, rfl⟩⟩
      unfold execOp; rw [ho]
      simp only [Instr.fieldAt, Sem.run_bind, underlying_run hu, Result.andThen_ok, hf', Instr.sureAddr, e, Sem.run_pure, fieldPlace, sizeOf_run hi, if_neg hsz, Addr.add]
      rw [← e1]
      by_cases hz : fo = 0
      · simp [hz]
      · simp [hz, Nat.add_assoc]
    | _ => cases h1
  · cases h1
theorem add_none (a o n : Nat) : (Addr.mk a o none).add n = ⟨a, o + n, none⟩ := by unfold Addr.add; split <;> simp_all
theorem elemK_ok {o : Oper} {t : TypeId} {x i : Operand} {b off len cap : Nat} {k : IntKind} {n : Nat} {T : Tm} {h : H} {K : V → H → R γ} {r : γ} (ho : o.op = .indexAddr t x i)
    (hx : ∀ (ξ : Nat → Value) (G : Gh) (a : Act), TDen P ξ G T a → ∃ g c, G[b]? = some (some g) ∧ a.eval x = .slice (some ⟨g.addr, g.off + off, none⟩) len c)
    (hi : evP P T i = some (.int k (Int.ofNat n))) (h0 : elemK P t b off len n h K = .ok r) : PureK P o T h K r := by
  obtain ⟨hl, h1⟩ := cond_ok h0
  have hlt : n < len := Nat.le_of_ble_eq_true hl
  have ht := tyK_of P t
  generalize tyK P t = tk at h1 ht
  cases ht with
  | slc e ii hu hinf =>
    dsimp only at h1
    rw [forceNat_eq] at h1
    refine ⟨_, h1, fun ξ G ac w hT => ?_⟩
    obtain ⟨g, c, hG, e1⟩ := hx ξ G ac hT
    have e2 := evP_den hT hi
    simp only [Den] at e2
    refine ⟨.pointer (some ⟨g.addr, g.off + (off + n * ii.size), none⟩), ?_, by simp only [Den]; exact ⟨g, hG, rfl⟩⟩
    unfold execOp; rw [ho]
    have hr : (0 : Int) ≤ Int.ofNat n ∧ Int.ofNat n < (len : Int) := ⟨Int.natCast_nonneg n, by simpa using hlt⟩
    simp only [Instr.indexAt, Sem.run_bind, asIntOf, e2, Sem.run_pure, Result.andThen_ok, underlying_run hu, e1, if_pos hr, sizeOf_run hinf, add_none]
    simp [Nat.add_assoc]
  | _ => cases h1
theorem opIndexAddr_ok {o : Oper} {t : TypeId} {x i : Operand} {T : Tm} {h : H} {K : V → H → R γ} {r : γ} (ho : o.op = .indexAddr t x i) (h0 : opIndexAddr P t x i T h K = .ok r) : PureK P o T h K r := by
  obtain ⟨v, hv, h1⟩ := ev_ok h0
  obtain ⟨u, hu, h2⟩ := ev_ok h1
  obtain ⟨k, n, rfl, h3⟩ := natK_ok h2
  split at h3
  · exact elemK_ok (cap := 0) ho (fun ξ G a hT => by have hd := evP_den hT hv; simp only [Den] at hd; obtain ⟨g, h1, h2⟩ := hd; exact ⟨g, _, h1, h2⟩) hu h3
  · exact elemK_ok (cap := 0) ho (fun ξ G a hT => by have hd := evP_den hT hv; simp only [Den] at hd; obtain ⟨g, h1, _, _, h2⟩ := hd; exact ⟨g, _, h1, h2⟩) hu h3
  · rename_i b off
    have ht := tyK_of P t
    generalize tyK P t = tk at h3 ht
    cases ht with
    | arr m e ii hun hinf =>
      obtain ⟨hl, h4⟩ := cond_ok h3
      have hlt : n < m := Nat.le_of_ble_eq_true hl
      rw [forceNat_eq] at h4
      refine ⟨_, h4, fun ξ G ac w hT => ?_⟩
      have e1 := evP_den hT hv
      simp only [Den] at e1
      obtain ⟨g, hG, e1⟩ := e1
      have e2 := evP_den hT hu
      simp only [Den] at e2
      refine ⟨.pointer (some ⟨g.addr, g.off + (off + n * ii.size), none⟩), ?_, by simp only [Den]; exact ⟨g, hG, rfl⟩⟩
      unfold execOp; rw [ho]
      have hr : (0 : Int) ≤ Int.ofNat n ∧ Int.ofNat n < (m : Int) := ⟨Int.natCast_nonneg n, by simpa using hlt⟩
      simp only [Instr.indexAt, Sem.run_bind, asIntOf, e2, Sem.run_pure, Result.andThen_ok, underlying_run hun, e1, Instr.sureAddr, if_pos hr, sizeOf_run hinf, add_none]
      simp [Nat.add_assoc]
    | _ => cases h3
  · cases h3
theorem digs_get : ∀ (n c i : Nat), i < n → (digs n c)[i]? = some (UInt8.ofNat (c / 256 ^ (n - i - 1) % 256))
  | 0, _, _, h => by omega
  | n + 1, c, 0, _ => by simp [digs]
  | n + 1, c, i + 1, h => by
    have := digs_get n c i (by omega)
    simp only [digs, List.getElem?_cons_succ, this]
    congr 5
    omega
theorem digs_byte (n c i : Nat) (h : i < n) : ((⟨(digs n c).toArray⟩ : ByteArray))[i]? = some (UInt8.ofNat (lowB n c i)) := by
  have h1 := digs_get n c i h
  have hlt : i < (⟨(digs n c).toArray⟩ : ByteArray).size := by simp [ByteArray.size, digs_length, h]
  rw [ByteArray.getElem?_lt' _ _ hlt]
  rw [List.getElem?_eq_some_iff] at h1
  obtain ⟨hl, h1⟩ := h1
  have : (⟨(digs n c).toArray⟩ : ByteArray)[i] = (digs n c)[i] := by simp [ByteArray.getElem_eq_getElem_data]
  rw [this, h1]
  rfl
theorem ofNat_toNat {n : Nat} (h : n < 256) : (UInt8.ofNat n).toNat = n := by simp; omega
theorem lowB_lt (n c i : Nat) : lowB n c i < 256 := Nat.mod_lt _ (by decide)
theorem opIndex_ok {o : Oper} {t : TypeId} {x i : Operand} {T : Tm} {h : H} {K : V → H → R γ} {r : γ} (ho : o.op = .index t x i) (h0 : opIndex P t x i T h K = .ok r) : PureK P o T h K r := by
  obtain ⟨v, hv, h1⟩ := ev_ok h0
  obtain ⟨u, hu, h2⟩ := ev_ok h1
  obtain ⟨k, n, rfl, h3⟩ := natK_ok h2
  split at h3
  · rename_i m c
    have ht := tyK_of P t
    generalize tyK P t = tk at h3 ht
    cases ht with
    | str hun =>
      obtain ⟨hl, h4⟩ := cond_ok h3
      have hlt : n < m := Nat.le_of_ble_eq_true hl
      rw [forceNat_eq] at h4
      refine ⟨_, h4, fun ξ G ac w hT => ?_⟩
      have e1 := evP_den hT hv
      simp only [Den] at e1
      obtain ⟨_, e1⟩ := e1
      have e2 := evP_den hT hu
      simp only [Den] at e2
      refine ⟨.int .u8 (Int.ofNat (lowB m c n)), ?_, by simp [Den]⟩
      unfold execOp; rw [ho]
      have h0 : (0 : Int) ≤ Int.ofNat n := Int.natCast_nonneg n
      simp only [Instr.index, Sem.run_bind, asIntOf, e2, Sem.run_pure, Result.andThen_ok, underlying_run hun, e1, if_pos h0]
      rw [show (Int.ofNat n).toNat = n from rfl, digs_byte m c n hlt]
      simp only [Sem.run_pure, Result.andThen_ok, ofNat_toNat (lowB_lt m c n)]
      rfl
    | _ => cases h3
  · rename_i cs
    have ht := tyK_of P t
    generalize tyK P t = tk at h3 ht
    cases ht with
    | arr m e ii hun hinf =>
      obtain ⟨hl, h4⟩ := cond_ok h3
      have hlt : n < m := Nat.le_of_ble_eq_true hl
      obtain ⟨y, h5, h6⟩ := partK_ok h4
      refine ⟨_, h5, fun ξ G ac w hT => ?_⟩
      have e1 := evP_den hT hv
      simp only [Den] at e1
      obtain ⟨xs, e1, hd⟩ := e1
      have e2 := evP_den hT hu
      simp only [Den] at e2
      obtain ⟨z, hz, hdz⟩ := h6 w hd
      refine ⟨z, ?_, hdz⟩
      unfold execOp; rw [ho]
      have hr : (0 : Int) ≤ Int.ofNat n ∧ Int.ofNat n < (m : Int) := ⟨Int.natCast_nonneg n, by simpa using hlt⟩
      simp only [Instr.index, Sem.run_bind, asIntOf, e2, Sem.run_pure, Result.andThen_ok, underlying_run hun, e1, if_pos hr, sizeOf_run hinf]
      rw [show (Int.ofNat n).toNat * ii.size = Nat.mul n ii.size from rfl, hz]
      rfl
    | _ => cases h3
  · cases h3
/-! slices of texts and rows -/
theorem optN_ok {T : Tm} {x : Option Operand} {d : Nat} {K : Nat → R γ} {c : Nat} {r : γ} (h : optN P T (.no c) x d K = .ok r) :
    ∃ n, K n = .ok r ∧ ((x = none ∧ n = d) ∨ ∃ y k, x = some y ∧ evP P T y = some (.int k (Int.ofNat n))) := by
  cases x with
  | none => exact ⟨d, h, .inl ⟨rfl, rfl⟩⟩
  | some y =>
    obtain ⟨v, hv, h1⟩ := ev_ok (K := fun v => natK (.no c) v K) h
    obtain ⟨k, n, rfl, h2⟩ := natK_ok h1
    exact ⟨n, h2, .inr ⟨y, k, rfl, hv⟩⟩
theorem sliceBound_run {k : IntKind} {n y : Nat} {code : BoundsCode} (h : n ≤ y) (w : World) : (Instr.sliceBound (.int k (Int.ofNat n)) y code).run P w = .ok n w := by
  have hr : (0 : Int) ≤ Int.ofNat n ∧ Int.ofNat n ≤ (y : Int) := ⟨Int.natCast_nonneg n, by simpa using h⟩
  simp only [Instr.sliceBound, asIntOf, Sem.run_bind, Sem.run_pure, Result.andThen_ok, if_pos hr]
  rfl
/-- the bounds that are meant -/
theorem boundsK_ok {T : Tm} {lo hi mx : Option Operand} {len cap : Nat} {K : Nat → Nat → Option Nat → R γ} {r : γ} (h : boundsK P T lo hi mx len cap K = .ok r) :
    ∃ l n m, K l n m = .ok r ∧ n ≤ m.getD cap ∧ m.getD cap ≤ cap ∧ (m = none ↔ mx = none) ∧ ∀ {ξ : Nat → Value} {G : Gh} {a : Act} {b : Bool} {C : Nat} (w : World), TDen P ξ G T a → (cap ≤ C) → l ≤ n →
      (Instr.sliceBounds b len C (lo.map a.eval) (hi.map a.eval) (mx.map a.eval)).run P w = .ok (l, n, m.getD C) w := by
  obtain ⟨n, h1, hn⟩ := optN_ok h
  obtain ⟨l, h2, hl⟩ := optN_ok h1
  cases mx with
  | none =>
    obtain ⟨hc, h3⟩ := cond_ok h2
    have hle : n ≤ cap := Nat.le_of_ble_eq_true hc
    refine ⟨l, n, none, h3, hle, Nat.le_refl _, by simp, fun {ξ G a b C} w hT hC hln => ?_⟩
    rcases hn with ⟨rfl, rfl⟩ | ⟨z, k, rfl, hz⟩ <;> rcases hl with ⟨rfl, rfl⟩ | ⟨y, k2, rfl, hy⟩
    · rfl
    · have e2 := evP_den hT hy
      simp only [Den] at e2
      simp only [Instr.sliceBounds, Option.map_none, Option.map_some, e2, Sem.run_bind, Sem.run_pure, Result.andThen_ok, sliceBound_run hln]
      rfl
    · have e1 := evP_den hT hz
      simp only [Den] at e1
      have hnC : n ≤ C := by omega
      simp only [Instr.sliceBounds, Option.map_none, Option.map_some, e1, Sem.run_bind, Sem.run_pure, Result.andThen_ok, sliceBound_run hnC]
      rfl
    · have e1 := evP_den hT hz
      have e2 := evP_den hT hy
      simp only [Den] at e1 e2
      have hnC : n ≤ C := by omega
      simp only [Instr.sliceBounds, Option.map_none, Option.map_some, e1, e2, Sem.run_bind, Sem.run_pure, Result.andThen_ok, sliceBound_run hnC, sliceBound_run hln]
      rfl
  | some m =>
    obtain ⟨v, hv, h3⟩ := ev_ok (K := fun v => natK (.no 28) v fun m => cond (Nat.ble m cap) (cond (Nat.ble n m) (Option.rec (.no 30) (fun _ => K l n (some m)) hi) (.no 30)) (.no 30)) h2
    obtain ⟨k, mm, rfl, h4⟩ := natK_ok h3
    obtain ⟨c1, h5⟩ := cond_ok h4
    obtain ⟨c2, h6⟩ := cond_ok h5
    have hm : mm ≤ cap := Nat.le_of_ble_eq_true c1
    have hnm : n ≤ mm := Nat.le_of_ble_eq_true c2
    cases hi with
    | none => cases h6
    | some z =>
      rcases hn with ⟨hz, _⟩ | ⟨z', k', hz', hz⟩
      · cases hz
      · cases hz'
        refine ⟨l, n, some mm, h6, hnm, hm, by simp, fun {ξ G a b C} w hT hC hln => ?_⟩
        have e1 := evP_den hT hv
        have e2 := evP_den hT hz
        simp only [Den] at e1 e2
        have hmC : mm ≤ C := by omega
        rcases hl with ⟨rfl, rfl⟩ | ⟨y, k2, rfl, hy⟩
        · simp only [Instr.sliceBounds, Option.map_none, Option.map_some, e1, e2, Sem.run_bind, Sem.run_pure, Result.andThen_ok, sliceBound_run hmC, sliceBound_run hnm]
          rfl
        · have e3 := evP_den hT hy
          simp only [Den] at e3
          simp only [Instr.sliceBounds, Option.map_none, Option.map_some, e1, e2, e3, Sem.run_bind, Sem.run_pure, Result.andThen_ok, sliceBound_run hmC, sliceBound_run hnm, sliceBound_run hln]
          rfl
theorem digs_cut : ∀ (n c a m : Nat), a + m ≤ n → ((digs n c).drop a).take m = digs m (c / 256 ^ (n - (a + m)) % 256 ^ m) := by
  intro n c a m h
  apply List.ext_getElem?
  intro i
  rw [List.getElem?_take]
  by_cases hi : i < m
  · rw [if_pos hi, List.getElem?_drop, digs_get _ _ _ (by omega), digs_get _ _ _ hi]
    congr 2
    have e : c / 256 ^ (n - (a + m)) % 256 ^ m / 256 ^ (m - i - 1) % 256 = c / 256 ^ (n - (a + m)) / 256 ^ (m - i - 1) % 256 := by
      have e1 : (256 : Nat) ^ m = 256 ^ (m - i - 1) * 256 ^ (i + 1) := by rw [← Nat.pow_add]; congr 1; omega
      rw [e1, Nat.mod_mul_right_div_self]
      have e2 : (256 : Nat) ^ (i + 1) = 256 * 256 ^ i := by rw [Nat.pow_succ']
      rw [e2, Nat.mod_mul_right_mod]
    rw [e, Nat.div_div_eq_div_mul, ← Nat.pow_add]
    congr 3
    omega
  · rw [if_neg hi, List.getElem?_eq_none (by rw [digs_length]; omega)]
theorem extract_digs (n c l m : Nat) (h : l ≤ m) (hm : m ≤ n) : (⟨(digs n c).toArray⟩ : ByteArray).extract l m = ⟨(digs (m - l) (c / 256 ^ (n - m) % 256 ^ (m - l))).toArray⟩ := by
  have := digs_cut n c l (m - l) (by omega)
  rw [show l + (m - l) = m by omega] at this
  rw [← this]
  apply ByteArray.ext
  rw [ByteArray.data_extract]
  apply Array.ext'
  simp [List.extract_eq_take_drop]
theorem den_cut {ξ : Nat → Value} {G : Gh} {b off s lo hi m : Nat} {g : GB} (hG : G[b]? = some (some g)) :
    Den ξ G (if lo = m then .slice b off 0 0 else .slice b (off + lo * s) (hi - lo) (m - lo)) (.slice (some (if m = lo then ⟨g.addr, g.off + off, none⟩ else (⟨g.addr, g.off + off, none⟩ : Addr).add (lo * s))) (if lo = m then 0 else hi - lo) (m - lo)) := by
  by_cases h : lo = m
  · subst h
    simp only [if_pos rfl, Den]
    exact ⟨g, hG, by simp⟩
  · rw [if_neg h, if_neg (fun e => h e.symm), if_neg h]
    simp only [Den]
    exact ⟨g, hG, by rw [add_none, Nat.add_assoc]⟩
theorem cutK_ok {b off s lo hi m : Nat} {h : H} {K : V → H → R γ} {r : γ} (h0 : cutK b off s lo hi m h K = .ok r) :
    lo ≤ hi ∧ K (if lo = m then .slice b off 0 0 else .slice b (off + lo * s) (hi - lo) (m - lo)) h = .ok r := by
  obtain ⟨c1, h1⟩ := cond_ok h0
  refine ⟨Nat.le_of_ble_eq_true c1, ?_⟩
  cases hb : Nat.beq lo m with
  | true =>
    rw [hb] at h1
    rw [if_pos (Nat.eq_of_beq_eq_true hb)]
    exact h1
  | false =>
    rw [hb] at h1
    rw [if_neg (Nat.ne_of_beq_eq_false hb)]
    simp only [cond_false, forceNat_eq] at h1
    exact h1
theorem gcutK_ok {b off s lo hi lb cut : Nat} {h : H} {K : V → H → R γ} {r : γ} (h0 : gcutK b off s lo hi lb cut h K = .ok r) :
    lo ≤ hi ∧ K (if lo = lb then .sle b off cut lo s else .gsl b (off + lo * s) (hi - lo) (lb - lo) (cut + lo)) h = .ok r := by
  obtain ⟨c1, h1⟩ := cond_ok h0
  refine ⟨Nat.le_of_ble_eq_true c1, ?_⟩
  cases hb : Nat.beq lo lb with
  | true =>
    rw [hb] at h1
    rw [if_pos (Nat.eq_of_beq_eq_true hb)]
    exact h1
  | false =>
    rw [hb] at h1
    rw [if_neg (Nat.ne_of_beq_eq_false hb)]
    simp only [cond_false, forceNat_eq] at h1
    exact h1
theorem opSlice_ok {o : Oper} {t : TypeId} {x : Operand} {lo hi mx : Option Operand} {T : Tm} {h : H} {K : V → H → R γ} {r : γ} (ho : o.op = .slice t x lo hi mx) (h0 : opSlice P t x lo hi mx T h K = .ok r) : PureK P o T h K r := by
  obtain ⟨v, hv, h1⟩ := ev_ok h0
  have ht := tyK_of P t
  generalize htk : tyK P t = tk at h1 ht
  split at h1
  · rename_i n c
    cases ht with
    | str hun =>
      obtain ⟨l, hh, m, h2, hc1, hc2, hm, hrun⟩ := boundsK_ok h1
      cases m with
      | some m => cases h2
      | none =>
        have hmx : mx = none := hm.1 rfl
        subst hmx
        obtain ⟨c1, h3⟩ := cond_ok h2
        have hle : l ≤ hh := Nat.le_of_ble_eq_true c1
        simp only [forceNat_eq] at h3
        refine ⟨_, h3, fun ξ G ac w hT => ?_⟩
        have e1 := evP_den hT hv
        simp only [Den] at e1
        obtain ⟨_, e1⟩ := e1
        refine ⟨.string ⟨(digs (hh - l) (c / 256 ^ (n - hh) % 256 ^ (hh - l))).toArray⟩, ?_, by simp only [Den]; exact ⟨Nat.mod_lt _ (Nat.pow_pos (by decide)), rfl⟩⟩
        have hsz : (⟨(digs n c).toArray⟩ : ByteArray).size = n := by simp [ByteArray.size, digs_length]
        have hb := hrun (b := false) (C := n) w hT (Nat.le_refl _) hle
        simp only [Option.map_none, Option.getD_none] at hb
        unfold execOp; rw [ho]
        simp only [Instr.sliceAt, Sem.run_bind, underlying_run hun, Result.andThen_ok, Instr.slice, e1, Option.map_none, Option.isSome_none, hsz, Bool.false_eq_true, if_false, hb, Sem.run_pure]
        have hh' : hh ≤ n := hc1
        rw [extract_digs n c l hh hle hh']
    | _ => cases h1
  · rename_i b off len cap
    cases ht with
    | slc e ii hun hinf =>
      obtain ⟨l, hh, m, h2, hc1, hc2, hm, hrun⟩ := boundsK_ok h1
      have h3 : cutK b off ii.size l hh (m.getD cap) h K = .ok r := by cases m <;> exact h2
      obtain ⟨hle, h4⟩ := cutK_ok h3
      refine ⟨_, h4, fun ξ G ac w hT => ?_⟩
      have e1 := evP_den hT hv
      simp only [Den] at e1
      obtain ⟨g, hG, e1⟩ := e1
      refine ⟨_, ?_, den_cut (s := ii.size) (hi := hh) hG⟩
      have hb := hrun (b := true) (C := cap) w hT (Nat.le_refl _) hle
      unfold execOp; rw [ho]
      simp only [Instr.sliceAt, Sem.run_bind, underlying_run hun, Result.andThen_ok, Instr.slice, e1, hb, sizeOf_run hinf, Sem.run_pure]
      have e5 : (if l = m.getD cap then 0 else hh - l) = hh - l := by split <;> omega
      rw [e5]
      by_cases hq : m.getD cap = l
      · simp [hq]
      · simp [hq]
    | _ => cases h1
  · rename_i b off len lb cut
    cases ht with
    | slc e ii hun hinf =>
      obtain ⟨l, hh, m, h2, hc1, hc2, hm, hrun⟩ := boundsK_ok h1
      cases m with
      | none =>
        have hmx : mx = none := hm.1 rfl
        subst hmx
        obtain ⟨hle, h4⟩ := gcutK_ok h2
        refine ⟨_, h4, fun ξ G ac w hT => ?_⟩
        have e1 := evP_den hT hv
        simp only [Den] at e1
        obtain ⟨g, hG, hcap, hlb, e1⟩ := e1
        have hb := hrun (b := true) (C := g.cap - cut) w hT (by omega) hle
        simp only [Option.getD_none, Option.map_none] at hc1 hb
        refine ⟨.slice (some (if g.cap - cut = l then ⟨g.addr, g.off + off, none⟩ else ⟨g.addr, g.off + off + l * ii.size, none⟩)) (hh - l) (g.cap - cut - l), ?_, ?_⟩
        · unfold execOp; rw [ho]
          simp only [Instr.sliceAt, Sem.run_bind, underlying_run hun, Result.andThen_ok, Instr.slice, e1, hb, sizeOf_run hinf, Sem.run_pure, Option.map_none]
          by_cases hq : g.cap - cut = l
          · simp [hq]
          · simp [hq, add_none]
        · by_cases hq : l = lb
          · rw [if_pos hq]
            simp only [Den]
            refine ⟨g, hG, by omega, ?_⟩
            have : hh - l = 0 := by omega
            rw [this]
            split <;> rfl
          · rw [if_neg hq]
            simp only [Den]
            refine ⟨g, hG, by omega, by omega, ?_⟩
            have : ¬ g.cap - cut = l := by omega
            rw [if_neg this, Nat.sub_sub, Nat.add_assoc]
      | some m =>
        obtain ⟨hle, h4⟩ := cutK_ok h2
        refine ⟨_, h4, fun ξ G ac w hT => ?_⟩
        have e1 := evP_den hT hv
        simp only [Den] at e1
        obtain ⟨g, hG, hcap, hlb, e1⟩ := e1
        have hb := hrun (b := true) (C := g.cap - cut) w hT (by omega) hle
        simp only [Option.getD_some] at hc1 hb
        refine ⟨_, ?_, den_cut (s := ii.size) (hi := hh) hG⟩
        unfold execOp; rw [ho]
        simp only [Instr.sliceAt, Sem.run_bind, underlying_run hun, Result.andThen_ok, Instr.slice, e1, hb, sizeOf_run hinf, Sem.run_pure]
        have e5 : (if l = m then 0 else hh - l) = hh - l := by split <;> omega
        rw [e5]
        by_cases hq : m = l
        · simp [hq]
        · simp [hq]
    | _ => cases h1
  · cases ht with
    | slc e ii hun hinf =>
      obtain ⟨l, hh, m, h2, hc1, hc2, hm, hrun⟩ := boundsK_ok h1
      obtain ⟨c1, h3⟩ := cond_ok h2
      have hle : l ≤ hh := Nat.le_of_ble_eq_true c1
      refine ⟨_, h3, fun ξ G ac w hT => ?_⟩
      have e1 := evP_den hT hv
      simp only [Den] at e1
      have hb := hrun (b := true) (C := 0) w hT (Nat.le_refl _) hle
      refine ⟨.slice none 0 0, ?_, by simp [Den]⟩
      have z1 : hh = 0 := by omega
      have z2 : l = 0 := by omega
      have z3 : m.getD 0 = 0 := by omega
      unfold execOp; rw [ho]
      simp only [Instr.sliceAt, Sem.run_bind, underlying_run hun, Result.andThen_ok, Instr.slice, e1, hb, sizeOf_run hinf, Sem.run_pure, z1, z2, z3]
      simp
    | _ => cases h1
  · rename_i b off
    cases ht with
    | arr n e ii hun hinf =>
      obtain ⟨l, hh, m, h2, hc1, hc2, hm, hrun⟩ := boundsK_ok h1
      have h3 : cutK b off ii.size l hh (m.getD n) h K = .ok r := by cases m <;> exact h2
      obtain ⟨hle, h4⟩ := cutK_ok h3
      refine ⟨_, h4, fun ξ G ac w hT => ?_⟩
      have e1 := evP_den hT hv
      simp only [Den] at e1
      obtain ⟨g, hG, e1⟩ := e1
      refine ⟨_, ?_, den_cut (s := ii.size) (hi := hh) hG⟩
      have hb := hrun (b := false) (C := n) w hT (Nat.le_refl _) hle
      unfold execOp; rw [ho]
      simp only [Instr.sliceAt, Sem.run_bind, underlying_run hun, Result.andThen_ok, Instr.sureAddr, e1, hb, sizeOf_run hinf, Sem.run_pure]
      have e5 : (if l = m.getD n then 0 else hh - l) = hh - l := by split <;> omega
      rw [e5]
    | _ => cases h1
  · cases h1
end
end Go.Ev
namespace Go.Ev
open Go
section
variable {P : Program} {γ : Type}
theorem foldl_set : ∀ (l : List Value) (k off : Nat) (arr : Array Value) (i : Nat),
    ((l.zipIdx k).foldl (fun (cs : Array Value) (p : Value × Nat) => cs.setIfInBounds (off + p.2) p.1) arr)[i]? = if off + k ≤ i ∧ i < off + k + l.length ∧ i < arr.size then l[i - (off + k)]? else arr[i]?
  | [], k, off, arr, i => by simp; omega
  | x :: l, k, off, arr, i => by
    rw [List.zipIdx_cons, List.foldl_cons, foldl_set l (k + 1) off _ i]
    simp only [Array.size_setIfInBounds, List.length_cons, Array.getElem?_setIfInBounds]
    by_cases h1 : i = off + k
    · subst h1
      rw [if_neg (by omega), if_pos rfl]
      by_cases h2 : off + k < arr.size
      · rw [if_pos h2, if_pos (by omega)]
        simp
      · rw [if_neg h2, if_neg (by omega), Array.getElem?_eq_none (by omega)]
    · by_cases h2 : off + (k + 1) ≤ i ∧ i < off + (k + 1) + l.length ∧ i < arr.size
      · rw [if_pos h2, if_pos (by omega)]
        rw [show i - (off + k) = (i - (off + (k + 1))) + 1 by omega, List.getElem?_cons_succ]
      · rw [if_neg h2, if_neg (fun e => h1 e.symm), if_neg (by omega)]
theorem foldl_set_size : ∀ (l : List (Value × Nat)) (off : Nat) (arr : Array Value), (l.foldl (fun (cs : Array Value) (p : Value × Nat) => cs.setIfInBounds (off + p.2) p.1) arr).size = arr.size
  | [], _, _ => rfl
  | x :: l, off, arr => by rw [List.foldl_cons, foldl_set_size l off]; simp
/-- v's cells -/
theorem cellsK_eq {v : V} {K : List V → R γ} : v.cellsK K = K (match v with | .agg l => l | v => [v]) := by cases v <;> rfl
def V.cells : V → List V
  | .agg l => l
  | v => [v]
theorem cellsK_cells (v : V) (K : List V → R γ) : v.cellsK K = K v.cells := by cases v <;> rfl
theorem den_cells {ξ : Nat → Value} {G : Gh} {v : V} {x : Value} (h : Den ξ G v x) : DenL ξ G v.cells x.cells.toList := by
  cases v with
  | agg l => simp only [Den] at h; obtain ⟨a, rfl, hd⟩ := h; exact hd
  | opq i =>
    have hx : ∀ cs, x ≠ .agg cs := by simp only [Den] at h; exact h.2
    have : x.cells = #[x] := by cases x <;> first | rfl | exact absurd rfl (hx _)
    rw [this]
    exact .one h
  | _ =>
    have h' := h
    simp only [Den] at h
    have : x.cells = #[x] := by
      first
        | (subst h; rfl)
        | (obtain ⟨_, rfl⟩ := h; rfl)
        | (obtain ⟨_, _, rfl⟩ := h; rfl)
        | (obtain ⟨_, rfl, _⟩ := h; rfl)
        | (obtain ⟨_, _, rfl, _⟩ := h; rfl)
        | (obtain ⟨_, _, _, rfl⟩ := h; rfl)
        | (obtain ⟨_, _, _, _, rfl⟩ := h; rfl)
    rw [this]
    exact .one h'
theorem partsK_ok {T : Tm} {place : Nat → (Nat → Nat → R γ) → R γ} {pl : Nat → Option (Nat × Nat)} {ps : List (Nat × Operand)} {cs : List V} {K : List V → R γ} {c : Nat} {r : γ}
    (hp : ∀ i (k : Nat → Nat → R γ), place i k = .ok r → ∃ off s, pl i = some (off, s) ∧ k off s = .ok r)
    (h : partsK P T (.no c) place ps cs K = .ok r) :
    ∃ cs', K cs' = .ok r ∧ cs'.length = cs.length ∧ ∀ {ξ : Nat → Value} {G : Gh} {a : Act} {xs : Array Value}, TDen P ξ G T a → DenL ξ G cs xs.toList →
      ∃ ys : Array Value, Instr.fill pl xs (ps.map fun p => (p.1, a.eval p.2)) = some ys ∧ DenL ξ G cs' ys.toList := by
  induction ps generalizing cs with
  | nil => exact ⟨cs, h, rfl, fun _ hd => ⟨_, rfl, hd⟩⟩
  | cons p ps ih =>
    obtain ⟨off, s, hpl, h1⟩ := hp _ (fun off s => ev P T (.no c) p.2 fun v => v.cellsK fun xs => llen xs fun n => cond (Nat.beq n s) (lsplice (.no c) off xs cs fun cs => partsK P T (.no c) place ps cs K) (.no c)) h
    obtain ⟨v, hv, h2⟩ := ev_ok h1
    rw [cellsK_cells, llen_eq] at h2
    obtain ⟨hs, h3⟩ := cond_ok h2
    have hs' : v.cells.length = s := Nat.eq_of_beq_eq_true hs
    obtain ⟨hle, h4⟩ := lsplice_ok h3
    obtain ⟨cs', h5, h6, h7⟩ := ih h4
    refine ⟨cs', h5, ?_, fun {ξ G a xs} hT hd => ?_⟩
    · rw [h6]; simp; omega
    · have hdv := den_cells (evP_den hT hv)
      have hlx : xs.size = cs.length := by have := hd.length; simpa using this
      have hlv : (a.eval p.2).cells.size = v.cells.length := by have := hdv.length; simpa using this
      have hx2 : DenL ξ G (cs.take off ++ v.cells ++ cs.drop (off + v.cells.length)) ((a.eval p.2).cells.zipIdx.foldl (fun (cs : Array Value) (q : Value × Nat) => cs.setIfInBounds (off + q.2) q.1) xs).toList := by
        rw [← Array.foldl_toList, Array.toList_zipIdx]
        have e : ((a.eval p.2).cells.toList.zipIdx.foldl (fun (cs : Array Value) (q : Value × Nat) => cs.setIfInBounds (off + q.2) q.1) xs).toList = xs.toList.take off ++ (a.eval p.2).cells.toList ++ xs.toList.drop (off + v.cells.length) := by
          apply List.ext_getElem?
          intro i
          rw [Array.getElem?_toList, foldl_set]
          simp only [Nat.add_zero, Array.length_toList]
          rw [List.getElem?_append, List.getElem?_append]
          simp only [List.length_append, List.length_take, Array.length_toList, List.getElem?_take, List.getElem?_drop, Array.getElem?_toList]
          have hm : min off xs.size = off := by omega
          rw [hm]
          by_cases c1 : i < off
          · rw [if_neg (by omega), if_pos (by omega), if_pos c1, if_pos c1]
          · by_cases c2 : i < off + (a.eval p.2).cells.size
            · rw [if_pos (by omega), if_pos (by omega), if_neg c1]
            · rw [if_neg (by omega), if_neg (by omega)]
              congr 1
              omega
        rw [e]
        exact ((hd.take off).append hdv).append (hd.drop _)
      obtain ⟨ys, h8, h9⟩ := h7 hT hx2
      refine ⟨ys, ?_, h9⟩
      simp only [List.map_cons, Instr.fill, hpl]
      have hc : ¬ ((a.eval p.2).cells.size ≠ s ∨ off + (a.eval p.2).cells.size > xs.size) := by
        have q1 : off + v.cells.length ≤ cs.length := hle
        omega
      rw [if_neg (by simpa only [Bool.or_eq_true, decide_eq_true_eq] using hc)]
      exact h8
theorem opBuild_ok {o : Oper} {t : TypeId} {ps : Array (Nat × Operand)} {T : Tm} {h : H} {K : V → H → R γ} {r : γ} (ho : o.op = .build t ps) (h0 : opBuild P t ps T h K = .ok r) : PureK P o T h K r := by
  obtain ⟨v, hv, h1⟩ := ofVal_some h0
  rw [cellsK_cells] at h1
  unfold zeroV at hv
  split at hv
  case h_2 => cases hv
  rename_i it hit
  split at hv
  case h_2 => cases hv
  rename_i z hz
  have ht := tyK_of P t
  generalize tyK P t = tk at h1 ht
  have fin : ∀ {pl : Nat → Option (Nat × Nat)} {place : Nat → (Nat → Nat → R γ) → R γ}, (∀ i (k : Nat → Nat → R γ), place i k = .ok r → ∃ off s, pl i = some (off, s) ∧ k off s = .ok r) →
      (∀ l, Instr.fill pl z.cells l = P.built t l) → (partsK P T (.no 5) place ps.toList v.cells fun cs => K (.agg cs) h) = .ok r → PureK P o T h K r := by
    intro pl place hp hb hk
    obtain ⟨cs', h2, _, h3⟩ := partsK_ok hp hk
    refine ⟨_, h2, fun ξ G a w hT => ?_⟩
    obtain ⟨ys, h4, h5⟩ := h3 hT (den_cells (ofVal_den hv))
    refine ⟨.agg ys, ?_, by simp only [Den]; exact ⟨ys, rfl, h5⟩⟩
    unfold execOp; rw [ho]
    have := run_build (P := P) w t (ps.map fun p => (p.1, a.eval p.2)) ys (by rw [← hb]; simpa using h4)
    simp only [Sem.run_bind, this, Result.andThen_ok]
    rfl
  cases ht with
  | agg fs l hu hl =>
    refine fin (pl := fun i => (l[i]?).map fun f => (f.1, f.2.1)) ?_ ?_ h1
    · intro i k hk
      obtain ⟨f, hf, h2⟩ := lget_ok hk
      exact ⟨_, _, by rw [hf]; rfl, h2⟩
    · intro q
      unfold Program.built
      simp only [hit, hu, hz]
      have hm : fs.toList.mapM (fun f => (P.info? f.type).map fun i => (f.offset, i.size)) = some (l.map fun f => (f.1, f.2.1)) := by
        clear fin h1 hu
        generalize fs.toList = fl at hl
        induction fl generalizing l with
        | nil => simp [fieldsK] at hl; subst hl; rfl
        | cons f fl ih =>
          simp only [fieldsK] at hl
          split at hl
          · rename_i i hi
            split at hl
            · rename_i l' hl'
              simp at hl; subst hl
              simp [List.mapM_cons, hi, ih l' hl']
            · cases hl
          · cases hl
      rw [hm]
      dsimp only
      congr 1
      funext i
      simp
  | arr n e ii hu hi =>
    refine fin (pl := fun i => some (i * ii.size, ii.size)) ?_ ?_ h1
    · intro i k hk
      exact ⟨_, _, rfl, hk⟩
    · intro q
      unfold Program.built
      simp only [hit, hu, hz, hi]
  | _ => cases h1
/-! comparing, and what else two operands give -/
theorem eqJ_eq : ∀ {j k : IntKind}, eqJ j k = true → j = k := by intro j k; cases j <;> cases k <;> simp [eqJ]
theorem digs_inj : ∀ {n a b : Nat}, a < 256 ^ n → b < 256 ^ n → digs n a = digs n b → a = b
  | 0, a, b, ha, hb, _ => by simp at ha hb; omega
  | n + 1, a, b, ha, hb, h => by
    simp only [digs, List.cons.injEq] at h
    obtain ⟨h1, h2⟩ := h
    have e1 : a / 256 ^ n % 256 = b / 256 ^ n % 256 := by
      have := congrArg UInt8.toNat h1
      rw [ofNat_toNat (Nat.mod_lt _ (by decide)), ofNat_toNat (Nat.mod_lt _ (by decide))] at this
      exact this
    have q1 : a / 256 ^ n < 256 := by rw [Nat.div_lt_iff_lt_mul (Nat.pow_pos (by decide)), ← Nat.pow_succ']; exact ha
    have q2 : b / 256 ^ n < 256 := by rw [Nat.div_lt_iff_lt_mul (Nat.pow_pos (by decide)), ← Nat.pow_succ']; exact hb
    rw [Nat.mod_eq_of_lt q1, Nat.mod_eq_of_lt q2] at e1
    have da := Nat.div_add_mod a (256 ^ n)
    have db := Nat.div_add_mod b (256 ^ n)
    have ra : digs n a = digs n (a % 256 ^ n) := by
      conv => lhs; rw [← da, Nat.mul_comm]
      exact digs_add n _ _
    have rb : digs n b = digs n (b % 256 ^ n) := by
      conv => lhs; rw [← db, Nat.mul_comm]
      exact digs_add n _ _
    rw [ra, rb] at h2
    have := digs_inj (Nat.mod_lt a (Nat.pow_pos (by decide))) (Nat.mod_lt b (Nat.pow_pos (by decide))) h2
    rw [← da, ← db, e1, this]
theorem eqS_eq {n a m b : Nat} (ha : a < 256 ^ n) (hb : b < 256 ^ m) : eqS n a m b = (digs n a == digs m b) := by
  unfold eqS
  cases h : Nat.beq n m with
  | false =>
    have hne := Nat.ne_of_beq_eq_false h
    have : digs n a ≠ digs m b := fun e => hne (by have := congrArg List.length e; simpa [digs_length] using this)
    simp [this]
  | true =>
    have := Nat.eq_of_beq_eq_true h
    subst this
    rw [cond_true, Bool.eq_iff_iff]
    simp only [beq_iff_eq]
    constructor
    · intro e; rw [Nat.eq_of_beq_eq_true e]
    · intro e; rw [digs_inj ha hb e]; exact Nat.beq_refl b
theorem bytes_list (l : List UInt8) : (⟨l.toArray⟩ : ByteArray).toList = l := by simp
theorem bytesLess_cons (x : UInt8) (l : List UInt8) (y : UInt8) (m : List UInt8) : Op.bytesLess (x :: l) (y :: m) = (decide (x < y) || (x == y && Op.bytesLess l m)) := rfl
theorem pow_pos' (n : Nat) : 0 < 256 ^ n := Nat.pow_pos (by decide)
/-- of texts as long as each other the less one has the less number -/
theorem less_same : ∀ {n a b : Nat}, a < 256 ^ n → b < 256 ^ n → Op.bytesLess (digs n a) (digs n b) = decide (a < b)
  | 0, a, b, ha, hb => by simp at ha hb; subst ha; subst hb; rfl
  | n + 1, a, b, ha, hb => by
    have q1 : a / 256 ^ n < 256 := by rw [Nat.div_lt_iff_lt_mul (pow_pos' n), ← Nat.pow_succ']; exact ha
    have q2 : b / 256 ^ n < 256 := by rw [Nat.div_lt_iff_lt_mul (pow_pos' n), ← Nat.pow_succ']; exact hb
    have da := Nat.div_add_mod a (256 ^ n)
    have db := Nat.div_add_mod b (256 ^ n)
    have la := Nat.mod_lt a (pow_pos' n)
    have lb := Nat.mod_lt b (pow_pos' n)
    have ra : digs n a = digs n (a % 256 ^ n) := by
      conv => lhs; rw [← da, Nat.mul_comm]
      exact digs_add n _ _
    have rb : digs n b = digs n (b % 256 ^ n) := by
      conv => lhs; rw [← db, Nat.mul_comm]
      exact digs_add n _ _
    simp only [digs, bytesLess_cons]
    rw [ra, rb, less_same la lb, Nat.mod_eq_of_lt q1, Nat.mod_eq_of_lt q2]
    have hlt : (UInt8.ofNat (a / 256 ^ n) < UInt8.ofNat (b / 256 ^ n)) ↔ a / 256 ^ n < b / 256 ^ n := by
      rw [UInt8.lt_iff_toNat_lt, ofNat_toNat q1, ofNat_toNat q2]
    have heq : (UInt8.ofNat (a / 256 ^ n) = UInt8.ofNat (b / 256 ^ n)) ↔ a / 256 ^ n = b / 256 ^ n := by
      rw [← UInt8.toNat_inj, ofNat_toNat q1, ofNat_toNat q2]
    rw [Bool.eq_iff_iff]
    simp only [Bool.or_eq_true, decide_eq_true_eq, Bool.and_eq_true, beq_iff_eq, hlt, heq]
    constructor
    · rintro (h | ⟨h1, h2⟩)
      · rw [← da, ← db]
        have : 256 ^ n * (a / 256 ^ n + 1) ≤ 256 ^ n * (b / 256 ^ n) := Nat.mul_le_mul_left _ h
        rw [Nat.mul_add] at this
        omega
      · rw [← da, ← db, h1]; omega
    · intro h
      rcases Nat.lt_trichotomy (a / 256 ^ n) (b / 256 ^ n) with h1 | h1 | h1
      · exact .inl h1
      · refine .inr ⟨h1, ?_⟩
        rw [← da, ← db, h1] at h
        omega
      · exfalso
        have : 256 ^ n * (b / 256 ^ n + 1) ≤ 256 ^ n * (a / 256 ^ n) := Nat.mul_le_mul_left _ h1
        rw [Nat.mul_add] at this
        omega
theorem digs_shift : ∀ (n k a : Nat), digs (n + k) (a * 256 ^ k) = digs n a ++ List.replicate k 0
  | 0, 0, a => rfl
  | 0, k + 1, a => by
    have := digs_shift 0 k (a * 256)
    rw [Nat.zero_add] at this ⊢
    simp only [digs, List.nil_append] at this ⊢
    rw [Nat.pow_succ', ← Nat.mul_assoc, this, List.replicate_succ]
    congr 1
    rw [Nat.mul_div_cancel _ (pow_pos' k), Nat.mul_mod_left]
    rfl
  | n + 1, k, a => by
    rw [show n + 1 + k = (n + k) + 1 by omega]
    simp only [digs, List.cons_append]
    rw [digs_shift n k a]
    congr 2
    rw [Nat.pow_add, Nat.mul_comm a, Nat.mul_comm (256 ^ n), Nat.mul_div_mul_left _ _ (pow_pos' k)]
theorem less_pad : ∀ (l m : List UInt8) (k : Nat), l.length + k = m.length → Op.bytesLess l m = (Op.bytesLess (l ++ List.replicate k 0) m || ((l ++ List.replicate k 0 == m) && decide (0 < k)))
  | [], [], 0, _ => rfl
  | [], [], k + 1, h => by simp at h
  | [], y :: m, 0, h => by simp at h
  | [], y :: m, k + 1, h => by
    have ih : Op.bytesLess ([] : List UInt8) m = (Op.bytesLess (List.replicate k 0) m || ((List.replicate k 0 == m) && decide (0 < k))) := less_pad [] m k (by simpa using h)
    simp only [List.nil_append, List.replicate_succ, bytesLess_cons]
    have hl : Op.bytesLess ([] : List UInt8) (y :: m) = true := rfl
    rw [hl]
    by_cases hy : y = 0
    · subst hy
      cases m with
      | nil => simp at h; subst h; simp
      | cons z m =>
        have e0 : Op.bytesLess ([] : List UInt8) (z :: m) = true := rfl
        rw [e0] at ih
        simp at ih ⊢
        rcases ih with h1 | h1
        · exact .inl h1
        · exact .inr h1.1
    · have : (0 : UInt8) < y := by
        rw [UInt8.lt_iff_toNat_lt]
        have : y.toNat ≠ 0 := fun e => hy (by rw [← UInt8.toNat_inj]; exact e)
        exact Nat.pos_of_ne_zero this
      simp [this]
  | x :: l, [], k, h => by simp at h
  | x :: l, y :: m, k, h => by
    have ih := less_pad l m k (by simp at h; omega)
    simp only [List.cons_append, bytesLess_cons, ih]
    by_cases hxy : x = y
    · subst hxy; simp
    · have hf : (x == y) = false := by simpa using hxy
      simp [hf]
theorem ltS_eq {n a m b : Nat} (ha : a < 256 ^ n) (hb : b < 256 ^ m) : ltS n a m b = Op.bytesLess (digs n a) (digs m b) := by
  unfold ltS
  cases hc : Nat.ble n m with
  | true =>
    have hle := Nat.le_of_ble_eq_true hc
    have e := less_pad (digs n a) (digs m b) (m - n) (by simp [digs_length]; omega)
    have hs := digs_shift n (m - n) a
    rw [show n + (m - n) = m by omega] at hs
    have ha2 : a * 256 ^ (m - n) < 256 ^ m := by
      have : (256 : Nat) ^ m = 256 ^ n * 256 ^ (m - n) := by rw [← Nat.pow_add]; congr 1; omega
      rw [this]; exact Nat.mul_lt_mul_of_pos_right ha (pow_pos' _)
    rw [e, ← hs, less_same ha2 hb]
    have h2 : (digs m (a * 256 ^ (m - n)) == digs m b) = decide (a * 256 ^ (m - n) = b) := by
      rw [Bool.eq_iff_iff]; simp only [beq_iff_eq, decide_eq_true_eq]
      exact ⟨fun h => digs_inj ha2 hb h, fun h => by rw [h]⟩
    rw [h2]
    show cond (Nat.ble (Nat.succ (a * 256 ^ (m - n))) b) true (cond (Nat.beq (a * 256 ^ (m - n)) b) (Nat.ble (Nat.succ n) m) false) = _
    generalize a * 256 ^ (m - n) = x
    rcases Nat.lt_trichotomy x b with h | h | h
    · have : Nat.ble (Nat.succ x) b = true := Nat.ble_eq_true_of_le h
      simp [this, h]
    · subst h
      have q1 : Nat.ble (Nat.succ x) x = false := by rw [Bool.eq_false_iff]; intro h; have := Nat.le_of_ble_eq_true h; omega
      simp only [q1, Nat.beq_refl, cond_true, cond_false]
      rw [Bool.eq_iff_iff, Nat.ble_eq]
      simp; omega
    · have q1 : Nat.ble (Nat.succ x) b = false := by rw [Bool.eq_false_iff]; intro h'; have := Nat.le_of_ble_eq_true h'; omega
      have q2 : Nat.beq x b = false := by rw [Bool.eq_false_iff]; intro h'; have := Nat.eq_of_beq_eq_true h'; omega
      simp only [q1, q2, cond_false]
      have n1 : ¬ x < b := by omega
      have n2 : ¬ x = b := by omega
      simp [n1, n2]
  | false =>
    have hle : ¬ n ≤ m := fun h => by rw [Nat.ble_eq_true_of_le h] at hc; cases hc
    have hs := digs_shift m (n - m) b
    rw [show m + (n - m) = n by omega] at hs
    have hb2 : b * 256 ^ (n - m) < 256 ^ n := by
      have : (256 : Nat) ^ n = 256 ^ m * 256 ^ (n - m) := by rw [← Nat.pow_add]; congr 1; omega
      rw [this]; exact Nat.mul_lt_mul_of_pos_right hb (pow_pos' _)
    -- a longer text: less just where the other one, padded, is greater
    have key : ∀ (l m : List UInt8) (k : Nat), m.length + k = l.length → 0 < k → Op.bytesLess l m = Op.bytesLess l (m ++ List.replicate k 0) := by
      intro l
      induction l with
      | nil => intro m k h hk; simp at h; omega
      | cons x l ih =>
        intro m k h hk
        cases m with
        | nil =>
          have : ∀ (l : List UInt8) (k : Nat), l.length = k → Op.bytesLess l (List.replicate k 0) = false := by
            intro l
            induction l with
            | nil => intro k h; simp at h; subst h; rfl
            | cons x l ih => intro k h; cases k with
              | zero => simp at h
              | succ k =>
                rw [List.replicate_succ, bytesLess_cons, ih k (by simpa using h)]
                simp
          rw [List.nil_append, this _ _ (by simpa using h.symm)]
          rfl
        | cons y m => simp only [List.cons_append, bytesLess_cons]; rw [ih m k (by simp at h; omega) hk]
    rw [key _ _ (n - m) (by simp [digs_length]; omega) (by omega), ← hs, less_same ha hb2]
    show Nat.ble (Nat.succ a) (b * 256 ^ (n - m)) = _
    rw [Bool.eq_iff_iff, Nat.ble_eq]
    simp; omega
theorem digs_append (n a m b : Nat) (hb : b < 256 ^ m) : digs (n + m) (a * 256 ^ m + b) = digs n a ++ digs m b := by
  induction n with
  | zero =>
    simp only [Nat.zero_add, digs, List.nil_append]
    exact digs_add m a b
  | succ n ih =>
    rw [show n + 1 + m = (n + m) + 1 by omega]
    simp only [digs, List.cons_append, ih]
    congr 2
    have : (a * 256 ^ m + b) / 256 ^ (n + m) = a / 256 ^ n := by
      rw [Nat.add_comm n m, Nat.pow_add, ← Nat.div_div_eq_div_mul, Nat.mul_comm a, Nat.mul_add_div (pow_pos' m), Nat.div_eq_of_lt hb, Nat.add_zero]
    rw [this]
end
end Go.Ev
namespace Go.Ev
open Go
section
variable {P : Program} {γ : Type}
theorem bitsN_eq (k : IntKind) (a : Int) : bitsN k a = (BitVec.ofInt k.bits a).toNat := by
  rw [BitVec.toNat_ofInt]; rfl
/-- arithmetic at integers of one kind -/
theorem binInt_ok {op : BinOp} {k : IntKind} {a b : Int} {K : V → R γ} {c : Nat} {r : γ} (hs : op ≠ .shl ∧ op ≠ .shr) (h : binInt op (.no c) k a b K = .ok r) :
    ∃ v x, K v = .ok r ∧ (∀ (ξ : Nat → Value) G, Den ξ G v x) ∧ ∀ (t : TypeId) w, (binOp op t (.int k a) (.int k b)).run P w = .ok x w := by
  have hI : ∀ n : Int, K (.int k (k.wrap n)) = .ok r → (∀ (t : TypeId) w, (binOp op t (.int k a) (.int k b)).run P w = .ok (.int k (k.wrap n)) w) →
      ∃ v x, K v = .ok r ∧ (∀ (ξ : Nat → Value) G, Den ξ G v x) ∧ ∀ (t : TypeId) w, (binOp op t (.int k a) (.int k b)).run P w = .ok x w :=
    fun n h1 h2 => ⟨_, _, h1, fun _ _ => by simp [Den], h2⟩
  have hB : ∀ z : Bool, K (.bool z) = .ok r → (∀ (t : TypeId) w, (binOp op t (.int k a) (.int k b)).run P w = .ok (.bool z) w) →
      ∃ v x, K v = .ok r ∧ (∀ (ξ : Nat → Value) G, Den ξ G v x) ∧ ∀ (t : TypeId) w, (binOp op t (.int k a) (.int k b)).run P w = .ok x w :=
    fun n h1 h2 => ⟨_, _, h1, fun _ _ => by simp [Den], h2⟩
  cases op with
  | shl => exact absurd rfl hs.1
  | shr => exact absurd rfl hs.2
  | add => exact hI (a + b) ((intK_eq _ _ _).symm.trans h) fun t w => by simp [binOp, Op.intArith]
  | sub => exact hI (a - b) ((intK_eq _ _ _).symm.trans h) fun t w => by simp [binOp, Op.intArith]
  | mul => exact hI (a * b) ((intK_eq _ _ _).symm.trans h) fun t w => by simp [binOp, Op.intArith]
  | quo =>
    obtain ⟨h1, h2⟩ := cond_no h
    rw [eqI_eq] at h1
    have hb : ¬ b = 0 := by simpa using h1
    exact hI (a.tdiv b) ((intK_eq _ _ _).symm.trans h2) fun t w => by simp [binOp, Op.intDiv, hb]
  | rem =>
    obtain ⟨h1, h2⟩ := cond_no h
    rw [eqI_eq] at h1
    have hb : ¬ b = 0 := by simpa using h1
    rw [forceInt_eq] at h2
    exact ⟨_, .int k (a.tmod b), h2, fun _ _ => by simp only [Den], fun t w => by simp [binOp, Op.intDiv, hb]⟩
  | eql => exact hB (decide (a = b)) (by rw [← eqI_eq]; exact (boolK_eq _ _).symm.trans h) fun t w => by simp [binOp, Op.intCmp]; rfl
  | neq => exact hB (!decide (a = b)) (by rw [← eqI_eq]; exact (nboolK_eq _ _).symm.trans h) fun t w => by simp [binOp, Op.intCmp]; rfl
  | lss => exact hB (decide (a < b)) (by rw [← ltI_eq]; exact (boolK_eq _ _).symm.trans h) fun t w => by simp [binOp, Op.intCmp]
  | leq =>
    exact hB (!decide (b < a)) (by rw [← ltI_eq]; exact (nboolK_eq _ _).symm.trans h) fun t w => by
      have : decide (a ≤ b) = !decide (b < a) := by rw [Bool.eq_iff_iff]; simp
      simp [binOp, Op.intCmp, this]
  | gtr => exact hB (decide (b < a)) (by rw [← ltI_eq]; exact (boolK_eq _ _).symm.trans h) fun t w => by simp [binOp, Op.intCmp]
  | geq =>
    exact hB (!decide (a < b)) (by rw [← ltI_eq]; exact (nboolK_eq _ _).symm.trans h) fun t w => by
      have : decide (b ≤ a) = !decide (a < b) := by rw [Bool.eq_iff_iff]; simp
      simp [binOp, Op.intCmp, this]
  | and =>
    have h' : K (.int k (k.wrap (Int.ofNat (Nat.land (bitsN k a) (bitsN k b))))) = .ok r := (intK_eq _ _ _).symm.trans ((forceNat_eq _ (fun n => intK k (Int.ofNat n) K)).symm.trans h)
    rw [bitsN_eq, bitsN_eq] at h'
    exact hI _ h' fun t w => by simp [binOp, Op.intBits]
  | or =>
    have h' : K (.int k (k.wrap (Int.ofNat (Nat.lor (bitsN k a) (bitsN k b))))) = .ok r := (intK_eq _ _ _).symm.trans ((forceNat_eq _ (fun n => intK k (Int.ofNat n) K)).symm.trans h)
    rw [bitsN_eq, bitsN_eq] at h'
    exact hI _ h' fun t w => by simp [binOp, Op.intBits]
  | xor =>
    have h' : K (.int k (k.wrap (Int.ofNat (Nat.xor (bitsN k a) (bitsN k b))))) = .ok r := (intK_eq _ _ _).symm.trans ((forceNat_eq _ (fun n => intK k (Int.ofNat n) K)).symm.trans h)
    rw [bitsN_eq, bitsN_eq] at h'
    exact hI _ h' fun t w => by simp [binOp, Op.intBits]
  | andNot =>
    have h' : K (.int k (k.wrap (Int.ofNat (Nat.land (bitsN k a) (Nat.sub (Nat.sub (Nat.pow 2 k.bits) 1) (bitsN k b)))))) = .ok r := (intK_eq _ _ _).symm.trans ((forceNat_eq _ (fun n => intK k (Int.ofNat n) K)).symm.trans h)
    rw [bitsN_eq, bitsN_eq] at h'
    exact hI _ h' fun t w => by
      simp only [binOp, Op.intBits, ne_eq, not_true_eq_false, if_false, Sem.run_pure]
      rw [BitVec.toNat_and, BitVec.toNat_not]
      rfl
theorem shift_ok {op : BinOp} {k j : IntKind} {a b : Int} {K : V → R γ} {c : Nat} {r : γ} (hs : (op = .shl ∧ iShl (.no c) k a b K = .ok r) ∨ (op = .shr ∧ iShr (.no c) k a b K = .ok r)) :
    ∃ v x, K v = .ok r ∧ (∀ (ξ : Nat → Value) G, Den ξ G v x) ∧ ∀ (t : TypeId) w, (binOp op t (.int k a) (.int j b)).run P w = .ok x w := by
  rcases hs with ⟨rfl, h⟩ | ⟨rfl, h⟩
  · cases b with
    | negSucc b => cases h
    | ofNat b =>
      have h' : K (.int k (k.wrap (Int.mul a (Int.ofNat (Nat.pow 2 (Nat.min b k.bits)))))) = .ok r := (intK_eq _ _ _).symm.trans h
      refine ⟨_, .int k (k.wrap (Int.mul a (Int.ofNat (Nat.pow 2 (Nat.min b k.bits))))), h', fun _ _ => by simp [Den], fun t w => ?_⟩
      have h0 : ¬ (Int.ofNat b < 0) := by simp
      simp only [binOp, Op.shift, if_neg h0, Sem.run_pure]
      congr 2
  · cases b with
    | negSucc b => cases a <;> cases h
    | ofNat b =>
      cases a with
      | negSucc a => cases h
      | ofNat a =>
        have h' : forceNat (Nat.div a (Nat.pow 2 (Nat.min b k.bits))) (fun n => K (.int k (.ofNat n))) = .ok r := h
        rw [forceNat_eq] at h'
        refine ⟨_, .int k (Int.ofNat (Nat.div a (Nat.pow 2 (Nat.min b k.bits)))), h', fun _ _ => by simp only [Den], fun t w => ?_⟩
        have h0 : ¬ (Int.ofNat b < 0) := by simp
        simp only [binOp, Op.shift, if_neg h0, Sem.run_pure]
        congr 2
        rw [show (Int.ofNat b).toNat = b from rfl]
        show Int.fdiv (a : Int) (2 ^ min b k.bits) = ((a / 2 ^ min b k.bits : Nat) : Int)
        have : (2 : Int) ^ min b k.bits = ((2 ^ min b k.bits : Nat) : Int) := by rw [Int.natCast_pow]; rfl
        rw [this, Int.fdiv_eq_ediv_of_nonneg _ (Int.natCast_nonneg _)]
        rfl
theorem binI_ok {op : BinOp} {k j : IntKind} {a b : Int} {K : V → R γ} {r : γ} (h : binI op k j a b K = .ok r) :
    ∃ v x, K v = .ok r ∧ (∀ (ξ : Nat → Value) G, Den ξ G v x) ∧ ∀ (t : TypeId) w, (binOp op t (.int k a) (.int j b)).run P w = .ok x w := by
  by_cases h1 : op = .shl
  · subst h1; exact shift_ok (.inl ⟨rfl, h⟩)
  · by_cases h2 : op = .shr
    · subst h2; exact shift_ok (.inr ⟨rfl, h⟩)
    · have h' : cond (eqJ k j) (binInt op (.no 103) k a b K) (.no 103) = .ok r := by cases op <;> first | exact h | exact absurd rfl h1 | exact absurd rfl h2
      obtain ⟨e, h3⟩ := cond_ok h'
      cases eqJ_eq e
      exact binInt_ok ⟨h1, h2⟩ h3
theorem binStr_ok {op : BinOp} {n a m b : Nat} {K : V → R γ} {r : γ} (h : binStr op n a m b K = .ok r) :
    ∃ v x, K v = .ok r ∧ (a < 256 ^ n → b < 256 ^ m → (∀ (ξ : Nat → Value) G, Den ξ G v x) ∧ ∀ (t : TypeId) w, (binOp op t (.string ⟨(digs n a).toArray⟩) (.string ⟨(digs m b).toArray⟩)).run P w = .ok x w) := by
  have hB : ∀ z : Bool, K (.bool z) = .ok r → (a < 256 ^ n → b < 256 ^ m → ∀ (t : TypeId) w, (binOp op t (.string ⟨(digs n a).toArray⟩) (.string ⟨(digs m b).toArray⟩)).run P w = .ok (.bool z) w) →
      ∃ v x, K v = .ok r ∧ (a < 256 ^ n → b < 256 ^ m → (∀ (ξ : Nat → Value) G, Den ξ G v x) ∧ ∀ (t : TypeId) w, (binOp op t (.string ⟨(digs n a).toArray⟩) (.string ⟨(digs m b).toArray⟩)).run P w = .ok x w) :=
    fun n h1 h2 => ⟨_, .bool n, h1, fun q1 q2 => ⟨fun _ _ => by simp only [Den], h2 q1 q2⟩⟩
  have beqc : ∀ l m : List UInt8, (l == m) = (m == l) := fun l m => by rw [Bool.eq_iff_iff]; simp only [beq_iff_eq]; exact eq_comm
  cases op with
  | add =>
    have h' : forceNat (Nat.add n m) (fun s => cond (Nat.ble s 9223372036854775807) (forceNat (Nat.add (Nat.mul a (Nat.pow 256 m)) b) fun c => K (.str s c)) (.no 106)) = .ok r := h
    rw [forceNat_eq] at h'
    obtain ⟨hc, h'⟩ := cond_ok h'
    have hl : n + m ≤ 9223372036854775807 := Nat.le_of_ble_eq_true hc
    rw [forceNat_eq] at h'
    refine ⟨_, .string ⟨(digs (n + m) (a * 256 ^ m + b)).toArray⟩, h', fun ha hb => ⟨fun _ _ => ?_, fun t w => ?_⟩⟩
    · simp only [Den]
      refine ⟨?_, rfl⟩
      show a * 256 ^ m + b < 256 ^ (n + m)
      rw [Nat.pow_add]
      have : (a + 1) * 256 ^ m ≤ 256 ^ n * 256 ^ m := Nat.mul_le_mul_right _ ha
      rw [Nat.add_mul] at this
      omega
    · have hsz : ∀ n c, (⟨(digs n c).toArray⟩ : ByteArray).size = n := fun n c => by simp [ByteArray.size, digs_length]
      have hn : ¬ (((n + m : Nat) : Int) > IntKind.i64.max) := by
        have : IntKind.i64.max = 9223372036854775807 := by decide
        rw [this]; omega
      simp only [binOp, Op.stringOp, hsz, if_neg hn, Sem.run_pure]
      congr 2
      apply ByteArray.ext
      rw [ByteArray.data_append]
      simp [digs_append n a m b hb]
  | eql => exact hB (eqS n a m b) ((boolK_eq _ _).symm.trans h) fun q1 q2 t w => by simp [binOp, Op.stringOp, eqS_eq q1 q2]
  | neq => exact hB (!eqS n a m b) ((nboolK_eq _ _).symm.trans h) fun q1 q2 t w => by simp [binOp, Op.stringOp, eqS_eq q1 q2]
  | lss => exact hB (ltS n a m b) ((boolK_eq _ _).symm.trans h) fun q1 q2 t w => by simp [binOp, Op.stringOp, ltS_eq q1 q2]
  | leq =>
    exact hB (!ltS m b n a) ((nboolK_eq _ _).symm.trans h) fun q1 q2 t w => by
      have key : (Op.bytesLess (digs n a) (digs m b) || digs n a == digs m b) = !Op.bytesLess (digs m b) (digs n a) := less_total _ _
      simp [binOp, Op.stringOp, ltS_eq q2 q1, key]
  | gtr =>
    exact hB (ltS m b n a) ((boolK_eq _ _).symm.trans h) fun q1 q2 t w => by
      have key : (Op.bytesLess (digs n a) (digs m b) || digs n a == digs m b) = !Op.bytesLess (digs m b) (digs n a) := less_total _ _
      simp only [binOp, Op.stringOp, ltS_eq q2 q1, bytes_list, key, Bool.not_not, Sem.run_pure]
  | geq => exact hB (!ltS n a m b) ((nboolK_eq _ _).symm.trans h) fun q1 q2 t w => by simp [binOp, Op.stringOp, ltS_eq q1 q2]
  | _ => cases h
where
  less_total : ∀ l m : List UInt8, (Op.bytesLess l m || l == m) = !Op.bytesLess m l
    | [], [] => rfl
    | [], _ :: _ => rfl
    | _ :: _, [] => rfl
    | x :: l, y :: m => by
      rw [bytesLess_cons, bytesLess_cons]
      have ih := less_total l m
      by_cases h : x = y
      · subst h
        have e : (x :: l == x :: m) = (l == m) := by rw [Bool.eq_iff_iff]; simp
        rw [e]
        simpa using ih
      · have h1 : (x == y) = false := by simpa using h
        have h2 : (y == x) = false := by simpa using fun e => h e.symm
        have e : (x :: l == y :: m) = false := by simpa using fun e => absurd e h
        rw [e, h1, h2]
        have : ¬ x < y ↔ y < x := by
          rw [UInt8.lt_iff_toNat_lt, UInt8.lt_iff_toNat_lt]
          have : x.toNat ≠ y.toNat := fun e => h (by rw [← UInt8.toNat_inj]; exact e)
          omega
        simp only [Bool.false_and, Bool.or_false]
        rw [Bool.eq_iff_iff]
        simp
        have t1 : ¬ y < x ↔ x < y := by rw [← this]; exact ⟨fun h => Classical.not_not.1 h, fun h => Classical.not_not.2 h⟩
        rw [← t1, UInt8.not_lt]
end
end Go.Ev
