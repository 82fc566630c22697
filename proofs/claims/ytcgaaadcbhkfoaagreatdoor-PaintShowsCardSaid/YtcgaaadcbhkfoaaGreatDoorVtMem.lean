/- A terminal's memory: the rows' slices in one block, all their bytes in another one. -/
import Derived.Test.YtcgaaadcbhkfoaaGreatDoorVt1
import Derived.Test.YtcgaaadcbhkfoaaGreatDoorBase
namespace Go.Proofs.YtcgaaadcbhkfoaaGreatDoor
open Go Go.Proofs Go.RowKit Go.Ink

/-- Two rows of so many bytes that share none. -/
def Apart (n a b : Nat) : Prop := a + n ≤ b ∨ b + n ≤ a
/-- Rows in memory: block gr holds their slices, block ga their bytes; the k-th row's begin at os[k]. -/
structure GridMem (w : World) (gr ga : Nat) (Tr Tb : TypeId) (cols : Nat) (os : List Nat) (cells : List (List UInt8)) : Prop where
  len : cells.length = os.length
  each : ∀ l ∈ cells, l.length = cols
  apart : os.Pairwise (Apart cols)
  rows : ∃ cs : Array Value, w.heap[gr]? = some (.cells cs Tr (0, 0)) ∧ ∀ (k o : Nat), os[k]? = some o → cs[k]? = some (Value.slice (some ⟨ga, o, none⟩) cols cols)
  bytes : ∃ cs : Array Value, w.heap[ga]? = some (.cells cs Tb (0, 0)) ∧ ∀ (k o : Nat) (l : List UInt8) (j : Nat) (c : UInt8), os[k]? = some o → cells[k]? = some l → l[j]? = some c → cs[o + j]? = some (Value.int .u8 (c.toNat : Int))
  ne : gr ≠ ga
theorem GridMem.row {w : World} {gr ga : Nat} {Tr Tb : TypeId} {cols : Nat} {os : List Nat} {cells : List (List UInt8)} (h : GridMem w gr ga Tr Tb cols os cells) {k : Nat} (hk : k < cells.length) :
    ∃ o l, os[k]? = some o ∧ cells[k]? = some l ∧ l.length = cols ∧ w.cell? ⟨gr, k, none⟩ = some (.slice (some ⟨ga, o, none⟩) cols cols) ∧ w.frozen? ⟨gr, k, none⟩ = false := by
  have hl := h.len
  obtain ⟨cs, h1, h2⟩ := h.rows
  have ho : os[k]? = some os[k] := List.getElem?_eq_getElem (by omega)
  have hc : cells[k]? = some cells[k] := List.getElem?_eq_getElem hk
  exact ⟨os[k], cells[k], ho, hc, h.each _ (List.getElem_mem hk), by rw [Lib.cell_of_heap h1]; exact h2 k _ ho, Lib.frozen_of_heap h1 k⟩
theorem GridMem.byte {w : World} {gr ga : Nat} {Tr Tb : TypeId} {cols : Nat} {os : List Nat} {cells : List (List UInt8)} (h : GridMem w gr ga Tr Tb cols os cells) {k o j : Nat} {l : List UInt8} {c : UInt8} (ho : os[k]? = some o) (hl : cells[k]? = some l) (hc : l[j]? = some c) :
    w.cell? ⟨ga, o + j, none⟩ = some (.int .u8 (c.toNat : Int)) ∧ w.frozen? ⟨ga, o + j, none⟩ = false := by
  obtain ⟨cs, h1, h2⟩ := h.bytes
  exact ⟨by rw [Lib.cell_of_heap h1]; exact h2 k o l j c ho hl hc, Lib.frozen_of_heap h1 _⟩
theorem GridMem.later {w w' : World} {gr ga : Nat} {Tr Tb : TypeId} {cols : Nat} {os : List Nat} {cells : List (List UInt8)} (h : GridMem w gr ga Tr Tb cols os cells) (hr : w'.heap[gr]? = w.heap[gr]?) (ha : w'.heap[ga]? = w.heap[ga]?) : GridMem w' gr ga Tr Tb cols os cells := by
  obtain ⟨a1, a2, a3, ⟨cs, h1, h2⟩, ⟨ct, h3, h4⟩, a6⟩ := h
  exact ⟨a1, a2, a3, ⟨cs, hr.trans h1, h2⟩, ⟨ct, ha.trans h3, h4⟩, a6⟩
theorem GridMem.slRow {w : World} {gr ga : Nat} {Tr Tb : TypeId} {cols : Nat} {os : List Nat} {cells : List (List UInt8)} (h : GridMem w gr ga Tr Tb cols os cells) (hcm : cols ≤ maxLen) {k o : Nat} {l : List UInt8} (ho : os[k]? = some o) (hl : cells[k]? = some l) : SlOf IsByte w (some ⟨ga, o, none⟩) cols l := by
  have hll := h.each l (List.mem_of_getElem? hl)
  refine ⟨by omega, hcm, by simp, fun j c hj => ⟨ga, o, _, rfl, (h.byte ho hl hj).1, rfl⟩⟩
theorem GridMem.sl {w : World} {gr ga : Nat} {Tr Tb : TypeId} {cols : Nat} {os : List Nat} {cells : List (List UInt8)} (h : GridMem w gr ga Tr Tb cols os cells) (hcm : cols ≤ maxLen) {cap : Nat} (h1 : cells.length ≤ cap) (h2 : cap ≤ maxLen) : SlOf IsBytes w (some ⟨gr, 0, none⟩) cap cells := by
  refine ⟨h1, h2, by simp, fun k l hl => ?_⟩
  obtain ⟨o, l', ho, hl', hc, hr, _⟩ := h.row (List.getElem?_eq_some_iff.1 hl).1
  have : l' = l := Option.some.inj (hl'.symm.trans hl)
  subst this
  refine ⟨gr, 0, _, rfl, by rw [Nat.zero_add]; exact hr, some ⟨ga, o, none⟩, cols, by rw [hc], h.slRow hcm ho hl⟩

theorem pair_apart {n : Nat} {os : List Nat} (h : os.Pairwise (Apart n)) {i k a b : Nat} (hi : os[i]? = some a) (hk : os[k]? = some b) (hne : i ≠ k) : Apart n a b := by
  obtain ⟨h1, rfl⟩ := List.getElem?_eq_some_iff.1 hi
  obtain ⟨h2, rfl⟩ := List.getElem?_eq_some_iff.1 hk
  rcases Nat.lt_or_ge i k with hlt | hge
  · exact List.pairwise_iff_getElem.1 h i k h1 h2 hlt
  · have := List.pairwise_iff_getElem.1 h k i h2 h1 (by omega)
    rcases this with h | h
    · exact .inr h
    · exact .inl h
/-- One byte that is written. -/
theorem GridMem.set {w : World} {gr ga : Nat} {Tr Tb : TypeId} {cols : Nat} {os : List Nat} {cells : List (List UInt8)} (h : GridMem w gr ga Tr Tb cols os cells) {k o j : Nat} {l : List UInt8} (ho : os[k]? = some o) (hl : cells[k]? = some l) (hj : j < cols) (c : UInt8) :
    GridMem (w.setCell ⟨ga, o + j, none⟩ (.int .u8 (c.toNat : Int))) gr ga Tr Tb cols os (cells.set k (l.set j c)) := by
  have hll := h.each l (List.mem_of_getElem? hl)
  obtain ⟨a1, a2, a3, ⟨cs, h1, h2⟩, ⟨ct, h3, h4⟩, a6⟩ := h
  refine ⟨by simpa using a1, fun x hx => ?_, a3, ⟨cs, by rw [Below.heap_setCell _ _ _ _ (by simpa using a6)]; exact h1, h2⟩, ⟨_, heap_set h3 _, ?_⟩, a6⟩
  · rcases List.mem_or_eq_of_mem_set hx with hx | rfl
    · exact a2 x hx
    · rw [List.length_set]; exact hll
  · intro i p x m d hi hx hm
    rw [Array.getElem?_setIfInBounds]
    have hjl : j < l.length := by omega
    have hcell := h4 k o l j l[j] ho hl (List.getElem?_eq_getElem hjl)
    have hsz : o + j < ct.size := by
      rcases Nat.lt_or_ge (o + j) ct.size with h | h
      · exact h
      · rw [Array.getElem?_eq_none h] at hcell; cases hcell
    by_cases hik : k = i
    · subst hik
      have hop : o = p := Option.some.inj (ho.symm.trans hi)
      subst hop
      rw [List.getElem?_set_self (List.getElem?_eq_some_iff.1 hl).1] at hx
      injection hx with hx
      subst hx
      by_cases hjm : j = m
      · subst hjm
        rw [if_pos rfl, if_pos hsz]
        rw [List.getElem?_set_self hjl] at hm
        injection hm with hm
        rw [hm]
      · rw [if_neg (by omega)]
        rw [List.getElem?_set_ne hjm] at hm
        exact h4 k o l m d ho hl hm
    · rw [List.getElem?_set_ne hik] at hx
      have hap := pair_apart a3 ho hi hik
      have hxl := a2 x (List.mem_of_getElem? hx)
      have hml := (List.getElem?_eq_some_iff.1 hm).1
      rw [if_neg (by unfold Apart at hap; omega)]
      exact h4 i p x m d hi hx hm
/-- Bytes that are wiped, one behind the other. -/
def wipeW (w : World) (g o : Nat) : Nat → World
  | 0 => w
  | n + 1 => (wipeW w g o n).setCell ⟨g, o + n, none⟩ (.int .u8 32)
def wipeTo (l : List UInt8) (k : Nat) : Nat → List UInt8
  | 0 => l
  | n + 1 => (wipeTo l k n).set (k + n) 32
theorem wipeTo_len (l : List UInt8) (k : Nat) : ∀ n, (wipeTo l k n).length = l.length
  | 0 => rfl
  | n + 1 => by unfold wipeTo; rw [List.length_set, wipeTo_len l k n]
theorem GridMem.wipe {w : World} {gr ga : Nat} {Tr Tb : TypeId} {cols : Nat} {os : List Nat} {cells : List (List UInt8)} (h : GridMem w gr ga Tr Tb cols os cells) {k o from_ : Nat} {l : List UInt8} (ho : os[k]? = some o) (hl : cells[k]? = some l) :
    ∀ n, from_ + n ≤ cols → GridMem (wipeW w ga (o + from_) n) gr ga Tr Tb cols os (cells.set k (wipeTo l from_ n))
  | 0, _ => by
    have e : cells.set k l = cells := by
      obtain ⟨hk, rfl⟩ := List.getElem?_eq_some_iff.1 hl
      exact List.set_getElem_self hk
    show GridMem w gr ga Tr Tb cols os (cells.set k l)
    rw [e]; exact h
  | n + 1, hn => by
    have ih := h.wipe (from_ := from_) ho hl n (by omega)
    have hk : k < cells.length := (List.getElem?_eq_some_iff.1 hl).1
    have := ih.set (j := from_ + n) ho (List.getElem?_set_self hk) (by omega) 32
    rw [List.set_set] at this
    unfold wipeW wipeTo
    rw [Nat.add_assoc]
    exact this
theorem wipeTo_getElem? (l : List UInt8) (k : Nat) : ∀ n j, k + n ≤ l.length → (wipeTo l k n)[j]? = if k ≤ j ∧ j < k + n then some 32 else l[j]?
  | 0, j, _ => by rw [if_neg (by omega)]; rfl
  | n + 1, j, h => by
    unfold wipeTo
    by_cases e : k + n = j
    · subst e
      rw [List.getElem?_set_self (by rw [wipeTo_len]; omega), if_pos (by omega)]
    · rw [List.getElem?_set_ne e, wipeTo_getElem? l k n j (by omega)]
      by_cases h1 : k ≤ j ∧ j < k + n
      · rw [if_pos h1, if_pos (by omega)]
      · rw [if_neg h1, if_neg (by omega)]
theorem wipeTo_from (l : List UInt8) (k : Nat) (hk : k ≤ l.length) : wipeTo l k (l.length - k) = wipeFrom l k := by
  refine List.ext_getElem? fun j => ?_
  rw [wipeTo_getElem? l k _ j (by omega)]
  unfold wipeFrom blankL
  have htl : (l.take k).length = k := by rw [List.length_take]; omega
  by_cases h1 : j < k
  · rw [if_neg (by omega), List.getElem?_append_left (by omega), List.getElem?_take, if_pos h1]
  · rw [List.getElem?_append_right (by omega), htl, List.getElem?_replicate]
    by_cases h2 : j < l.length
    · rw [if_pos (by omega), if_pos (by omega)]
    · rw [if_neg (by omega), if_neg (by omega), List.getElem?_eq_none (by omega)]
theorem wipeW_old (w : World) (g o : Nat) {i : Nat} (h : i ≠ g) : ∀ n, (wipeW w g o n).heap[i]? = w.heap[i]?
  | 0 => rfl
  | n + 1 => by unfold wipeW; rw [Below.heap_setCell _ _ _ _ (by simpa using h)]; exact wipeW_old w g o h n
theorem wipeW_below {B : Nat} {w0 w : World} (hb : Below B w0 w) (g o : Nat) (hg : B ≤ g) : ∀ n, Below B w0 (wipeW w g o n)
  | 0 => hb
  | n + 1 => (wipeW_below hb g o hg n).setCell (p := ⟨g, o + n, none⟩) hg _
theorem wipeW_size (w : World) (g o : Nat) : ∀ n, (wipeW w g o n).heap.size = w.heap.size
  | 0 => rfl
  | n + 1 => by unfold wipeW; simp [World.setCell]; exact wipeW_size w g o n
/-- All rows go up by one: the first one's slice is the last one. -/
theorem GridMem.turn {w w' : World} {gr ga : Nat} {Tr Tb : TypeId} {cols o : Nat} {os : List Nat} {l : List UInt8} {cells : List (List UInt8)} (h : GridMem w gr ga Tr Tb cols (o :: os) (l :: cells))
    (hr : ∃ cs : Array Value, w'.heap[gr]? = some (.cells cs Tr (0, 0)) ∧ ∀ (k p : Nat), (os ++ [o])[k]? = some p → cs[k]? = some (Value.slice (some ⟨ga, p, none⟩) cols cols)) (ha : w'.heap[ga]? = w.heap[ga]?) :
    GridMem w' gr ga Tr Tb cols (os ++ [o]) (cells ++ [l]) := by
  obtain ⟨a1, a2, a3, _, ⟨ct, h3, h4⟩, a6⟩ := h
  simp only [List.length_cons] at a1
  refine ⟨by simp only [List.length_append, List.length_singleton]; omega, fun x hx => ?_, ?_, hr, ⟨ct, ha.trans h3, ?_⟩, a6⟩
  · simp only [List.mem_append, List.mem_singleton] at hx
    exact a2 x (by simp only [List.mem_cons]; rcases hx with hx | hx; exact .inr hx; exact .inl hx)
  · rw [List.pairwise_append]
    rw [List.pairwise_cons] at a3
    refine ⟨a3.2, List.pairwise_singleton _ _, fun a ha b hb => ?_⟩
    simp only [List.mem_singleton] at hb
    subst hb
    rcases a3.1 a ha with h | h
    · exact .inr h
    · exact .inl h
  · intro k p x j c hp hx hc
    have hlen : cells.length = os.length := by omega
    rcases Nat.lt_or_ge k os.length with hk | hk
    · rw [List.getElem?_append_left hk] at hp
      rw [List.getElem?_append_left (by omega)] at hx
      exact h4 (k + 1) p x j c (by simpa using hp) (by simpa using hx) hc
    · rw [List.getElem?_append_right hk] at hp
      rw [List.getElem?_append_right (by omega)] at hx
      have hk0 : k - os.length = 0 := by have := (List.getElem?_eq_some_iff.1 hp).1; simp at this; omega
      rw [hk0] at hp
      rw [hlen, hk0] at hx
      simp only [List.getElem?_cons_zero, Option.some.injEq] at hp hx
      subst hp hx
      exact h4 0 _ _ j c rfl rfl hc
end Go.Proofs.YtcgaaadcbhkfoaaGreatDoor
