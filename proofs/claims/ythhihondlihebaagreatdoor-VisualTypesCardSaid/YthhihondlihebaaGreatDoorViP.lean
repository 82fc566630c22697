/- What typing makes of a line (chapter 28), in plain words: no program. -/
import Derived.Test.YthhihondlihebaaGreatDoorSpl2
namespace Go.Proofs.YthhihondlihebaaGreatDoor
open Go

/-- Lines, one behind the other, with line ends between them. -/
def joinLF : List Line → List UInt8
  | [] => []
  | [l] => l
  | l :: r => l ++ 10 :: joinLF r
theorem joinLF_cons (l : Line) {r : List Line} (hr : r ≠ []) : joinLF (l :: r) = l ++ 10 :: joinLF r := by
  cases r with
  | nil => exact absurd rfl hr
  | cons _ _ => rfl
theorem joinLF_snoc : ∀ (B : List Line) (x y : Line), joinLF (B ++ [x ++ y]) = joinLF (B ++ [x]) ++ y
  | [], _, _ => rfl
  | l :: r, x, y => by
    rw [List.cons_append, List.cons_append, joinLF_cons _ (by simp), joinLF_cons _ (by simp), joinLF_snoc r x y]
    simp
theorem joinLF_end : ∀ (B : List Line) (x : Line), joinLF (B ++ [x] ++ [[]]) = joinLF (B ++ [x]) ++ [10]
  | [], _ => rfl
  | l :: r, x => by
    rw [List.cons_append, List.cons_append, joinLF_cons _ (by simp), joinLF_cons _ (by simp), joinLF_end r x]
    simp
/-- A byte is typed: the lines ahead, and what stands ahead of the cursor. -/
def tyS (s : List Line × Line) (c : UInt8) : List Line × Line := if c = 10 then (s.1 ++ [s.2], []) else (s.1, s.2 ++ [c])
theorem tyS_join (s : List Line × Line) (c : UInt8) : joinLF ((tyS s c).1 ++ [(tyS s c).2]) = joinLF (s.1 ++ [s.2]) ++ [c] := by
  unfold tyS
  by_cases h : c = 10
  · rw [if_pos h, h]
    exact joinLF_end s.1 s.2
  · rw [if_neg h]
    exact joinLF_snoc s.1 s.2 [c]
theorem ty_join : ∀ (text : List UInt8) (s : List Line × Line), joinLF ((text.foldl tyS s).1 ++ [(text.foldl tyS s).2]) = joinLF (s.1 ++ [s.2]) ++ text
  | [], s => by simp
  | c :: r, s => by
    rw [List.foldl_cons, ty_join r (tyS s c), tyS_join]
    simp
/-- Text that is typed stands where it is typed. -/
theorem ty_law (a b text : List UInt8) : joinLF ((text.foldl tyS ([], a)).1 ++ [(text.foldl tyS ([], a)).2 ++ b]) = a ++ text ++ b := by
  rw [joinLF_snoc, ty_join]
  rfl
/-- How many lines, how long, and no line end within. -/
theorem ty_size : ∀ (text : List UInt8) (s : List Line × Line), (text.foldl tyS s).1.length ≤ s.1.length + text.length ∧ (text.foldl tyS s).2.length ≤ s.2.length + text.length
  | [], s => by simp
  | c :: r, s => by
    have h := ty_size r (tyS s c)
    have h1 : (tyS s c).1.length ≤ s.1.length + 1 := by unfold tyS; split <;> simp
    have h2 : (tyS s c).2.length ≤ s.2.length + 1 := by unfold tyS; split <;> simp
    rw [List.foldl_cons, List.length_cons]
    omega
end Go.Proofs.YthhihondlihebaaGreatDoor
/- What typing makes of a buffer's lines (chapter 28), in plain words: a byte's splice; where lines stand in a text. No program. -/
namespace Go.Proofs.YthhihondlihebaaGreatDoor
open Go

/-- The lines that a typed byte lays in the place of its line. -/
def insT (a b : Line) (c : UInt8) : List Line := if c = 10 then [a, b] else [a ++ c :: b]
/-- Lines that may be: short ones, without line ends. -/
def ShortL (m : Nat) (l : List Line) : Prop := ∀ x ∈ l, x.length ≤ m ∧ (10 : UInt8) ∉ x
theorem checkL_short {m : Nat} {l : List Line} (h : ShortL m l) (hm : m ≤ 1000) (hl : l.length ≤ 2000) : checkL l = 0 := by
  unfold checkL
  rw [if_neg, if_neg]
  · rintro (h1 | h1)
    · omega
    · obtain ⟨x, hx, hd⟩ := List.any_eq_true.1 h1
      have := (h x hx).1
      have := of_decide_eq_true hd
      omega
  · intro h1
    obtain ⟨x, hx, hd⟩ := List.any_eq_true.1 h1
    exact (h x hx).2 (List.contains_iff_mem.1 hd)
theorem insT_tyS (s : List Line × Line) (b : Line) (c : UInt8) : s.1 ++ insT s.2 b c = (tyS s c).1 ++ [(tyS s c).2 ++ b] := by
  unfold insT tyS
  by_cases h : c = 10
  · rw [if_pos h, if_pos h]; simp
  · rw [if_neg h, if_neg h]; simp
theorem ty_splice {ps : List (List Line)} {s : List Line × Line} {b : Line} {c : UInt8} (hf : ps.flatten = s.1 ++ [s.2 ++ b]) (hm : s.1.length ≤ 1000) (hsh : ShortL 1000 (insT s.2 b c)) :
    tabErr (manyS ps) ⟨(s.1.length : Int), ((1 : Nat) : Int), insT s.2 b c⟩ = 0 ∧ (tabSpl ps ⟨(s.1.length : Int), ((1 : Nat) : Int), insT s.2 b c⟩).flatten = (tyS s c).1 ++ [(tyS s c).2 ++ b] := by
  have hil : (insT s.2 b c).length ≤ 2 := by unfold insT; split <;> simp
  have hck : checkS ⟨(s.1.length : Int), ((1 : Nat) : Int), insT s.2 b c⟩ = 0 := by
    unfold checkS
    rw [if_neg (by simp only; omega)]
    exact checkL_short hsh (by omega) (by simp only; omega)
  have e : doneS (s.1 ++ [s.2 ++ b]) ⟨(s.1.length : Int), ((1 : Nat) : Int), insT s.2 b c⟩ = (s.1 ++ insT s.2 b c, 0) := by
    rw [doneS_of hck (by simp) (by simp only [Int.toNat_natCast, List.length_append, List.length_singleton]; omega)]
    simp
  have h0 : (doneS ps.flatten ⟨(s.1.length : Int), ((1 : Nat) : Int), insT s.2 b c⟩).2 = 0 := by rw [hf, e]
  refine ⟨?_, by rw [tabSpl_flat h0, hf, e]; exact insT_tyS s b c⟩
  have := (tabErr_iff ps.flatten ⟨(s.1.length : Int), ((1 : Nat) : Int), insT s.2 b c⟩).2 h0
  rw [manyS_flat]
  exact this
theorem ofS_fullV : ∀ l : List (List Line), (ofS l).length ≤ manyS (ofS l)
  | [] => by simp [ofS, manyS]
  | p :: l => by
    have h := ofS_fullV l
    unfold ofS at h ⊢
    rw [List.filter_cons]
    split
    · rename_i hp
      simp only [decide_eq_true_eq] at hp
      simp only [List.length_cons, manyS]
      omega
    · exact h
theorem tabSpl_full (ps : List (List Line)) (s : Spl) : (tabSpl ps s).length ≤ manyS (tabSpl ps s) := ofS_fullV _
/-- What typing keeps. -/
def TyOk (m : Nat) (s : List Line × Line) (b : Line) : Prop := ShortL m s.1 ∧ s.2.length + b.length ≤ m ∧ (10 : UInt8) ∉ s.2 ∧ (10 : UInt8) ∉ b
theorem TyOk.step {m : Nat} {s : List Line × Line} {b : Line} {c : UInt8} (h : TyOk m s b) : TyOk (m + 1) (tyS s c) b := by
  obtain ⟨h1, h2, h3, h4⟩ := h
  unfold tyS
  by_cases hc : c = 10
  · rw [if_pos hc]
    refine ⟨?_, by simp only [List.length_nil]; omega, by simp, h4⟩
    intro x hx
    rcases List.mem_append.1 hx with hx | hx
    · exact ⟨Nat.le_succ_of_le (h1 x hx).1, (h1 x hx).2⟩
    · obtain rfl := List.mem_singleton.1 hx
      exact ⟨by omega, h3⟩
  · rw [if_neg hc]
    refine ⟨fun x hx => ⟨Nat.le_succ_of_le (h1 x hx).1, (h1 x hx).2⟩, by simp only [List.length_append, List.length_singleton]; omega, ?_, h4⟩
    simp only [List.mem_append, List.mem_singleton, not_or]
    exact ⟨h3, fun e => hc e.symm⟩
theorem TyOk.lines {m : Nat} {s : List Line × Line} {b : Line} (h : TyOk m s b) : ShortL m (s.1 ++ [s.2 ++ b]) := by
  intro x hx
  rcases List.mem_append.1 hx with hx | hx
  · exact h.1 x hx
  · obtain rfl := List.mem_singleton.1 hx
    rw [List.length_append, List.mem_append]
    exact ⟨h.2.1, fun e => e.elim h.2.2.1 h.2.2.2⟩
theorem TyOk.ins {m : Nat} {s : List Line × Line} {b : Line} (h : TyOk m s b) (c : UInt8) : ShortL (m + 1) (insT s.2 b c) := by
  intro x hx
  have := (h.step (c := c)).lines x (by rw [← insT_tyS]; exact List.mem_append.2 (.inr hx))
  exact this
theorem TyOk.all {m : Nat} {b : Line} : ∀ (text : List UInt8) {s : List Line × Line}, TyOk m s b → TyOk (m + text.length) (text.foldl tyS s) b
  | [], _, h => h
  | c :: r, s, h => by
    have := TyOk.all r (s := tyS s c) (h.step)
    rw [List.foldl_cons, List.length_cons]
    rw [show m + (r.length + 1) = m + 1 + r.length by omega]
    exact this
/-- Where line i begins in the text of all lines. -/
def offL (L : List Line) (i : Nat) : Nat := ((L.take i).map (fun l => l.length + 1)).sum
theorem offL_zero (L : List Line) : offL L 0 = 0 := by simp [offL]
theorem offL_succ {L : List Line} {i : Nat} {x : Line} (h : L[i]? = some x) : offL L (i + 1) = offL L i + x.length + 1 := by
  unfold offL
  rw [List.take_add_one, h, Option.toList_some, List.map_append, List.sum_append]
  simp
  omega
theorem drop_off : ∀ (L : List Line) (i : Nat), i < L.length → (joinLF L).drop (offL L i) = joinLF (L.drop i)
  | L, 0, _ => by simp [offL_zero]
  | [], i + 1, h => by simp at h
  | l :: r, i + 1, h => by
    have hr : r ≠ [] := by
      rintro rfl
      simp at h
    have e : offL (l :: r) (i + 1) = l.length + 1 + offL r i := by simp [offL]
    rw [e, joinLF_cons l hr, ← List.drop_drop, List.drop_succ_cons, ← drop_off r i (by simpa using h)]
    congr 1
    rw [show l.length + 1 = l.length + 1 from rfl, ← List.drop_drop, List.drop_left]
    rfl
theorem join_pos : ∀ (L : List Line), offL L L.length ≤ (joinLF L).length + 1 ∧ (L ≠ [] → offL L L.length = (joinLF L).length + 1)
  | [] => by simp [offL]
  | [l] => by simp [offL, joinLF]
  | l :: m :: r => by
    have h := (join_pos (m :: r)).2 (by simp)
    have e : offL (l :: m :: r) (l :: m :: r).length = l.length + 1 + offL (m :: r) (m :: r).length := by simp [offL]
    have : offL (l :: m :: r) (l :: m :: r).length = (joinLF (l :: m :: r)).length + 1 := by
      rw [e, h, joinLF_cons l (by simp), List.length_append, List.length_cons]
      omega
    exact ⟨by omega, fun _ => this⟩
theorem join_drop {L : List Line} {i : Nat} {x : Line} (h : L[i]? = some x) : joinLF (L.drop i) = if i + 1 < L.length then x ++ 10 :: joinLF (L.drop (i + 1)) else x := by
  obtain ⟨hi, hx⟩ := List.getElem?_eq_some_iff.1 h
  rw [List.drop_eq_getElem_cons hi, hx]
  split
  · rename_i h1
    rw [joinLF_cons]
    intro e
    rw [List.drop_eq_nil_iff] at e
    omega
  · rename_i h1
    rw [List.drop_eq_nil_of_le (by omega)]
    rfl
/-- What stands at a line's place in the text. -/
theorem join_at {L : List Line} {i : Nat} {x : Line} (h : L[i]? = some x) :
    offL L i + x.length ≤ (joinLF L).length ∧ ((joinLF L).drop (offL L i)).take x.length = x ∧ (i + 1 < L.length → offL L i + x.length + 1 ≤ (joinLF L).length ∧ ((joinLF L).drop (offL L i + x.length)).take 1 = [10]) := by
  obtain ⟨hi, hx⟩ := List.getElem?_eq_some_iff.1 h
  have hd := drop_off L i hi
  rw [join_drop h] at hd
  have hlen : (joinLF L).length - offL L i = (if i + 1 < L.length then x ++ 10 :: joinLF (L.drop (i + 1)) else x).length := by rw [← hd, List.length_drop]
  by_cases h1 : i + 1 < L.length
  · rw [if_pos h1] at hd hlen
    rw [List.length_append, List.length_cons] at hlen
    refine ⟨by omega, by rw [hd, List.take_left], fun _ => ⟨by omega, ?_⟩⟩
    rw [← List.drop_drop, hd, List.drop_left]
    rfl
  · rw [if_neg h1] at hd hlen
    refine ⟨?_, by rw [hd, List.take_length], fun h => absurd h h1⟩
    rcases Nat.eq_zero_or_pos x.length with h0 | h0
    · have h2 := (join_pos L).2 (by rintro rfl; simp at hi)
      have h3 : i + 1 = L.length := by omega
      rw [← h3, offL_succ h] at h2
      omega
    · omega
theorem join_end {L : List Line} (h : L ≠ []) : offL L L.length = (joinLF L).length + 1 := (join_pos L).2 h
end Go.Proofs.YthhihondlihebaaGreatDoor
