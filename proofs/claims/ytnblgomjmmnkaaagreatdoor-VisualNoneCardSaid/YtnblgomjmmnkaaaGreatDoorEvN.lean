/- An interpreter of the model's code, run by the kernel at closed calls: stores, copies, appends, maps, conversions. No program in sight. -/
import Derived.Test.YtnblgomjmmnkaaaGreatDoorEvI
import Derived.Laws.IdiomCopy
import Derived.Deep.AppendSrc
import Derived.Lib.AppendZerosOnto
import Derived.Lib.UnsafeStr
import Derived.Laws.RangeString
import Derived.Lib.Builder
set_option linter.unusedVariables false
set_option linter.unusedSimpArgs false
namespace Go.Ev
open Go
section
variable {P : Program} {γ : Type}
/-- the world behind cells laid in a row -/
theorem setCells_heap (b : Nat) (el : TypeId) (fr : Nat × Nat) : ∀ (vs : List Value) (o : Nat) (arr : Array Value) (w : World), w.heap[b]? = some (.cells arr el fr) → o + vs.length ≤ arr.size →
    ∃ arr' : Array Value, arr'.size = arr.size ∧ (∀ i, arr'[i]? = if o ≤ i ∧ i < o + vs.length then vs[i - o]? else arr[i]?) ∧
      (w.setCells b o vs).os = w.os ∧ (w.setCells b o vs).tape = w.tape ∧ (w.setCells b o vs).output = w.output ∧ (w.setCells b o vs).heap.size = w.heap.size ∧
      ∀ r, (w.setCells b o vs).heap[r]? = if r = b then some (.cells arr' el fr) else w.heap[r]?
  | [], o, arr, w, hb, _ => ⟨arr, rfl, fun i => by rw [if_neg (by simp)], rfl, rfl, rfl, rfl, fun r => by
      show w.heap[r]? = _
      split
      · rename_i h; rw [h]; exact hb
      · rfl⟩
  | v :: vs, o, arr, w, hb, hle => by
    simp only [List.length_cons] at hle
    have hmod : ∀ r, (w.setCell ⟨b, o, none⟩ v).heap[r]? = if r = b then some (.cells (arr.setIfInBounds o v) el fr) else w.heap[r]? := by
      intro r
      simp only [World.setCell, Array.getElem?_modify]
      by_cases hr : b = r
      · subst hr; simp [hb]
      · rw [if_neg hr, if_neg (fun e => hr e.symm)]
    obtain ⟨arr', h1, h2, h3, h4, h5, h6, h7⟩ := setCells_heap b el fr vs (o + 1) (arr.setIfInBounds o v) (w.setCell ⟨b, o, none⟩ v) (by rw [hmod, if_pos rfl]) (by simp; omega)
    refine ⟨arr', by simpa using h1, fun i => ?_, h3, h4, h5, ?_, fun r => ?_⟩
    · rw [h2, Array.getElem?_setIfInBounds]
      simp only [List.length_cons]
      by_cases hi : i = o
      · subst hi
        rw [if_neg (by omega), if_pos rfl, if_pos (by omega), if_pos (by omega)]
        simp
      · by_cases hin : o + 1 ≤ i ∧ i < o + 1 + vs.length
        · rw [if_pos hin, if_pos (by omega), show i - o = (i - (o + 1)) + 1 by omega, List.getElem?_cons_succ]
        · rw [if_neg hin, if_neg (fun e => hi e.symm), if_neg (by omega)]
    · show ((w.setCell ⟨b, o, none⟩ v).setCells b (o + 1) vs).heap.size = _
      rw [h6]; simp [World.setCell]
    · show ((w.setCell ⟨b, o, none⟩ v).setCells b (o + 1) vs).heap[r]? = _
      rw [h7, hmod]
      split <;> rfl
theorem plain_den {ξ : Nat → Value} {G : Gh} {v : V} {x : Value} (hp : plainV v = true) (h : Den ξ G v x) : x.oneCell' = true := by
  cases v with
  | agg l => cases hp
  | tup l => cases hp
  | opq i => cases hp
  | _ =>
    simp only [Den] at h
    first
      | (subst h; rfl)
      | (obtain ⟨_, rfl⟩ := h; rfl)
      | (obtain ⟨_, _, rfl⟩ := h; rfl)
      | (obtain ⟨_, rfl, _⟩ := h; rfl)
      | (obtain ⟨_, _, rfl, _⟩ := h; rfl)
      | (obtain ⟨_, _, _, rfl⟩ := h; rfl)
      | (obtain ⟨_, _, _, _, rfl⟩ := h; rfl)
theorem plains_den {ξ : Nat → Value} {G : Gh} : ∀ {l : List V} {xs : List Value}, plains l = true → DenL ξ G l xs → ∀ x ∈ xs, x.oneCell' = true
  | [], xs, _, hd, x, hx => by simp only [DenL] at hd; subst hd; cases hx
  | v :: l, xs, hp, hd, x, hx => by
    have hp' : cond (plainV v) (plains l) false = true := hp
    cases hv : plainV v with
    | false => rw [hv] at hp'; cases hp'
    | true =>
      rw [hv] at hp'
      simp only [DenL] at hd
      obtain ⟨y, ys, rfl, h1, h2⟩ := hd
      cases hx with
      | head => exact plain_den hv h1
      | tail _ hx => exact plains_den hp' h2 x hx
/-- where cells are laid, the world's are -/
theorem put_core {ξ : Nat → Value} {G : Gh} {w : World} {b off : Nat} {xs cs : List V} {el : Nat} {k : BK} {fz : Nat} {h h' : H} {g : GB} {vs : List Value} (R : Rep P ξ G h w) (hb : h.get b = some (.cells cs el k fz)) (hG : G[b]? = some (some g))
    (hk : k ≠ .ro) (hfz : fz ≤ off) (hp : plains xs = true) (hle : off + xs.length ≤ cs.length) (hn : h'.next = h.next)
    (hg : ∀ j, h'.get j = if j = b then some (.cells (cs.take off ++ xs ++ cs.drop (off + xs.length)) el k fz) else h.get j) (hd : DenL ξ G xs vs) :
    (storeCells ⟨g.addr, g.off + off, none⟩ vs).run P w = .ok () (w.setCells g.addr (g.off + off) vs) ∧ Rep P ξ G h' (w.setCells g.addr (g.off + off) vs) ∧ Step G h w G h' (w.setCells g.addr (g.off + off) vs) := by
  obtain ⟨g', o, h1, h2, h3⟩ := R.blk b _ hb
  rw [hG] at h1
  simp at h1
  subst h1
  obtain ⟨arr, lo, hi, rfl, hc, hs, hroom⟩ := h3
  have hlv : vs.length = xs.length := hd.length
  have hcell : ∀ j, w.cell? ⟨g.addr, j, none⟩ = arr[j]? := fun j => by simp [World.cell?, h2]
  have hfro : ∀ j, g.off + off ≤ j → j < arr.size → w.frozen? ⟨g.addr, j, none⟩ = false := by
    intro j hj1 hj2
    simp only [World.frozen?, h2]
    cases k with
    | ro => exact absurd rfl hk
    | own => obtain ⟨r1, r2, r3⟩ := hroom; simp; omega
    | grow => obtain ⟨r1, r3⟩ := hroom; simp; omega
    | conv => obtain ⟨r1, r3⟩ := hroom; simp; omega
  have hrun := run_storeCells_cells (P := P) g.addr (g.off + off) vs 0 w (fun j hj => by
      rw [hcell, Nat.add_zero]
      have : g.off + off + j < arr.size := by omega
      simp [this]) (fun j hj => hfro _ (by omega) (by omega)) (plains_den hp hd)
  simp only [Nat.add_zero] at hrun
  obtain ⟨arr', e1, e2, e3, e4, e5, e6, e7⟩ := setCells_heap g.addr el (lo, hi) vs (g.off + off) arr w h2 (by omega)
  have hwr : (Blk.cells cs el k fz).wr := by cases k <;> first | trivial | exact absurd rfl hk
  have hwr' : (Blk.cells (cs.take off ++ xs ++ cs.drop (off + xs.length)) el k fz).wr := by cases k <;> first | trivial | exact absurd rfl hk
  have hlen : (cs.take off ++ xs ++ cs.drop (off + xs.length)).length = cs.length := by simp; omega
  have hB : BRep P ξ G g (.cells (cs.take off ++ xs ++ cs.drop (off + xs.length)) el k fz) (.cells arr' el (lo, hi)) := by
    refine ⟨arr', lo, hi, rfl, fun i v hv => ?_, by rw [hlen, e1]; exact hs, by rw [hlen, e1]; exact hroom⟩
    rw [e2]
    rw [List.append_assoc, List.getElem?_append] at hv
    simp only [List.length_take] at hv
    by_cases c1 : i < min off cs.length
    · rw [if_pos c1, List.getElem?_take] at hv
      rw [if_neg (by omega)]
      split at hv
      · exact hc i v hv
      · cases hv
    · rw [if_neg c1, List.getElem?_append] at hv
      have hm : min off cs.length = off := by omega
      rw [hm] at hv
      by_cases c2 : i - off < xs.length
      · rw [if_pos c2] at hv
        rw [if_pos (by omega), show g.off + i - (g.off + off) = i - off by omega]
        exact hd.get hv
      · rw [if_neg c2, List.getElem?_drop] at hv
        rw [if_neg (by omega)]
        rw [show off + xs.length + (i - off - xs.length) = i by omega] at hv
        exact hc i v hv
  exact ⟨hrun, R.put hn hg hb hG hwr e3 e4 e5 e6 e7 hB hwr'⟩
theorem putC_ok {b off : Nat} {xs cs : List V} {el : Nat} {k : BK} {fz : Nat} {h : H} {K : H → R γ} {c : Nat} {r : γ} (h0 : putC (.no c) b off xs cs el k fz h K = .ok r) :
    ∃ h', K h' = .ok r ∧ h'.next = h.next ∧ h'.ds = h.ds ∧ fz ≤ off ∧ plains xs = true ∧ off + xs.length ≤ cs.length ∧ ∀ j, h'.get j = if j = b then some (.cells (cs.take off ++ xs ++ cs.drop (off + xs.length)) el k fz) else h.get j := by
  obtain ⟨h1, h2⟩ := cond_ok h0
  obtain ⟨h3, h4⟩ := cond_ok h2
  obtain ⟨h5, h6⟩ := lsplice_ok h4
  obtain ⟨h', h7, h8, h9, h10⟩ := hset_ok h6
  exact ⟨h', h7, h8, h9, Nat.le_of_ble_eq_true h1, h3, h5, h10⟩
theorem putK_ok {b off : Nat} {xs : List V} {h : H} {K : H → R γ} {c : Nat} {r : γ} (h0 : putK (.no c) b off xs h K = .ok r) :
    ∃ h', K h' = .ok r ∧ h'.ds = h.ds ∧ ∀ (ξ : Nat → Value) (G : Gh) (w : World) (g : GB) (vs : List Value), Rep P ξ G h w → G[b]? = some (some g) → DenL ξ G xs vs →
      ∃ w', (storeCells ⟨g.addr, g.off + off, none⟩ vs).run P w = .ok () w' ∧ Rep P ξ G h' w' ∧ Step G h w G h' w' := by
  obtain ⟨x, hx, h1⟩ := hget_ok h0
  split at h1
  case h_2 => cases h1
  rename_i cs el k fz
  have key : ∀ (_ : k ≠ .ro) (_ : putC (.no c) b off xs cs el k fz h K = .ok r), ∃ h', K h' = .ok r ∧ h'.ds = h.ds ∧ ∀ (ξ : Nat → Value) (G : Gh) (w : World) (g : GB) (vs : List Value), Rep P ξ G h w → G[b]? = some (some g) → DenL ξ G xs vs →
      ∃ w', (storeCells ⟨g.addr, g.off + off, none⟩ vs).run P w = .ok () w' ∧ Rep P ξ G h' w' ∧ Step G h w G h' w' := by
    intro hk hc
    obtain ⟨h', h2, h3, h4, h5, h6, h7, h8⟩ := putC_ok hc
    refine ⟨h', h2, h4, fun ξ G w g vs R hG hd => ?_⟩
    obtain ⟨q1, q2, q3⟩ := put_core R hx hG hk h5 h6 h7 h3 h8 hd
    exact ⟨_, q1, q2, q3⟩
  cases k with
  | own => exact key (by simp) h1
  | grow => exact key (by simp) h1
  | conv => exact key (by simp) h1
  | ro => cases h1
/-- deferred calls -/
def DsDen (ξ : Nat → Value) (G : Gh) : List (V × List V) → List Deferred → Prop
  | [], ds => ds = []
  | (f, l) :: r, ds => ∃ d ds', ds = d :: ds' ∧ (∃ fn first cap as, f = .fn fn first cap ∧ (∃ a b c : List Value, d.target = .fn fn b.toArray ∧ d.args = (a ++ c).toArray ∧ DenL ξ G first a ∧ DenL ξ G cap b ∧ DenL ξ G as c ∧ l = as)) ∧ DsDen ξ G r ds'
theorem DsDen.mono {ξ : Nat → Value} {G G' : Gh} (hG : Le G G') : ∀ {l : List (V × List V)} {ds : List Deferred}, DsDen ξ G l ds → DsDen ξ G' l ds
  | [], _, h => h
  | (_, _) :: _, _, ⟨d, ds', e, ⟨fn, first, cap, as, e1, a, b, c, e2, e3, h1, h2, h3, e4⟩, h⟩ => ⟨d, ds', e, ⟨fn, first, cap, as, e1, a, b, c, e2, e3, h1.mono hG, h2.mono hG, h3.mono hG, e4⟩, h.mono hG⟩
/-- what operation o does -/
def Does (P : Program) (o : Oper) (T : Tm) (h : H) (v : V) (h' : H) : Prop :=
  ∀ (ξ : Nat → Value) (G : Gh) (a : Act) (w : World), Rep P ξ G h w → TDen P ξ G T a → DsDen ξ G h.ds a.defers → ∀ (next : Act → World → Prop) (Q : Exit → Act → World → Prop),
    (∀ (G' : Gh) (x : Value) (w' : World) (ds : List Deferred), Den ξ G' v x → Rep P ξ G' h' w' → Step G h w G' h' w' → DsDen ξ G' h'.ds ds → next (({ a with defers := ds } : Act).put o.dst x) w') → o.wp P a w next Q
theorem does_value {o : Oper} {T : Tm} {h h' : H} {v : V} (hds : h'.ds = h.ds) (hr : ∀ (ξ : Nat → Value) (G : Gh) (a : Act) (w : World), Rep P ξ G h w → TDen P ξ G T a → ∃ (x : Value) (w' : World) (G' : Gh), ((execOp a.eval o).run P w = .ok (.value x) w' ∨ ((execOp a.eval o).run P w = .ok .skip w' ∧ x = undef)) ∧ Den ξ G' v x ∧ Rep P ξ G' h' w' ∧ Step G h w G' h' w') : Does P o T h v h' := by
  intro ξ G a w R hT hD next Q hn
  obtain ⟨x, w', G', h1, h2, h3, h4⟩ := hr ξ G a w R hT
  have := hn G' x w' a.defers h2 h3 h4 (by rw [hds]; exact hD.mono h4.le)
  unfold Oper.wp
  rcases h1 with h1 | ⟨h1, rfl⟩ <;> (rw [h1]; exact this)
theorem does_pure {o : Oper} {T : Tm} {h : H} {v : V} (hp : Pure P o T v) : Does P o T h v h := by
  refine does_value rfl fun ξ G a w R hT => ?_
  obtain ⟨x, h1, h2⟩ := hp ξ G a w hT
  exact ⟨x, w, G, .inl h1, h2, R, Step.refl _ _ _⟩
theorem does_reads {o : Oper} {T : Tm} {h : H} {v : V} (hp : Reads P o T h v) : Does P o T h v h := by
  refine does_value rfl fun ξ G a w R hT => ?_
  obtain ⟨x, h1, h2⟩ := hp ξ G a w R.fits hT
  exact ⟨x, w, G, .inl h1, h2, R, Step.refl _ _ _⟩
theorem does_lays {o : Oper} {T : Tm} {h h' : H} {blk : Blk} {mk : Nat → V} (hp : Lays P o T blk mk) (hn : h'.next = h.next + 1) (hds : h'.ds = h.ds) (hg : ∀ j, h'.get j = if j = h.next then some blk else h.get j) : Does P o T h (mk h.next) h' := by
  refine does_value hds fun ξ G a w R hT => ?_
  obtain ⟨x, obj, g, d, h1, h2, h3, h4⟩ := hp ξ G a w hT
  obtain ⟨q1, q2⟩ := R.new (d := d) hn hg h2 h3
  exact ⟨x, _, _, .inl h1, h4 _ _ (Le.append _ _) (by rw [← R.len]; simp), q1, q2⟩
theorem opA_ok {callF : CallF} {o : Oper} {f : OpA γ} {T : Tm} {h : H} {K : V → H → R γ} {r : γ} (hf : ∀ {K : Blk → (Nat → V) → R γ}, f T K = .ok r → ∃ blk mk, K blk mk = .ok r ∧ Lays P o T blk mk) (h0 : opA f T h K = .ok r) : ∃ v h', K v h' = .ok r ∧ Does P o T h v h' := by
  obtain ⟨blk, mk, h1, h2⟩ := hf h0
  obtain ⟨h', h3, h4, h5, h6⟩ := hnew_ok h1
  exact ⟨_, h', h3, does_lays h2 h4 h5 h6⟩
end
end Go.Ev
namespace Go.Ev
open Go
section
variable {P : Program} {γ : Type}
/-- what an operation does: its value, the heap behind it -/
def DoesK (P : Program) (o : Oper) (T : Tm) (h : H) (K : V → H → R γ) (r : γ) : Prop := ∃ v h', K v h' = .ok r ∧ Does P o T h v h'
theorem den_undef {ξ : Nat → Value} {G : Gh} : Den ξ G (.tup []) undef := by simp only [Den]; exact ⟨#[], rfl, .nil⟩
theorem opStore_ok {o : Oper} {t : TypeId} {a x : Operand} {T : Tm} {h : H} {K : V → H → R γ} {r : γ} (ho : o.op = .store t a x) (h0 : opStore P t a x T h K = .ok r) : DoesK P o T h K r := by
  obtain ⟨va, hva, h1⟩ := ev_ok h0
  obtain ⟨vx, hvx, h2⟩ := ev_ok h1
  split at h2
  case h_2 => cases h2
  rename_i b off
  rw [cellsK_cells, llen_eq] at h2
  obtain ⟨hs, h3⟩ := cond_ok h2
  unfold sizeIs at hs
  split at hs
  case h_2 => cases hs
  rename_i i hi
  have hs' : vx.cells.length = i.size := Nat.eq_of_beq_eq_true hs
  obtain ⟨h', h4, h5, h6⟩ := putK_ok (P := P) (K := fun h => K (.tup []) h) h3
  refine ⟨_, h', h4, does_value h5 fun ξ G ac w R hT => ?_⟩
  have e1 := evP_den hT hva
  simp only [Den] at e1
  obtain ⟨g, hG, e1⟩ := e1
  have hd := den_cells (evP_den hT hvx)
  obtain ⟨w', q1, q2, q3⟩ := h6 ξ G w g _ R hG hd
  refine ⟨undef, w', G, .inr ⟨?_, rfl⟩, den_undef, q2, q3⟩
  have hsz : (ac.eval x).cells.size = i.size := by have := hd.length; simpa [hs'] using this
  unfold execOp; rw [ho]
  simp only [Instr.storeAt, Instr.sureAddr, e1, Sem.run_bind, Sem.run_pure, Result.andThen_ok, storeVar, sizeOf_run hi, hsz, ne_eq, not_true_eq_false, if_false]
  rw [q1]
  rfl
/-! lengths and cells of a source -/
theorem lenK_ok {x : V} {K : Nat → R γ} {c : Nat} {r : γ} (h : lenK (.no c) x K = .ok r) : ∃ n, K n = .ok r ∧ ∀ (ξ : Nat → Value) (G : Gh) (xx : Value) (w : World), Den ξ G x xx → (Builtin.lenOf xx).run P w = .ok n w := by
  unfold lenK at h
  split at h
  · exact ⟨0, h, fun ξ G xx w hd => by simp only [Den] at hd; subst hd; rfl⟩
  · exact ⟨0, h, fun ξ G xx w hd => by simp only [Den] at hd; obtain ⟨g, _, _, rfl⟩ := hd; rfl⟩
  · exact ⟨_, h, fun ξ G xx w hd => by
      simp only [Den] at hd; obtain ⟨_, rfl⟩ := hd
      show Result.ok (⟨_⟩ : ByteArray).size w = _
      simp [ByteArray.size, digs_length]⟩
  · exact ⟨_, h, fun ξ G xx w hd => by simp only [Den] at hd; obtain ⟨g, _, rfl⟩ := hd; rfl⟩
  · exact ⟨_, h, fun ξ G xx w hd => by simp only [Den] at hd; obtain ⟨g, _, _, _, rfl⟩ := hd; rfl⟩
  · cases h
theorem srcB_ok {b off n : Nat} {h : H} {K : List V → R γ} {c : Nat} {r : γ} (h0 : srcB (.no c) b off n h K = .ok r) :
    ∃ cs, K cs = .ok r ∧ cs.length = n ∧ ∀ (ξ : Nat → Value) (G : Gh) (w : World) (g : GB), Fits P ξ G h w → G[b]? = some (some g) → ∃ xs : List Value, xs.length = n ∧ DenL ξ G cs xs ∧ ∀ j v, xs[j]? = some v → w.cell? ((⟨g.addr, g.off + off, none⟩ : Addr).add j) = some v := by
  obtain ⟨x, hx, h1⟩ := hget_ok h0
  split at h1
  case h_2 => cases h1
  rename_i cs el k fz
  obtain ⟨h2, h3⟩ := ldrop_ok h1
  obtain ⟨h4, h5⟩ := ltake_ok h3
  refine ⟨_, h5, by simp at h4 ⊢; omega, fun ξ G w g hF hG => ?_⟩
  obtain ⟨o, ho, hB⟩ := hF b g _ hG hx
  exact cells_den ho hB (by rw [List.length_drop] at h4; omega)
theorem take_digs (n m c : Nat) (h : n ≤ m) : (digs m c).take n = digs n (c / 256 ^ (m - n)) := by
  have := digs_cut m c 0 n (by omega)
  simp only [List.drop_zero, Nat.zero_add] at this
  rw [this]
  apply List.ext_getElem?
  intro i
  by_cases hi : i < n
  · rw [digs_get _ _ _ hi, digs_get _ _ _ hi]
    congr 2
    have e1 : (256 : Nat) ^ n = 256 ^ (n - i - 1) * 256 ^ (i + 1) := by rw [← Nat.pow_add]; congr 1; omega
    rw [e1, Nat.mod_mul_right_div_self, Nat.pow_succ', Nat.mod_mul_right_mod]
  · rw [List.getElem?_eq_none (by rw [digs_length]; omega), List.getElem?_eq_none (by rw [digs_length]; omega)]
/-- how long a source is, at most -/
def lenB (n : Nat) (x : V) : Nat := match x with
  | .str m _ => m
  | .snil => 0
  | .sle .. => 0
  | _ => n
theorem lenB_le {ξ : Nat → Value} {G : Gh} {x : V} {xx : Value} {n k : Nat} {w : World} (hd : Den ξ G x xx) (hk : (Builtin.lenOf xx).run P w = .ok k w) (hn : n ≤ k) : n ≤ lenB n x := by
  cases x with
  | str m c =>
    simp only [Den] at hd
    obtain ⟨_, rfl⟩ := hd
    have h5 : (Result.ok (⟨(digs m c).toArray⟩ : ByteArray).size w : Result Nat) = .ok k w := hk
    simp [ByteArray.size, digs_length] at h5
    show n ≤ m
    omega
  | snil =>
    simp only [Den] at hd
    subst hd
    have h5 : (Result.ok 0 w : Result Nat) = .ok k w := hk
    simp at h5
    show n ≤ 0
    omega
  | sle b off cut lo s =>
    simp only [Den] at hd
    obtain ⟨g, _, _, rfl⟩ := hd
    have h5 : (Result.ok 0 w : Result Nat) = .ok k w := hk
    simp at h5
    show n ≤ 0
    omega
  | _ => exact Nat.le_refl _
theorem srcK_ok {s n : Nat} {x : V} {h : H} {K : List V → R γ} {c : Nat} {r : γ} (h0 : srcK (.no c) s n x h K = .ok r) :
    ∃ cs, K cs = .ok r ∧ ∀ (ξ : Nat → Value) (G : Gh) (w : World) (xx : Value), Fits P ξ G h w → Den ξ G x xx → n ≤ lenB n x → ∃ xs : List Value, DenL ξ G cs xs ∧ ((∀ m c, x ≠ .str m c) → xs.length = n * s) ∧ ((∃ m c, x = .str m c) → xs.length = n) ∧ ∀ d, (Builtin.firstCells s n xx).run P { w with drawn := d } = .ok xs.toArray { w with drawn := d } := by
  have fromB : ∀ {b off len : Nat}, srcB (.no c) b off (Nat.mul n s) h K = .ok r → (∀ (ξ : Nat → Value) (G : Gh) (xx : Value), Den ξ G x xx → ∃ g c, G[b]? = some (some g) ∧ xx = .slice (some ⟨g.addr, g.off + off, none⟩) len c) → (∀ m c, x ≠ .str m c) →
      ∃ cs, K cs = .ok r ∧ ∀ (ξ : Nat → Value) (G : Gh) (w : World) (xx : Value), Fits P ξ G h w → Den ξ G x xx → n ≤ lenB n x → ∃ xs : List Value, DenL ξ G cs xs ∧ ((∀ m c, x ≠ .str m c) → xs.length = n * s) ∧ ((∃ m c, x = .str m c) → xs.length = n) ∧ ∀ d, (Builtin.firstCells s n xx).run P { w with drawn := d } = .ok xs.toArray { w with drawn := d } := by
    intro b off len hb hx hns
    obtain ⟨cs, h1, _, h2⟩ := srcB_ok (P := P) hb
    refine ⟨cs, h1, fun ξ G w xx hF hd _ => ?_⟩
    obtain ⟨g, c, hG, rfl⟩ := hx ξ G xx hd
    obtain ⟨xs, q1, q2, q3⟩ := h2 ξ G w g hF hG
    refine ⟨xs, q2, fun _ => q1, fun ⟨m, c, e⟩ => absurd e (hns m c), fun d => ?_⟩
    exact run_firstCells_some _ s n _ len c xs q1 q3
  unfold srcK at h0
  split at h0
  · refine ⟨[], h0, fun ξ G w xx hF hd hn => ?_⟩
    simp only [Den] at hd
    subst hd
    have : n = 0 := Nat.le_zero.1 hn
    subst this
    exact ⟨[], .nil, fun _ => by simp, fun _ => rfl, fun d => run_firstCells_none _ s 0 0 0⟩
  · refine ⟨[], h0, fun ξ G w xx hF hd hn => ?_⟩
    simp only [Den] at hd
    obtain ⟨g, _, _, rfl⟩ := hd
    have : n = 0 := Nat.le_zero.1 hn
    subst this
    refine ⟨[], .nil, fun _ => by simp, fun _ => rfl, fun d => ?_⟩
    exact run_firstCells_some _ s 0 _ _ _ [] (by simp) (by simp)
  · rename_i m cc
    have h0' : cellsK n (Nat.div cc (Nat.pow 256 (Nat.sub m n))) K = .ok r := h0
    rw [cellsK_dig] at h0'
    refine ⟨_, h0', fun ξ G w xx hF hd hn => ?_⟩
    simp only [Den] at hd
    obtain ⟨_, rfl⟩ := hd
    have hn' : n ≤ m := hn
    refine ⟨(digs n (cc / 256 ^ (m - n))).map fun b => .int .u8 (Int.ofNat b.toNat), .of_get (by simp; rfl) fun i v hv => ?_, fun h => absurd rfl (h m cc), fun _ => by simp [digs_length], fun d => ?_⟩
    · rw [List.getElem?_map] at hv
      cases hg : (digs n (cc / 256 ^ (m - n)))[i]? with
      | none =>
        have : (digs n (Nat.div cc (Nat.pow 256 (Nat.sub m n))))[i]? = none := hg
        rw [this] at hv; cases hv
      | some b =>
        have : (digs n (Nat.div cc (Nat.pow 256 (Nat.sub m n))))[i]? = some b := hg
        rw [this] at hv
        simp at hv
        subst hv
        exact ⟨.int .u8 (Int.ofNat b.toNat), by rw [List.getElem?_map, hg]; rfl, by simp only [Den]; rfl⟩
    · simp only [Builtin.firstCells, Sem.run_pure]
      congr 1
      apply Array.ext'
      rw [← take_digs n m cc hn']
      simp [List.extract_eq_take_drop]
  · exact fromB (len := _) h0 (fun ξ G xx hd => by simp only [Den] at hd; obtain ⟨g, hG, rfl⟩ := hd; exact ⟨g, _, hG, rfl⟩) (by simp)
  · exact fromB (len := _) h0 (fun ξ G xx hd => by simp only [Den] at hd; obtain ⟨g, hG, _, _, rfl⟩ := hd; exact ⟨g, _, hG, rfl⟩) (by simp)
  · cases h0
theorem den_two {ξ : Nat → Value} {G : Gh} {u v : V} {xs : List Value} (h : DenL ξ G [u, v] xs) : ∃ x y, xs = [x, y] ∧ Den ξ G u x ∧ Den ξ G v y := by
  simp only [DenL] at h
  obtain ⟨x, _, rfl, hd, y, _, rfl, he, rfl⟩ := h
  exact ⟨x, y, rfl, hd, he⟩
theorem bCopy_ok {o : Oper} {as : Array Operand} {ts : Array TypeId} {T : Tm} {h : H} {K : V → H → R γ} {r : γ} (ho : o.op = .call { callee := .builtin .copy, args := as, argTypes := ts })
    {l : List V} (hl : ∀ {ξ : Nat → Value} {G : Gh} {a : Act}, TDen P ξ G T a → DenL ξ G l (as.toList.map a.eval)) (h0 : bCopy P ts.toList l h K = .ok r) : DoesK P o T h K r := by
  unfold bCopy at h0
  split at h0
  case h_2 => cases h0
  rename_i t rest d x hts
  have ht0 : ts[0]? = some t := by rw [← Array.getElem?_toList, hts]; rfl
  have ht := tyK_of P t
  generalize tyK P t = tk at h0 ht
  cases ht with
  | slc el i hu hi =>
    obtain ⟨m, h1, hm⟩ := lenK_ok (P := P) h0
    obtain ⟨n, h2, hn⟩ := lenK_ok (P := P) h1
    rw [forceNat_eq] at h2
    obtain ⟨xs, h3, hxs⟩ := srcK_ok (P := P) h2
    -- the two arms: something is stored, or there is nothing to store it in
    have run : ∀ (ξ : Nat → Value) (G : Gh) (a : Act) (w : World), Rep P ξ G h w → TDen P ξ G T a → ∃ (dd xx : Value) (ys : List Value), Den ξ G d dd ∧ DenL ξ G xs ys ∧ (Nat.min n m = 0 → ys = []) ∧ ∀ (base : Option Addr) (c : Nat) (w' : World), dd = .slice base m c →
        ((match base with | some ad => storeCells ad ys | none => pure ()).run P w = .ok () w') → (execOp a.eval o).run P w = .ok (.value (goInt (Nat.min n m))) w' := by
      intro ξ G a w R hT
      obtain ⟨dd, xx, e, hd1, hd2⟩ := den_two (hl hT)
      have e' : as.map a.eval = #[dd, xx] := arr_of_list (by simpa using e)
      have hle := lenB_le hd2 (hn ξ G xx w hd2) (Nat.min_le_left n m)
      obtain ⟨ys, q1, l1, l2, q4⟩ := hxs ξ G w xx R.fits hd2 hle
      have hnil : Nat.min n m = 0 → ys = [] := by
        intro h0
        apply List.length_eq_zero_iff.1
        by_cases hx : ∃ m c, x = .str m c
        · rw [l2 hx, h0]
        · rw [l1 (fun m c e => hx ⟨m, c, e⟩), h0, Nat.zero_mul]
      refine ⟨dd, xx, ys, hd1, q1, hnil, fun base c w' hdd hst => ?_⟩
      subst hdd
      have q5 := q4 w.drawn
      rw [builtin_run ho, e']
      simp only [builtin, Builtin.copy_, Sem.run_bind, ht0, show (#[Value.slice base m c, xx] : Array Value)[0]? = some (.slice base m c) from rfl, show (#[Value.slice base m c, xx] : Array Value)[1]? = some xx from rfl, underlying_run hu, Result.andThen_ok, hn ξ G xx w hd2, sizeOf_run hi, q5]
      cases base with
      | none => simp at hst; subst hst; rfl
      | some ad =>
        have : (storeCells ad ys).run P w = .ok () w' := hst
        simp [this]
    have put : ∀ {b off : Nat}, putK (.no 78) b off xs h (fun h => K (.int .i64 (.ofNat (Nat.min n m))) h) = .ok r → (∀ (ξ : Nat → Value) (G : Gh) (dd : Value), Den ξ G d dd → ∃ g len c, G[b]? = some (some g) ∧ dd = .slice (some ⟨g.addr, g.off + off, none⟩) len c) → DoesK P o T h K r := by
      intro b off hp hdd
      obtain ⟨h', h4, h5, h6⟩ := putK_ok (P := P) hp
      refine ⟨_, h', h4, does_value h5 fun ξ G a w R hT => ?_⟩
      obtain ⟨dd, xx, ys, q1, q2, q0, q3⟩ := run ξ G a w R hT
      obtain ⟨g, len, c, hG, e⟩ := hdd ξ G dd q1
      obtain ⟨w', q4, q5, q6⟩ := h6 ξ G w g ys R hG q2
      have hlen := hm ξ G dd w q1
      rw [e] at hlen
      have hlen' : (Result.ok len w : Result Nat) = .ok m w := hlen
      simp at hlen'
      subst hlen'
      exact ⟨goInt (Nat.min n len), w', G, .inl (q3 _ c w' e q4), by simp only [Den]; rfl, q5, q6⟩
    unfold copyK at h3
    split at h3
    · exact put h3 fun ξ G dd hd => by simp only [Den] at hd; obtain ⟨g, hG, rfl⟩ := hd; exact ⟨g, _, _, hG, rfl⟩
    · exact put h3 fun ξ G dd hd => by simp only [Den] at hd; obtain ⟨g, hG, _, _, rfl⟩ := hd; exact ⟨g, _, _, hG, rfl⟩
    · refine ⟨_, h, h3, does_value rfl fun ξ G a w R hT => ?_⟩
      obtain ⟨dd, xx, ys, q1, q2, q0, q3⟩ := run ξ G a w R hT
      have hlen := hm ξ G dd w q1
      simp only [Den] at q1
      subst q1
      have hlen' : (Result.ok 0 w : Result Nat) = .ok m w := hlen
      simp at hlen'
      subst hlen'
      exact ⟨goInt (Nat.min n 0), w, G, .inl (q3 none 0 w rfl rfl), by simp only [Den]; rfl, R, Step.refl _ _ _⟩
    · refine ⟨_, h, h3, does_value rfl fun ξ G a w R hT => ?_⟩
      obtain ⟨dd, xx, ys, q1, q2, q0, q3⟩ := run ξ G a w R hT
      have hlen := hm ξ G dd w q1
      simp only [Den] at q1
      obtain ⟨g, _, _, rfl⟩ := q1
      have hlen' : (Result.ok 0 w : Result Nat) = .ok m w := hlen
      simp at hlen'
      subst hlen'
      have hy : ys = [] := q0 (Nat.min_zero n)
      subst hy
      exact ⟨goInt (Nat.min n 0), w, G, .inl (q3 _ _ w rfl rfl), by simp only [Den]; rfl, R, Step.refl _ _ _⟩
    · cases h3
  | _ => cases h0
end
end Go.Ev
namespace Go.Ev
open Go
section
variable {P : Program} {γ : Type}
theorem zeroCells_den {ξ : Nat → Value} {G : Gh} {z : V} {zz : Value} {n : Nat} (hd : Den ξ G z zz) : DenL ξ G (repl n z.cells) (Builtin.zeroCells zz.cells n).toList := by
  have hc := den_cells hd
  have hl : zz.cells.size = z.cells.length := by have := hc.length; simpa using this
  exact zeros_den (n := n) hc rfl _ (by rw [hl])
theorem bClear_ok {o : Oper} {as : Array Operand} {ts : Array TypeId} {T : Tm} {h : H} {K : V → H → R γ} {r : γ} (ho : o.op = .call { callee := .builtin .clear, args := as, argTypes := ts })
    {l : List V} (hl : ∀ {ξ : Nat → Value} {G : Gh} {a : Act}, TDen P ξ G T a → DenL ξ G l (as.toList.map a.eval)) (h0 : bClear P ts.toList l h K = .ok r) : DoesK P o T h K r := by
  unfold bClear at h0
  split at h0
  case h_2 => cases h0
  rename_i t rest x hts
  have ht0 : ts[0]? = some t := by rw [← Array.getElem?_toList, hts]; rfl
  have base : ∀ (ξ : Nat → Value) (G : Gh) (a : Act) (w : World), TDen P ξ G T a → ∃ xx, Den ξ G x xx ∧ ∀ w', (Builtin.clear_ ts o.type #[xx]).run P w = .ok (.tuple #[]) w' → (execOp a.eval o).run P w = .ok (.value (.tuple #[])) w' := by
    intro ξ G a w hT
    obtain ⟨xx, e, hd⟩ := den_one (hl hT)
    have e' : as.map a.eval = #[xx] := arr_of_list (by simpa using e)
    refine ⟨xx, hd, fun w' hc => ?_⟩
    rw [builtin_run ho, e']
    simp only [builtin, Sem.run_bind, hc, Result.andThen_ok]
    rfl
  have stay : ∀ {d : TypeDesc}, P.underlying t = some d → K (.tup []) h = .ok r → (∀ (ξ : Nat → Value) (G : Gh) (xx : Value), Den ξ G x xx → ∃ a c, xx = .slice a 0 c) → DoesK P o T h K r := by
    intro d hu hk hx
    refine ⟨_, h, hk, does_value rfl fun ξ G a w R hT => ?_⟩
    obtain ⟨xx, hd, hrun⟩ := base ξ G a w hT
    obtain ⟨ad, c, rfl⟩ := hx ξ G xx hd
    refine ⟨.tuple #[], w, G, .inl (hrun w ?_), by simp only [Den]; exact ⟨_, rfl, .nil⟩, R, Step.refl _ _ _⟩
    unfold Builtin.clear_
    rw [ht0]
    simp only [show (#[Value.slice ad 0 c] : Array Value)[0]? = some (.slice ad 0 c) from rfl, Sem.run_bind, underlying_run hu, Result.andThen_ok]
    cases ad <;> cases d <;> rfl
  have wipe : ∀ {b off n : Nat}, (∃ d, P.underlying t = some d) → clearB P t b off n h K = .ok r → (∀ (ξ : Nat → Value) (G : Gh) (xx : Value), Den ξ G x xx → ∃ g c, G[b]? = some (some g) ∧ xx = .slice (some ⟨g.addr, g.off + off, none⟩) n c) → DoesK P o T h K r := by
    intro b off n ⟨d, hd0⟩ hk hx
    unfold clearB at hk
    cases hb : Nat.beq n 0 with
    | true =>
      rw [hb] at hk
      cases Nat.eq_of_beq_eq_true hb
      exact stay hd0 hk fun ξ G xx hd => by obtain ⟨g, c, _, e⟩ := hx ξ G xx hd; exact ⟨_, _, e⟩
    | false =>
      rw [hb] at hk
      have hn : n ≠ 0 := Nat.ne_of_beq_eq_false hb
      have ht := tyK_of P t
      rw [cond_false] at hk
      generalize tyK P t = tk at hk ht
      cases ht with
      | slc el i hu hi =>
        obtain ⟨v, z, h1, h2, h3⟩ := zeroK_ok hk
        rw [cellsK_cells, lapp_eq, List.append_nil] at h1
        obtain ⟨h', h4, h5, h6⟩ := putK_ok (P := P) (K := fun h => K (.tup []) h) h1
        refine ⟨_, h', h4, does_value h5 fun ξ G a w R hT => ?_⟩
        obtain ⟨xx, hd, hrun⟩ := base ξ G a w hT
        obtain ⟨g, c, hG, rfl⟩ := hx ξ G xx hd
        obtain ⟨w', q1, q2, q3⟩ := h6 ξ G w g _ R hG (zeroCells_den (n := n) (ofVal_den h2))
        refine ⟨.tuple #[], w', G, .inl (hrun w' ?_), by simp only [Den]; exact ⟨_, rfl, .nil⟩, q2, q3⟩
        unfold Builtin.clear_
        rw [ht0]
        obtain ⟨n, rfl⟩ : ∃ m, n = m + 1 := ⟨n - 1, by omega⟩
        simp only [show (#[Value.slice (some ⟨g.addr, g.off + off, none⟩) (n + 1) c] : Array Value)[0]? = some (.slice (some ⟨g.addr, g.off + off, none⟩) (n + 1) c) from rfl, Sem.run_bind, underlying_run hu, Result.andThen_ok, h3 w, q1, Sem.run_pure]
      | _ => cases hk
  split at h0
  · cases h0
  · rename_i hu
    obtain ⟨d, hd⟩ : ∃ d, P.underlying t = some d := by
      cases hq : P.underlying t with
      | none => exact absurd hq hu
      | some d => exact ⟨d, rfl⟩
    exact stay hd h0 fun ξ G xx hd => by simp only [Den] at hd; exact ⟨_, _, hd⟩
  · rename_i hu
    obtain ⟨d, hd⟩ : ∃ d, P.underlying t = some d := by
      cases hq : P.underlying t with
      | none => exact absurd hq hu
      | some d => exact ⟨d, rfl⟩
    exact stay hd h0 fun ξ G xx hd => by simp only [Den] at hd; obtain ⟨g, _, _, e⟩ := hd; exact ⟨_, _, e⟩
  · rename_i hu
    have hd : ∃ d, P.underlying t = some d := by
      cases hq : P.underlying t with
      | none => exact absurd hq hu
      | some d => exact ⟨d, rfl⟩
    exact wipe hd h0 fun ξ G xx hd => by simp only [Den] at hd; obtain ⟨g, hG, e⟩ := hd; exact ⟨g, _, hG, e⟩
  · rename_i hu
    have hd : ∃ d, P.underlying t = some d := by
      cases hq : P.underlying t with
      | none => exact absurd hq hu
      | some d => exact ⟨d, rfl⟩
    exact wipe hd h0 fun ξ G xx hd => by simp only [Den] at hd; obtain ⟨g, hG, _, _, e⟩ := hd; exact ⟨g, _, hG, e⟩
  · cases h0
/-! append -/
theorem fitK_ok {el n : Nat} {K : R γ} {r : γ} (h : fitK P el n K = .ok r) : n ≤ 140737488355328 ∧ n * P.bytesOf el ≤ 140737488355328 ∧ (∃ i z, P.info? el = some i ∧ i.zero = some z ∧ z.cells.size = i.size) ∧ K = .ok r := by
  obtain ⟨h0, h⟩ := cond_ok h
  obtain ⟨h1, h2⟩ := cond_ok h
  obtain ⟨h3, h4⟩ := cond_ok h2
  refine ⟨Nat.le_of_ble_eq_true h1, Nat.le_of_ble_eq_true h3, ?_, h4⟩
  unfold hasZ at h0
  split at h0
  · rename_i i hi
    split at h0
    · rename_i z hz
      exact ⟨i, z, hi, hz, Nat.eq_of_beq_eq_true h0⟩
    · cases h0
  · cases h0
/-- what is appended: n elements, these cells; from a source, or zeros -/
structure App (P : Program) (t u el : TypeId) (i : TypeInfo) (x : Value) (n : Nat) (news : List Value) (w : World) : Prop where
  ht : P.underlying t = some (.slice el)
  hi : P.info? el = some i
  pos : 0 < i.size
  len : news.length = n * i.size
  one : ∀ y ∈ news, y.oneCell' = true
  src : Src P i.size u x n news w ∨ (n ≤ 140737488355328 ∧ n * i.bytes ≤ 140737488355328 ∧ (∃ k, P.underlying u = some (.int k)) ∧ (∃ k, x = .int k (n : Int)) ∧ ∃ z, i.zero = some z ∧ news = (Builtin.zeroCells z.cells n).toList)
theorem wrap_nat {n : Nat} (h : n ≤ 140737488355328) : IntKind.i64.wrap (n : Int) = n := by rw [IntKind.wrap_i64]; omega
/-- there is room -/
theorem append_room {t u ty el : TypeId} {i : TypeInfo} {x : Value} {n : Nat} {news : List Value} {w : World} (A : App P t u el i x n news w) {base : Option Addr} {sLen sCap : Nat} (hroom : sLen + n ≤ sCap) {w' : World}
    (hst : (match base with | some a => storeCells (a.add (sLen * i.size)) news | none => pure ()).run P w = .ok () w') :
    (Builtin.append_ #[t, u] ty #[.slice base sLen sCap, x]).run P w = .ok (.slice base (sLen + n) sCap) w' := by
  rcases A.src with hs | ⟨hn1, hn2, ⟨k, hu⟩, ⟨kk, rfl⟩, z, hz, rfl⟩
  · rcases hs.kind with ⟨e', hk⟩ | hk
    · cases base with
      | none => simp at hst; subst hst; simp [Builtin.append_, run_underlying A.ht, run_underlying hk, sizeOf, typeInfo, A.hi, hs.len, hroom, hs.cells]
      | some ad => simp at hst; simp [Builtin.append_, run_underlying A.ht, run_underlying hk, sizeOf, typeInfo, A.hi, hs.len, hroom, hs.cells, hst]
    · cases base with
      | none => simp at hst; subst hst; simp [Builtin.append_, run_underlying A.ht, run_underlying hk, sizeOf, typeInfo, A.hi, hs.len, hroom, hs.cells]
      | some ad => simp at hst; simp [Builtin.append_, run_underlying A.ht, run_underlying hk, sizeOf, typeInfo, A.hi, hs.len, hroom, hs.cells, hst]
  · have h48i : ¬ (281474976710656 < (n : Int) * (i.bytes : Int)) := by
      rw [← Int.natCast_mul]; omega
    have hneg : ¬ ((n : Int) < 0) := by omega
    by_cases h0 : n = 0
    · subst h0
      have hnil : (Builtin.zeroCells z.cells 0).toList = [] := by simp [Builtin.zeroCells]
      rw [hnil] at hst
      have hw' : w' = w := by cases base <;> (simp [storeCells] at hst; exact hst.symm)
      subst hw'
      cases base <;> simp [Builtin.append_, run_underlying A.ht, run_underlying hu, sizeOf, typeInfo, A.hi, asInt, asIntOf, wrap_nat hn1, show sLen ≤ sCap by omega, storeCells, show IntKind.i64.wrap 0 = 0 by decide]
    · have hns : ¬ (n * i.size = 0) := Nat.mul_ne_zero h0 (by have := A.pos; omega)
      cases base with
      | none => simp at hst; subst hst; simp [Builtin.append_, run_underlying A.ht, run_underlying hu, sizeOf, typeInfo, zeroValue, A.hi, hz, asInt, asIntOf, wrap_nat hn1, hneg, h48i, hns, hroom]
      | some ad => simp at hst; simp [Builtin.append_, run_underlying A.ht, run_underlying hu, sizeOf, typeInfo, zeroValue, A.hi, hz, asInt, asIntOf, wrap_nat hn1, hneg, h48i, hns, hroom, hst]
/-- there is none -/
theorem append_grow {t u ty el : TypeId} {i : TypeInfo} {z : Value} {x : Value} {n : Nat} {news olds : List Value} {w : World} (A : App P t u el i x n news w) (hz : i.zero = some z) {base : Option Addr} {sLen sCap : Nat} (h0 : 0 < n) (hg : sCap < sLen + n) (hb1 : sLen + n ≤ 140737488355328) (hb2 : (sLen + n) * i.bytes ≤ 140737488355328)
    (hold : (Builtin.firstCells i.size sLen (.slice base sLen sCap)).run P w.drew = .ok olds.toArray w.drew) :
    ∃ cap, sLen + n ≤ cap ∧ (Builtin.append_ #[t, u] ty #[.slice base sLen sCap, x]).run P w = .ok (.slice (some ⟨w.heap.size, 0, none⟩) (sLen + n) cap)
        (w.drew.alloc (.cells ((olds ++ news).toArray ++ Builtin.zeroCells z.cells (cap - (sLen + n))) el)) := by
  refine ⟨grownCap w (sLen + n) sCap el, by simp [grownCap, Question.cut], ?_⟩
  have hfit := growslice_fits (bytes := i.bytes) hg hb2
  rcases A.src with hs | ⟨hn1, hn2, ⟨k, hu⟩, ⟨kk, rfl⟩, z', hz', rfl⟩
  · exact run_append_grow_src w t u ty el i z A.ht A.hi hz base sLen sCap olds hold x n news hs hg (by omega) hfit
  · rw [hz] at hz'
    simp at hz'
    subst hz'
    have := Lib.run_append_grow_zeros w t u ty el i z kk k A.ht hu A.hi hz base sLen sCap olds hold n h0 A.pos hg (by omega) (by omega) hfit
    rw [this]
    have e : olds.toArray ++ Builtin.zeroCells z.cells n = (olds ++ (Builtin.zeroCells z.cells n).toList).toArray := by apply Array.ext'; simp
    rw [e]
/-- an old block turns, under a new number -/
theorem Rep.turn {ξ : Nat → Value} {G : Gh} {h h1 h' : H} {w w' : World} {b : Nat} {x x' : Blk} {g g' : GB} {o' : Obj} (R : Rep P ξ G h w) (hn1 : h1.next = h.next) (hg1 : ∀ j, h1.get j = if j = b then none else h.get j)
    (hn : h'.next = h1.next + 1) (hg : ∀ j, h'.get j = if j = h1.next then some x' else h1.get j)
    (hb : h.get b = some x) (hG : G[b]? = some (some g)) (hwr : x.wr) (ho : w'.os = w.os) (ht : w'.tape = w.tape) (hu : w'.output = w.output) (hs : w'.heap.size = w.heap.size)
    (hh : ∀ r, w'.heap[r]? = if r = g.addr then some o' else w.heap[r]?) (ha : g'.addr = g.addr) (hB : ∀ G', Le G G' → BRep P ξ G' g' x' o') : Rep P ξ (G ++ [some g']) h' w' ∧ Step G h w (G ++ [some g']) h' w' := by
  have hle : Le G (G ++ [some g']) := Le.append _ _
  have hnew : (G ++ [some g'])[h1.next]? = some (some g') := by rw [hn1, ← R.len]; simp
  have hcase : ∀ b2 x2 g2, h'.get b2 = some x2 → (G ++ [some g'])[b2]? = some (some g2) → (b2 = h1.next ∧ g2 = g' ∧ x2 = x') ∨ (b2 ≠ h1.next ∧ b2 ≠ b ∧ h.get b2 = some x2 ∧ G[b2]? = some (some g2)) := by
    intro b2 x2 g2 e1 e2
    rw [hg] at e1
    by_cases hb2 : b2 = h1.next
    · subst hb2
      rw [if_pos rfl] at e1
      rw [hnew] at e2
      simp at e1 e2
      exact .inl ⟨rfl, e2.symm, e1.symm⟩
    · rw [if_neg hb2, hg1] at e1
      by_cases hbb : b2 = b
      · rw [if_pos hbb] at e1; cases e1
      · rw [if_neg hbb] at e1
        have hlt := R.lt_next e1
        rw [List.getElem?_append_left (by rw [R.len]; exact hlt)] at e2
        exact .inr ⟨hb2, hbb, e1, e2⟩
  have hga := R.lt _ _ hG
  refine ⟨⟨by simp [R.len, hn, hn1], ?_, ?_, ?_⟩, ⟨ho, ht, hu, by omega, ?_, ?_, ?_, [some g'], rfl⟩⟩
  · intro b2 g2 e1
    rw [hs]
    rw [List.getElem?_append] at e1
    split at e1
    · exact R.lt b2 g2 e1
    · rw [List.getElem?_singleton] at e1
      split at e1
      · simp at e1; subst e1; omega
      · cases e1
  · intro b2 x2 e1
    have e1' := e1
    rw [hg] at e1
    by_cases he : b2 = h1.next
    · subst he
      rw [if_pos rfl] at e1
      simp at e1
      subst e1
      exact ⟨g', o', hnew, by rw [hh, if_pos ha], hB _ hle⟩
    · rw [if_neg he, hg1] at e1
      by_cases hbb : b2 = b
      · rw [if_pos hbb] at e1; cases e1
      · rw [if_neg hbb] at e1
        obtain ⟨g2, o2, q1, q2, q3⟩ := R.blk b2 x2 e1
        have hne : g2.addr ≠ g.addr := fun e => hbb (R.inj b2 b x2 x g2 g e1 hb q1 hG e)
        exact ⟨g2, o2, hle.2 _ _ q1, by rw [hh, if_neg hne]; exact q2, q3.mono hle⟩
  · intro b1 b2 x1 x2 g1 g2 e1 e2 e3 e4 e5
    rcases hcase b1 x1 g1 e1 e3 with ⟨a1, a2, _⟩ | ⟨a1, a2, a3, a4⟩ <;> rcases hcase b2 x2 g2 e2 e4 with ⟨c1, c2, _⟩ | ⟨c1, c2, c3, c4⟩
    · omega
    · subst a2; exact absurd (R.inj b2 b x2 x g2 g c3 hb c4 hG (by omega)) c2
    · subst c2; exact absurd (R.inj b1 b x1 x g1 g a3 hb a4 hG (by omega)) a2
    · exact R.inj b1 b2 x1 x2 g1 g2 a3 c3 a4 c4 e5
  · intro r hr hw
    rw [hh]
    by_cases he : r = g.addr
    · exact absurd ⟨b, x, g, hb, hwr, hG, he.symm⟩ hw
    · rw [if_neg he]
  · rintro r hr ⟨b2, x2, g2, e1, e2, e3, e4⟩
    rcases hcase b2 x2 g2 e1 e3 with ⟨a1, a2, _⟩ | ⟨a1, a2, a3, a4⟩
    · subst a2; exact ⟨b, x, g, hb, hwr, hG, by omega⟩
    · exact ⟨b2, x2, g2, a3, e2, a4, e4⟩
  · rintro r hr ⟨b2, x2, g2, e1, e3, e4⟩
    rcases hcase b2 x2 g2 e1 e3 with ⟨a1, a2, _⟩ | ⟨a1, a2, a3, a4⟩
    · subst a2; exact ⟨b, x, g, hb, hG, by omega⟩
    · exact ⟨b2, x2, g2, a3, a4, e4⟩
end
end Go.Ev
namespace Go.Ev
open Go
section
variable {P : Program} {γ : Type}
/-- what append does -/
def Apps (P : Program) (el s : Nat) (x : V) (n : Nat) (new : List V) (h : H) (v : V) (h' : H) : Prop :=
  ∀ (ξ : Nat → Value) (G : Gh) (w : World) (t u ty : TypeId) (i : TypeInfo) (xx yy : Value) (news : List Value), Rep P ξ G h w → s = i.size → App P t u el i yy n news w → Den ξ G x xx → DenL ξ G new news →
    ∃ (res : Value) (w' : World) (G' : Gh), (Builtin.append_ #[t, u] ty #[xx, yy]).run P w = .ok res w' ∧ Den ξ G' v res ∧ Rep P ξ G' h' w' ∧ Step G h w G' h' w'
theorem brep_grow {ξ : Nat → Value} {G : Gh} {cs : List V} {vals : List Value} {z : Value} {i : TypeInfo} {a cap el n fz : Nat} {k : BK} (hk : k = .grow ∨ k = .conv) (hi : P.info? el = some i) (hz : z.cells.size = i.size) (hd : DenL ξ G cs vals) (hl : vals.length = n * i.size) (hc : n ≤ cap) :
    BRep P ξ G ⟨a, 0, cap⟩ (.cells cs el k fz) (.cells (vals.toArray ++ Builtin.zeroCells z.cells (cap - n)) el) := by
  have hlen := hd.length
  have hsz : (Builtin.zeroCells z.cells (cap - n)).size = (cap - n) * i.size := by simp [Builtin.zeroCells, hz]
  have htot : (vals.toArray ++ Builtin.zeroCells z.cells (cap - n)).size = cap * i.size := by
    rw [Array.size_append, hsz]
    simp only [List.size_toArray]
    rw [hl, ← Nat.add_mul]
    congr 1
    omega
  have hco : P.cellsOf el = i.size := cellsOf_info hi
  refine ⟨_, 0, 0, rfl, fun j v hv => ?_, ?_, ?_⟩
  · obtain ⟨x, hx, hden⟩ := hd.get hv
    refine ⟨x, ?_, hden⟩
    have hj : j < vals.length := (List.getElem?_eq_some_iff.1 hx).1
    simp only [Nat.zero_add]
    rw [Array.getElem?_append_left (by simpa using hj)]
    simpa using hx
  · rw [Array.size_append]
    simp only [List.size_toArray]
    omega
  · rcases hk with rfl | rfl
    · exact ⟨by rw [htot, hco]; simp, .inl (by simp)⟩
    · exact ⟨by rw [htot, hco]; simp, .inl (by simp)⟩
/-- a row that grows -/
theorem newG_ok {el : Nat} {k : BK} {cs : List V} {n fz : Nat} {h : H} {K : V → H → R γ} {r : γ} (hk : k = .grow ∨ k = .conv) (h0 : newG el k cs n fz h K = .ok r) :
    ∃ v h', K v h' = .ok r ∧ h'.ds = h.ds ∧ ∀ (ξ : Nat → Value) (G : Gh) (w : World) (vals : List Value) (z : Value) (i : TypeInfo) (cap : Nat), Rep P ξ G h w → P.info? el = some i → z.cells.size = i.size → DenL ξ G cs vals → vals.length = n * i.size → n ≤ cap →
      ∃ G', Den ξ G' v (.slice (some ⟨w.heap.size, 0, none⟩) n cap) ∧ Rep P ξ G' h' (w.drew.alloc (.cells (vals.toArray ++ Builtin.zeroCells z.cells (cap - n)) el)) ∧ Step G h w G' h' (w.drew.alloc (.cells (vals.toArray ++ Builtin.zeroCells z.cells (cap - n)) el)) := by
  obtain ⟨h', h1, h2, h3, h4⟩ := hnew_ok h0
  refine ⟨_, h', h1, h3, fun ξ G w vals z i cap R hi hz hd hl hc => ?_⟩
  obtain ⟨q1, q2⟩ := R.new (d := w.drawn + 1) (g := ⟨w.heap.size, 0, cap⟩) h2 h4 rfl (brep_grow hk hi hz hd hl hc)
  refine ⟨_, ?_, q1, q2⟩
  simp only [Den]
  exact ⟨⟨w.heap.size, 0, cap⟩, by rw [← R.len]; simp, by simpa using hc, Nat.le_refl _, rfl⟩
theorem appE_ok {el s b off len cap n : Nat} {new : List V} {h : H} {K : V → H → R γ} {r : γ} (h0 : appE P el s b off len cap n new h K = .ok r) :
    ∃ v h', K v h' = .ok r ∧ h'.ds = h.ds ∧ Apps P el s (.slice b off len cap) n new h v h' := by
  unfold appE at h0
  rw [forceNat_eq] at h0
  cases hc : Nat.ble (Nat.add len n) cap with
  | true =>
    rw [hc] at h0
    have hle : len + n ≤ cap := Nat.le_of_ble_eq_true hc
    obtain ⟨h', h1, h2, h3⟩ := putK_ok (P := P) (K := fun h => K (.slice b off (Nat.add len n) cap) h) h0
    refine ⟨_, h', h1, h2, fun ξ G w t u ty i xx yy news R hs A hx hd => ?_⟩
    simp only [Den] at hx
    obtain ⟨g, hG, rfl⟩ := hx
    obtain ⟨w', q1, q2, q3⟩ := h3 ξ G w g news R hG hd
    refine ⟨_, w', G, append_room A hle (w' := w') ?_, ?_, q2, q3⟩
    · have e : (⟨g.addr, g.off + off, none⟩ : Addr).add (len * i.size) = ⟨g.addr, g.off + Nat.add off (Nat.mul len s), none⟩ := by
        subst hs; simp [Addr.add, Nat.add_assoc]
      show (storeCells _ news).run P w = _
      rw [e]; exact q1
    · simp only [Den]; exact ⟨g, hG, rfl⟩
  | false =>
    rw [hc, cond_false] at h0
    obtain ⟨hlc, h0⟩ := cond_ok h0
    have hlc' : len ≤ cap := Nat.le_of_ble_eq_true hlc
    obtain ⟨hb1, hb2, ⟨i, z, hi, hz, hzs⟩, h0⟩ := fitK_ok h0
    obtain ⟨cs, h1, hl, h2⟩ := srcB_ok (P := P) h0
    rw [lapp_eq] at h1
    obtain ⟨v, h', h3, h4, h5⟩ := newG_ok (P := P) (.inl rfl) h1
    refine ⟨v, h', h3, h4, fun ξ G w t u ty i' xx yy news R hs A hx hd => ?_⟩
    have : i' = i := by have := A.hi; rw [hi] at this; simpa using this.symm
    subst this
    simp only [Den] at hx
    obtain ⟨g, hG, rfl⟩ := hx
    obtain ⟨olds, q1, q2, q3⟩ := h2 ξ G w g R.fits hG
    have hg : cap < len + n := by
      have : ¬ (len + n ≤ cap) := fun h => by
        rw [show Nat.add len n = len + n from rfl, Nat.ble_eq_true_of_le h] at hc; cases hc
      omega
    have hby : P.bytesOf el = i'.bytes := by simp [Program.bytesOf, hi]
    rw [hby] at hb2
    obtain ⟨cap', e1, e2⟩ := append_grow (ty := ty) A hz (base := some ⟨g.addr, g.off + off, none⟩) (sLen := len) (sCap := cap) (olds := olds) (by omega) hg hb1 hb2
      (run_firstCells_some _ i'.size len _ len cap olds (by rw [q1, hs]; rfl) (fun j v hv => q3 j v hv))
    obtain ⟨G', p1, p2, p3⟩ := h5 ξ G w (olds ++ news) z i' cap' R hi hzs (q2.append hd) (by rw [List.length_append, q1, A.len, hs]; show len * i'.size + n * i'.size = (len + n) * i'.size; rw [Nat.add_mul]) e1
    exact ⟨_, _, G', e2, p1, p2, p3⟩
theorem appN_ok {el s off len lb cut n : Nat} {new cs : List V} {k : BK} {fz b : Nat} {h : H} {K : V → H → R γ} {r : γ} (hk : k = .grow ∨ k = .conv) (hb : h.get b = some (.cells cs el k fz)) (hlb : lb < len + n) (hoff : off = cut * s)
    (hb1 : len + n ≤ 140737488355328) (hb2 : (len + n) * P.bytesOf el ≤ 140737488355328) (hz0 : ∃ i z, P.info? el = some i ∧ i.zero = some z ∧ z.cells.size = i.size)
    (h0 : appN el s off len (Nat.add len n) new cs k fz b h K = .ok r) : ∃ v h', K v h' = .ok r ∧ h'.ds = h.ds ∧ Apps P el s (.gsl b off len lb cut) n new h v h' := by
  obtain ⟨i, z, hi, hz, hzs⟩ := hz0
  unfold appN at h0
  obtain ⟨l1, h0⟩ := ldrop_ok h0
  obtain ⟨l2, h0⟩ := ltake_ok h0
  rw [lapp_eq, forceNat_eq] at h0
  obtain ⟨hfz, h0⟩ := cond_ok h0
  have hfz' : fz - off ≤ len * s := Nat.le_of_ble_eq_true hfz
  obtain ⟨h1, h0, n1, d1, g1⟩ := hset_ok h0
  have h00 := h0
  unfold newG at h0
  obtain ⟨h', h0, n2, d2, g2⟩ := hnew_ok h0
  refine ⟨_, h', h0, d2.trans d1, fun ξ G w t u ty i' xx yy news R hs A hx hd => ?_⟩
  have : i' = i := by have := A.hi; rw [hi] at this; simpa using this.symm
  subst this
  simp only [Den] at hx
  obtain ⟨g, hG, hcut, hlen, rfl⟩ := hx
  obtain ⟨g', o, e1, e2, e3⟩ := R.blk b _ hb
  rw [hG] at e1
  simp at e1
  subst e1
  have l2' : len * s ≤ cs.length - off := by simpa using l2
  obtain ⟨olds, q1, q2, q3⟩ := cells_den (off := off) (n := len * s) e2 e3 (by omega)
  have hco : P.cellsOf el = s := (cellsOf_info hi).trans hs.symm
  have hn0 : 0 < n := by omega
  have hby : P.bytesOf el = i'.bytes := by simp [Program.bytesOf, hi]
  rw [hby] at hb2
  have hdl : DenL ξ G ((cs.drop off).take (len * s)) olds := q2
  by_cases hroom : len + n ≤ g.cap - cut
  · -- in place
    obtain ⟨arr, lo, hi', rfl, hc, hsz, hRoom⟩ := e3
    have hnl : news.length = n * s := by rw [A.len, hs]
    have hcap : g.off + g.cap * s ≤ arr.size := by
      rcases hk with rfl | rfl
      · have := hRoom.1; rwa [hco] at this
      · have := hRoom.1; rwa [hco] at this
    have hfr : hi' ≤ g.off + fz ∨ hi' ≤ lo ∨ arr.size ≤ lo := by
      rcases hk with rfl | rfl
      · rcases hRoom.2 with h | h
        · exact .inl h
        · exact .inr (.inl (by omega))
      · exact hRoom.2
    have hend : off + (len + n) * s ≤ g.cap * s := by
      rw [hoff, ← Nat.add_mul]
      exact Nat.mul_le_mul_right s (by omega)
    have hend' : off + len * s + n * s ≤ g.cap * s := by rw [Nat.add_mul] at hend; omega
    have hfro : ∀ j, g.off + off + len * s ≤ j → j < arr.size → w.frozen? ⟨g.addr, j, none⟩ = false := by
      intro j hj1 hj2
      simp only [World.frozen?, e2]
      simp
      rcases hfr with h | h | h <;> omega
    have hcell : ∀ j, w.cell? ⟨g.addr, j, none⟩ = arr[j]? := fun j => by simp [World.cell?, e2]
    have hrun := run_storeCells_cells (P := P) g.addr (g.off + off + len * s) news 0 w (fun j hj => by
      rw [hcell, Nat.add_zero]
      have : g.off + off + len * s + j < arr.size := by omega
      simp [this]) (fun j hj => hfro _ (by omega) (by omega)) A.one
    simp only [Nat.add_zero] at hrun
    obtain ⟨arr', a1, a2, a3, a4, a5, a6, a7⟩ := setCells_heap g.addr el (lo, hi') news (g.off + off + len * s) arr w e2 (by omega)
    have hx : (Blk.cells cs el k fz).wr := by rcases hk with rfl | rfl <;> trivial
    have hB : ∀ G', Le G G' → BRep P ξ G' ⟨g.addr, g.off + off, g.cap - cut⟩ (.cells ((cs.drop off).take (len * s) ++ new) el k (fz - off)) (.cells arr' el (lo, hi')) := by
      intro G' hle
      have hol : ((cs.drop off).take (len * s)).length = len * s := by simp; omega
      refine ⟨arr', lo, hi', rfl, fun j v hv => ?_, ?_, ?_⟩
      · rw [a2]
        rw [List.getElem?_append, hol] at hv
        show ∃ x, (if g.off + off + len * s ≤ g.off + off + j ∧ g.off + off + j < g.off + off + len * s + news.length then news[g.off + off + j - (g.off + off + len * s)]? else arr[g.off + off + j]?) = some x ∧ _
        by_cases hj : j < len * s
        · rw [if_pos hj, List.getElem?_take, if_pos hj, List.getElem?_drop] at hv
          rw [if_neg (by omega)]
          obtain ⟨x, y1, y2⟩ := hc _ v hv
          exact ⟨x, by rw [← y1]; congr 1; omega, y2.mono hle⟩
        · rw [if_neg hj] at hv
          obtain ⟨x, y1, y2⟩ := hd.get hv
          have hjl : j - len * s < news.length := (List.getElem?_eq_some_iff.1 y1).1
          rw [if_pos (by omega), show g.off + off + j - (g.off + off + len * s) = j - len * s by omega]
          exact ⟨x, y1, y2.mono hle⟩
      · show g.off + off + _ ≤ _
        have := hd.length
        rw [List.length_append, hol, a1]
        omega
      · have hcc : (g.cap - cut) * s + cut * s ≤ g.cap * s := by rw [← Nat.add_mul]; exact Nat.mul_le_mul_right s (by omega)
        rcases hk with rfl | rfl
        · refine ⟨?_, ?_⟩
          · show g.off + off + (g.cap - cut) * P.cellsOf el ≤ arr'.size
            rw [hco, a1]; omega
          · show hi' ≤ g.off + off + (fz - off) ∨ _
            rcases hRoom.2 with h | h
            · exact .inl (by omega)
            · exact .inr h
        · refine ⟨?_, ?_⟩
          · show g.off + off + (g.cap - cut) * P.cellsOf el ≤ arr'.size
            rw [hco, a1]; omega
          · show hi' ≤ g.off + off + (fz - off) ∨ _
            rcases hRoom.2 with h | h | h
            · exact .inl (by omega)
            · exact .inr (.inl h)
            · exact .inr (.inr (by omega))
    obtain ⟨p1, p2⟩ := R.turn (g' := ⟨g.addr, g.off + off, g.cap - cut⟩) n1 g1 n2 g2 hb hG hx a3 a4 a5 a6 a7 rfl hB
    refine ⟨_, _, _, append_room A hroom (w' := w.setCells g.addr (g.off + off + len * s) news) ?_, ?_, p1, p2⟩
    · show (storeCells _ news).run P w = _
      have e : (⟨g.addr, g.off + off, none⟩ : Addr).add (len * i'.size) = ⟨g.addr, g.off + off + len * s, none⟩ := by
        subst hs; simp [Addr.add]
      rw [e]
      exact hrun
    · simp only [Den]
      exact ⟨⟨g.addr, g.off + off, g.cap - cut⟩, by rw [n1, ← R.len]; simp, by simpa using hroom, Nat.le_refl _, rfl⟩
  · -- new
    obtain ⟨cap', c1, c2⟩ := append_grow (ty := ty) A hz (base := some ⟨g.addr, g.off + off, none⟩) (sLen := len) (sCap := g.cap - cut) (olds := olds) hn0 (by omega) hb1 hb2
      (run_firstCells_some _ i'.size len _ len _ olds (by rw [q1, hs]) (fun j v hv => q3 j v hv))
    have R1 := R.kill n1 g1
    have S1 : Step G h w G h1 w := Step.kill g1
    have hl3 : (olds ++ news).length = (len + n) * i'.size := by rw [List.length_append, q1, A.len, hs, Nat.add_mul]
    obtain ⟨p1, p2⟩ := R1.new (d := w.drawn + 1) (g := ⟨w.heap.size, 0, cap'⟩) n2 g2 rfl (brep_grow (z := z) hk hi hzs (hdl.append hd) hl3 c1)
    refine ⟨_, _, _, c2, ?_, p1, S1.trans p2⟩
    simp only [Den]
    exact ⟨⟨w.heap.size, 0, cap'⟩, by rw [n1, ← R.len]; simp, by simpa using c1, Nat.le_refl _, rfl⟩
theorem appG_ok {el s b off len lb cut n : Nat} {new : List V} {h : H} {K : V → H → R γ} {r : γ} (h0 : appG P el s b off len lb cut n new h K = .ok r) :
    ∃ v h', K v h' = .ok r ∧ h'.ds = h.ds ∧ Apps P el s (.gsl b off len lb cut) n new h v h' := by
  unfold appG at h0
  rw [forceNat_eq] at h0
  cases hc : Nat.ble (Nat.add len n) lb with
  | true =>
    rw [hc] at h0
    have hle : len + n ≤ lb := Nat.le_of_ble_eq_true hc
    obtain ⟨h', h1, h2, h3⟩ := putK_ok (P := P) (K := fun h => K (.gsl b off (Nat.add len n) lb cut) h) h0
    refine ⟨_, h', h1, h2, fun ξ G w t u ty i xx yy news R hs A hx hd => ?_⟩
    simp only [Den] at hx
    obtain ⟨g, hG, hcut, hlen, rfl⟩ := hx
    obtain ⟨w', q1, q2, q3⟩ := h3 ξ G w g news R hG hd
    refine ⟨_, w', G, append_room A (by omega) (w' := w') ?_, ?_, q2, q3⟩
    · have e : (⟨g.addr, g.off + off, none⟩ : Addr).add (len * i.size) = ⟨g.addr, g.off + Nat.add off (Nat.mul len s), none⟩ := by
        subst hs; simp [Addr.add, Nat.add_assoc]
      show (storeCells _ news).run P w = _
      rw [e]; exact q1
    · simp only [Den]; exact ⟨g, hG, hcut, hle, rfl⟩
  | false =>
    rw [hc, cond_false] at h0
    obtain ⟨hoff, h0⟩ := cond_ok h0
    have hoff' : off = cut * s := Nat.eq_of_beq_eq_true hoff
    obtain ⟨hb1, hb2, hz0, h0⟩ := fitK_ok h0
    have hg : lb < len + n := by
      have : ¬ (len + n ≤ lb) := fun h => by
        rw [show Nat.add len n = len + n from rfl, Nat.ble_eq_true_of_le h] at hc; cases hc
      omega
    obtain ⟨x, hx, h1⟩ := hget_ok h0
    split at h1
    · obtain ⟨he, h2⟩ := cond_ok h1
      cases Nat.eq_of_beq_eq_true he
      exact appN_ok (.inl rfl) hx hg hoff' hb1 hb2 hz0 h2
    · obtain ⟨he, h2⟩ := cond_ok h1
      cases Nat.eq_of_beq_eq_true he
      exact appN_ok (.inr rfl) hx hg hoff' hb1 hb2 hz0 h2
    · cases h1
theorem appK_ok {el s : Nat} {x : V} {n : Nat} {new : List V} {h : H} {K : V → H → R γ} {r : γ} (h0 : appK P el s x n new h K = .ok r) :
    ∃ v h', K v h' = .ok r ∧ h'.ds = h.ds ∧ Apps P el s x n new h v h' := by
  unfold appK at h0
  split at h0
  · cases hn : Nat.beq n 0 with
    | true =>
      rw [hn] at h0
      cases Nat.eq_of_beq_eq_true hn
      refine ⟨_, h, h0, rfl, fun ξ G w t u ty i xx yy news R hs A hx hd => ?_⟩
      simp only [Den] at hx
      subst hx
      exact ⟨_, w, G, append_room A (Nat.le_refl _) (w' := w) rfl, by simp only [Den], R, Step.refl _ _ _⟩
    | false =>
      rw [hn, cond_false] at h0
      have hn0 : n ≠ 0 := Nat.ne_of_beq_eq_false hn
      obtain ⟨hb1, hb2, ⟨i, z, hi, hz, hzs⟩, h0⟩ := fitK_ok h0
      obtain ⟨v, h', h3, h4, h5⟩ := newG_ok (P := P) (.inl rfl) h0
      refine ⟨v, h', h3, h4, fun ξ G w t u ty i' xx yy news R hs A hx hd => ?_⟩
      have : i' = i := by have := A.hi; rw [hi] at this; simpa using this.symm
      subst this
      simp only [Den] at hx
      subst hx
      have hby : P.bytesOf el = i'.bytes := by simp [Program.bytesOf, hi]
      rw [hby] at hb2
      obtain ⟨cap', e1, e2⟩ := append_grow (ty := ty) A hz (base := none) (sLen := 0) (sCap := 0) (olds := []) (by omega) (by omega) (by omega) (by simpa using hb2) (run_firstCells_none _ i'.size 0 0 0)
      simp only [Nat.zero_add, List.nil_append] at e1 e2
      obtain ⟨G', p1, p2, p3⟩ := h5 ξ G w news z i' cap' R hi hzs hd A.len e1
      exact ⟨_, _, G', e2, p1, p2, p3⟩
  · exact appE_ok h0
  · exact appG_ok h0
  · obtain ⟨hn, h0⟩ := cond_ok h0
    cases Nat.eq_of_beq_eq_true hn
    refine ⟨_, h, h0, rfl, fun ξ G w t u ty i xx yy news R hs A hx hd => ?_⟩
    have hx0 := hx
    simp only [Den] at hx
    obtain ⟨g, hG, hcut, rfl⟩ := hx
    have hnil : news = [] := List.length_eq_zero_iff.1 (by rw [A.len]; simp)
    subst hnil
    exact ⟨_, w, G, append_room A (by omega) (w' := w) rfl, hx0, R, Step.refl _ _ _⟩
  · cases h0
end
end Go.Ev
namespace Go.Ev
open Go
section
variable {P : Program} {γ : Type}
theorem bAppend_ok {o : Oper} {as : Array Operand} {ts : Array TypeId} {T : Tm} {h : H} {K : V → H → R γ} {r : γ} (ho : o.op = .call { callee := .builtin .append, args := as, argTypes := ts })
    {l : List V} (hl : ∀ {ξ : Nat → Value} {G : Gh} {a : Act}, TDen P ξ G T a → DenL ξ G l (as.toList.map a.eval)) (h0 : bAppend P ts.toList l h K = .ok r) : DoesK P o T h K r := by
  unfold bAppend at h0
  split at h0
  case h_2 => cases h0
  rename_i t u s x hts
  have hts' : ts = #[t, u] := arr_of_list hts
  have ht := tyK_of P t
  generalize tyK P t = tk at h0 ht
  cases ht with
  | slc el i hu hi =>
    obtain ⟨hz, h0⟩ := cond_no h0
    have hpos : 0 < i.size := Nat.pos_of_ne_zero (Nat.ne_of_beq_eq_false hz)
    -- the end
    have fin : ∀ {n : Nat} {new : List V}, appK P el i.size s n new h K = .ok r → (∀ (ξ : Nat → Value) (G : Gh) (w : World) (yy : Value), Rep P ξ G h w → Den ξ G x yy → ∃ news, DenL ξ G new news ∧ App P t u el i yy n news w) → DoesK P o T h K r := by
      intro n new hk hs
      obtain ⟨v, h', h1, h2, h3⟩ := appK_ok (P := P) hk
      refine ⟨v, h', h1, does_value h2 fun ξ G a w R hT => ?_⟩
      obtain ⟨xx, yy, e, hd1, hd2⟩ := den_two (hl hT)
      have e' : as.map a.eval = #[xx, yy] := arr_of_list (by simpa using e)
      obtain ⟨news, q1, q2⟩ := hs ξ G w yy R hd2
      obtain ⟨res, w', G', p1, p2, p3, p4⟩ := h3 ξ G w t u o.type i xx yy news R rfl q2 hd1 q1
      refine ⟨res, w', G', .inl ?_, p2, p3, p4⟩
      rw [builtin_run ho, e', hts']
      simp only [builtin, Sem.run_bind, p1, Result.andThen_ok]
      rfl
    have src : ∀ {n : Nat} {c : Nat}, ((∃ e', P.underlying u = some (.slice e')) ∨ P.underlying u = some .string) → ((∀ m c, x ≠ .str m c) ∨ i.size = 1) → (∀ (ξ : Nat → Value) (G : Gh) (xx : Value) (w : World), Den ξ G x xx → (Builtin.lenOf xx).run P w = .ok n w) →
        srcK (.no c) i.size n x h (fun new => cond (plains new) (appK P el i.size s n new h K) (.no 73)) = .ok r → DoesK P o T h K r := by
      intro n c hk hsz hn hs
      obtain ⟨cs, h1, h2⟩ := srcK_ok (P := P) hs
      obtain ⟨hp, h3⟩ := cond_ok h1
      refine fin h3 fun ξ G w yy R hd => ?_
      have hle := lenB_le hd (hn ξ G yy w hd) (Nat.le_refl n)
      obtain ⟨news, q1, l1, l2, q4⟩ := h2 ξ G w yy R.fits hd hle
      have hlen : news.length = n * i.size := by
        by_cases hx : ∃ m c, x = .str m c
        · rcases hsz with h | h
          · obtain ⟨m, c, e⟩ := hx; exact absurd e (h m c)
          · rw [l2 hx, h, Nat.mul_one]
        · exact l1 fun m c e => hx ⟨m, c, e⟩
      have hone := plains_den hp q1
      exact ⟨news, q1, hu, hi, hpos, hlen, hone, .inl ⟨hk, fun w' => hn ξ G yy w' hd, q4 w.drawn, q4 (w.drawn + 1), hlen, hone⟩⟩
    have htu := tyK_of P u
    generalize tyK P u = uk at h0 htu
    cases htu with
    | int k huu =>
      obtain ⟨kk, n, rfl, h1⟩ := natK_ok h0
      obtain ⟨hb1, hb2, _, h2⟩ := fitK_ok h1
      obtain ⟨v, z, h3, h4, h5⟩ := zeroK_ok h2
      rw [cellsK_cells, llen_eq] at h3
      obtain ⟨hm, h3⟩ := cond_ok h3
      obtain ⟨hp, h3⟩ := cond_ok h3
      rw [lapp_eq, List.append_nil] at h3
      refine fin h3 fun ξ G w yy R hd => ?_
      simp only [Den] at hd
      subst hd
      have hdz : Den ξ G v z := ofVal_den h4
      have hzz : i.zero = some z := by
        have := h5 w
        simp only [zeroValue, Sem.run_bind, typeInfo_run hi, Result.andThen_ok] at this
        cases hq : i.zero with
        | none => rw [hq] at this; cases this
        | some z' =>
          rw [hq] at this
          have e : (Result.ok z' w : Result Value) = .ok z w := this
          simp at e
          rw [e]
      have hcl := (den_cells hdz).length
      have hm' : v.cells.length = i.size := Nat.eq_of_beq_eq_true hm
      have hby : P.bytesOf el = i.bytes := by simp [Program.bytesOf, hi]
      rw [hby] at hb2
      have hlen : (Builtin.zeroCells z.cells n).toList.length = n * i.size := by
        have : z.cells.size = i.size := by rw [← hm', ← hcl]; simp
        simp [Builtin.zeroCells, this]
      have hone : ∀ y ∈ (Builtin.zeroCells z.cells n).toList, y.oneCell' = true := by
        intro y hy
        have hpz := plains_den hp (den_cells hdz)
        simp only [Builtin.zeroCells, Array.toList_map, List.mem_map, Array.toList_range, List.mem_range] at hy
        obtain ⟨j, hj, rfl⟩ := hy
        have hpos' : 0 < z.cells.size := by
          rcases Nat.eq_zero_or_pos z.cells.size with h | h
          · rw [h] at hj; simp at hj
          · exact h
        have hlt : j % z.cells.size < z.cells.size := Nat.mod_lt _ hpos'
        rw [getElem!_pos z.cells _ hlt]
        exact hpz _ (by simp)
      exact ⟨_, zeroCells_den (n := n) hdz, hu, hi, hpos, hlen, hone, .inr ⟨hb1, hb2, ⟨k, huu⟩, ⟨kk, rfl⟩, z, hzz, rfl⟩⟩
    | slc el' i' huu hi' =>
      obtain ⟨hs, h0⟩ := cond_no h0
      obtain ⟨n, h1, hn⟩ := lenK_ok (P := P) h0
      exact src (.inl ⟨_, huu⟩) (.inl fun m c e => by subst e; cases hs) hn h1
    | str huu =>
      obtain ⟨hs, h0⟩ := cond_ok h0
      obtain ⟨n, h1, hn⟩ := lenK_ok (P := P) h0
      exact src (.inr huu) (.inr (Nat.eq_of_beq_eq_true hs)) hn h1
    | _ => cases h0
  | _ => cases h0
/-! unsafe.String -/
theorem liesAt_u8 {el u : TypeId} (he : P.underlying el = some (.int .u8)) (hu : P.underlying u = some (.int .u8)) (hc : P.cellsOf el = 1) (count off n : Nat) (hn : off + n ≤ count) : liesAt P P.depth el count off u n = true := by
  have hd : P.depth = (2 * (P.types.size + Made.depth) + 1) + 1 := rfl
  rw [hd]
  simp only [liesAt, Bool.or_eq_true]
  left
  rw [hd]
  simp [rowAt, hc, hn, sameLayout, he, hu, Nat.mod_one]
theorem unsafeString_def (pt : TypeId) (rest : List TypeId) (ty : TypeId) (a : Addr) (x : Value) : Builtin.unsafeString_ (pt :: rest).toArray ty #[.pointer (some a), x] = (do
      let n ← asInt x
      if n < 0 then runtimePanic (.error "unsafe.String: len out of range")
      if n > IntKind.i64.max then unsupported (.unsafePointer "String: a length above the largest int")
      if n = 0 then pure (.string .empty)
      else if ← variablesAt a (← elemOf pt) n.toNat then do
          let s ← loadBytes a .empty n.toNat
          freeze a n.toNat
          pure (.string s)
      else unsupported (.unsafePointer "String: not so many bytes at ptr")) := rfl
theorem unsafeString_def0 (pt : TypeId) (rest : List TypeId) (ty : TypeId) (x : Value) : Builtin.unsafeString_ (pt :: rest).toArray ty #[.pointer none, x] = (do
      let n ← asInt x
      if n < 0 then runtimePanic (.error "unsafe.String: len out of range")
      if n > IntKind.i64.max then unsupported (.unsafePointer "String: a length above the largest int")
      if n = 0 then pure (.string .empty)
      else runtimePanic (.error "unsafe.String: ptr is nil and len is not zero")) := rfl
theorem unsafeString_run {w : World} {ts : Array TypeId} {pt ty u el : TypeId} {a : Addr} {l : List UInt8} {k : IntKind} {size : Nat} {rest : List TypeId} (hts : ts = (pt :: rest).toArray) (hp : P.underlying pt = some (.pointer u)) (he : P.underlying el = some (.int .u8)) (hu : P.underlying u = some (.int .u8)) (hc : P.cellsOf el = 1)
    (hsh : w.shape? a.block = some (el, size)) (hn : a.off + l.length ≤ size) (h0 : l.length ≠ 0) (h63 : l.length ≤ 9223372036854775807) (hcell : ∀ j x, l[j]? = some x → w.cell? (a.add j) = some (.int .u8 x.toNat)) :
    (Builtin.unsafeString_ ts ty #[.pointer (some a), .int k l.length]).run P w = .ok (.string ⟨l.toArray⟩) (w.freeze a l.length) := by
  have hlb := Lib.run_loadBytes (P := P) w l a .empty hcell
  have hlies := liesAt_u8 (P := P) he hu hc (size / P.cellsOf el) a.off l.length (by rw [hc]; simpa using hn)
  have h63' : ¬ (9223372036854775807 : Int) < (l.length : Int) := by omega
  have hneg : ¬ (l.length : Int) < 0 := by omega
  have hmax : IntKind.i64.max = 9223372036854775807 := rfl
  subst hts
  rw [unsafeString_def]
  simp [asInt, asIntOf, hmax, h63', hneg, h0, variablesAt, hsh, elemOf, run_underlying hp, hlies, hlb]
theorem bString_ok {o : Oper} {as : Array Operand} {ts : Array TypeId} {T : Tm} {h : H} {K : V → H → R γ} {r : γ} (ho : o.op = .call { callee := .builtin .unsafeString, args := as, argTypes := ts })
    {l : List V} (hl : ∀ {ξ : Nat → Value} {G : Gh} {a : Act}, TDen P ξ G T a → DenL ξ G l (as.toList.map a.eval)) (h0 : bString P ts.toList l h K = .ok r) : DoesK P o T h K r := by
  unfold bString at h0
  split at h0
  case h_2 => cases h0
  rename_i t rest p n hts
  have hts' : ts = (t :: rest).toArray := arr_of_list hts
  obtain ⟨k, n, rfl, h1⟩ := natK_ok h0
  have ht := tyK_of P t
  generalize tyK P t = tk at h1 ht
  cases ht with
  | ptr u i hp hi =>
    have base : ∀ (ξ : Nat → Value) (G : Gh) (a : Act) (w : World), TDen P ξ G T a → ∃ xx, Den ξ G p xx ∧ ∀ y w', (Builtin.unsafeString_ ts o.type #[xx, .int k (Int.ofNat n)]).run P w = .ok y w' → (execOp a.eval o).run P w = .ok (.value y) w' := by
      intro ξ G a w hT
      obtain ⟨xx, yy, e, hd1, hd2⟩ := den_two (hl hT)
      have e' : as.map a.eval = #[xx, yy] := arr_of_list (by simpa using e)
      simp only [Den] at hd2
      subst hd2
      refine ⟨xx, hd1, fun y w' hy => ?_⟩
      rw [builtin_run ho, e']
      simp only [builtin, Sem.run_bind, hy, Result.andThen_ok]
      rfl
    have empty : n = 0 → K (.str 0 0) h = .ok r → (∀ (ξ : Nat → Value) (G : Gh) (xx : Value), Den ξ G p xx → ∃ q, xx = .pointer q) → DoesK P o T h K r := by
      intro hn hk hx
      refine ⟨_, h, hk, does_value rfl fun ξ G a w R hT => ?_⟩
      obtain ⟨xx, hd, hrun⟩ := base ξ G a w hT
      obtain ⟨q, rfl⟩ := hx ξ G xx hd
      subst hn
      refine ⟨.string .empty, w, G, .inl (hrun _ _ ?_), by simp only [Den]; exact ⟨by decide, rfl⟩, R, Step.refl _ _ _⟩
      have hmax : IntKind.i64.max = 9223372036854775807 := rfl
      rw [hts']
      cases q with
      | none => rw [unsafeString_def0]; simp [asInt, asIntOf, hmax]
      | some q => rw [unsafeString_def]; simp [asInt, asIntOf, hmax]
    have htu := tyK_of P u
    replace h1 : strK P (tyK P u) p n h K = .ok r := h1
    generalize tyK P u = uk at h1 htu
    unfold strK at h1
    split at h1
    · obtain ⟨hn, h2⟩ := cond_ok h1
      exact empty (Nat.eq_of_beq_eq_true hn) h2 fun ξ G xx hd => by simp only [Den] at hd; exact ⟨_, hd⟩
    · rename_i b off
      cases htu with
      | int _ hu =>
      cases hn : Nat.beq n 0 with
      | true =>
        rw [hn] at h1
        exact empty (Nat.eq_of_beq_eq_true hn) h1 fun ξ G xx hd => by simp only [Den] at hd; obtain ⟨g, _, e⟩ := hd; exact ⟨_, e⟩
      | false =>
        rw [hn, cond_false] at h1
        have hn0 : n ≠ 0 := Nat.ne_of_beq_eq_false hn
        unfold strB at h1
        obtain ⟨hmx, h2⟩ := cond_ok h1
        have hmx' : n ≤ 9223372036854775807 := Nat.le_of_ble_eq_true hmx
        obtain ⟨x, hx, h3⟩ := hget_ok h2
        have key : ∀ {cs : List V} {el : Nat} {bk : BK} {fz : Nat}, bk = .own ∨ bk = .grow → h.get b = some (.cells cs el bk fz) → bStrK P b off n cs el bk fz h K = .ok r → DoesK P o T h K r := by
          intro cs el bk fz hbk hb hk
          unfold bStrK at hk
          have hte := tyK_of P el
          generalize tyK P el = ek at hk hte
          split at hk
          case h_2 => cases hk
          cases hte with
          | int _ he =>
          obtain ⟨hc1, hk⟩ := cond_ok hk
          have hco : P.cellsOf el = 1 := Nat.eq_of_beq_eq_true hc1
          obtain ⟨l1, hk⟩ := ldrop_ok hk
          obtain ⟨d, hk, hd1, hd2, hd3⟩ := bytesK_ok hk
          rw [forceNat_eq] at hk
          obtain ⟨h', hk, n1, ds1, g1⟩ := hset_ok hk
          rw [forceNat_eq] at hk
          refine ⟨_, h', hk, does_value ds1 fun ξ G a w R hT => ?_⟩
          obtain ⟨xx, hd, hrun⟩ := base ξ G a w hT
          simp only [Den] at hd
          obtain ⟨g, hG, rfl⟩ := hd
          obtain ⟨g', ob, e1, e2, e3⟩ := R.blk b _ hb
          rw [hG] at e1
          simp at e1
          subst e1
          have hlen : off + n ≤ cs.length := by rw [List.length_drop] at hd2; omega
          obtain ⟨xs, q1, q2, q3⟩ := cells_den (off := off) (n := n) e2 e3 hlen
          have hxs := hd3 ξ G xs q2
          obtain ⟨arr, lo, hi', rfl, hc, hsz, hRoom⟩ := e3
          have hsh : w.shape? g.addr = some (el, arr.size) := by simp [World.shape?, e2]
          have hr := unsafeString_run (P := P) (w := w) (ty := o.type) (k := k) (a := ⟨g.addr, g.off + off, none⟩) (l := digs n d) hts' hp he hu hco hsh (by rw [digs_length]; show g.off + off + n ≤ _; omega) (by rw [digs_length]; exact hn0) (by rw [digs_length]; exact hmx')
            (fun j x hx => q3 j _ (by rw [hxs, List.getElem?_map, hx]; rfl))
          rw [digs_length] at hr
          have hfr : ∀ r, (w.freeze ⟨g.addr, g.off + off, none⟩ n).heap[r]? = if r = g.addr then some (.cells arr el (if lo == hi' then (g.off + off, g.off + off + n) else (min lo (g.off + off), max hi' (g.off + off + n)))) else w.heap[r]? := by
            intro r
            unfold World.freeze
            rw [if_neg hn0]
            show (w.heap.modify g.addr _)[r]? = _
            rw [Array.getElem?_modify]
            by_cases hr : g.addr = r
            · subst hr
              rw [if_pos rfl, if_pos rfl, e2]
              rfl
            · rw [if_neg hr, if_neg (fun e => hr e.symm)]
          have hwsz : (w.freeze ⟨g.addr, g.off + off, none⟩ n).heap.size = w.heap.size := by
            unfold World.freeze
            rw [if_neg hn0]
            simp
          have hwr : ∀ fz, (Blk.cells cs el bk fz).wr := by intro fz; rcases hbk with rfl | rfl <;> trivial
          have hosw : ∀ (f : World → World) , True := fun _ => trivial
          have hB : BRep P ξ G g (.cells cs el bk (Nat.max fz (Nat.add off n))) (.cells arr el (if lo == hi' then (g.off + off, g.off + off + n) else (min lo (g.off + off), max hi' (g.off + off + n)))) := by
            refine ⟨arr, (if lo == hi' then (g.off + off, g.off + off + n) else (min lo (g.off + off), max hi' (g.off + off + n))).1, (if lo == hi' then (g.off + off, g.off + off + n) else (min lo (g.off + off), max hi' (g.off + off + n))).2, rfl, hc, hsz, ?_⟩
            have hm1 : fz ≤ Nat.max fz (Nat.add off n) := Nat.le_max_left _ _
            have hm2 : off + n ≤ Nat.max fz (Nat.add off n) := Nat.le_max_right _ _
            generalize Nat.max fz (Nat.add off n) = M at hm1 hm2
            rcases hbk with rfl | rfl
            · obtain ⟨r1, r2, r3⟩ := hRoom
              refine ⟨r1, r2, .inl ?_⟩
              by_cases hlh : lo = hi'
              · rw [if_pos (by simpa using hlh)]
                show g.off + off + n ≤ M
                omega
              · rw [if_neg (by simpa using hlh)]
                show max hi' (g.off + off + n) ≤ M
                have : hi' ≤ fz := by rcases r3 with h | h; exact h; exact absurd h.symm hlh
                omega
            · obtain ⟨r1, r3⟩ := hRoom
              refine ⟨r1, .inl ?_⟩
              by_cases hlh : lo = hi'
              · rw [if_pos (by simpa using hlh)]
                show g.off + off + n ≤ g.off + M
                omega
              · rw [if_neg (by simpa using hlh)]
                show max hi' (g.off + off + n) ≤ g.off + M
                have : hi' ≤ g.off + fz := by rcases r3 with h | h; exact h; exact absurd h.symm hlh
                omega
          have hos : (w.freeze ⟨g.addr, g.off + off, none⟩ n).os = w.os ∧ (w.freeze ⟨g.addr, g.off + off, none⟩ n).tape = w.tape ∧ (w.freeze ⟨g.addr, g.off + off, none⟩ n).output = w.output := by
            unfold World.freeze
            rw [if_neg hn0]
            exact ⟨rfl, rfl, rfl⟩
          obtain ⟨p1, p2⟩ := R.put n1 g1 hb hG (hwr fz) hos.1 hos.2.1 hos.2.2 hwsz hfr hB (hwr _)
          exact ⟨_, _, G, .inl (hrun _ _ hr), by simp only [Den]; exact ⟨hd1, trivial⟩, p1, p2⟩
        split at h3
        · exact key (.inl rfl) hx h3
        · exact key (.inr rfl) hx h3
        · cases h3
    · cases h1
  | _ => cases h1
end
end Go.Ev
namespace Go.Ev
open Go
section
variable {P : Program} {γ : Type} {ξ : Nat → Value} {G : Gh}
theorem Entries.nil : Entries ξ G [] [] := ⟨rfl, fun i k v s h => by simp at h⟩
theorem Entries.mk {k v : V} {s : Nat} {es : List (V × V × Nat)} {e : MapEntry} {xs : List MapEntry} (h1 : Den ξ G k e.key) (h2 : Den ξ G v e.val) (h3 : e.born = s) (h : Entries ξ G es xs) : Entries ξ G ((k, v, s) :: es) (e :: xs) := by
  refine ⟨by simp [h.1], fun i k' v' s' hi => ?_⟩
  cases i with
  | zero => simp at hi; obtain ⟨rfl, rfl, rfl⟩ := hi; exact ⟨e, rfl, h1, h2, h3⟩
  | succ i => exact h.2 i k' v' s' (by simpa using hi)
theorem Entries.nil_of {xs : List MapEntry} (h : Entries ξ G [] xs) : xs = [] := List.length_eq_zero_iff.1 (by simpa using h.1)
/-- one is set: an old one, or a new one -/
theorem setE_ok {t : TypeId} {k v : V} {clock : Nat} {c : Nat} {r : γ} : ∀ {es : List (V × V × Nat)} {K : List (V × V × Nat) → Bool → R γ},
    List.rec (motive := fun _ => (List (V × V × Nat) → Bool → R γ) → R γ) (fun K => K [(k, v, clock)] true) (fun x l ih K => keyK (.no c) (tyK P t) k x.1 fun b => cond b (K ((k, v, x.2.2) :: l) false) (ih fun l b => K (x :: l) b)) es K = .ok r →
    ∃ es' n, K es' n = .ok r ∧ ((n = true ∧ ∀ (ξ : Nat → Value) (G : Gh) (x z : Value) (d : TypeDesc) (xs : List MapEntry) (i : Nat), P.underlying t = some d → Den ξ G k x → Den ξ G v z → Entries ξ G es xs → Instr.findNow d x xs i = some none ∧ Entries ξ G es' (xs ++ [{ key := x, val := z, born := clock }])) ∨
      (n = false ∧ ∀ (ξ : Nat → Value) (G : Gh) (x z : Value) (d : TypeDesc) (xs : List MapEntry) (i : Nat), P.underlying t = some d → Den ξ G k x → Den ξ G v z → Entries ξ G es xs → ∃ j e, Instr.findNow d x xs i = some (some (i + j, e.val)) ∧ xs[j]? = some e ∧ x = e.key ∧ Entries ξ G es' (xs.modify j fun e => { e with key := x, val := z })))
  | [], K, h => ⟨_, true, h, .inl ⟨rfl, fun ξ G x z d xs i hd hx hz hE => by
      cases hE.nil_of
      exact ⟨rfl, .mk hx hz rfl .nil⟩⟩⟩
  | (k2, v2, s2) :: es, K, h => by
    obtain ⟨b, h1, h2⟩ := keyK_ok h
    cases b with
    | true =>
      refine ⟨_, false, h1, .inr ⟨rfl, fun ξ G x z d xs i hd hx hz hE => ?_⟩⟩
      obtain ⟨e, ys, rfl, q1, q2, q3, q4⟩ := hE.cons
      exact ⟨0, e, by simp only [Instr.findNow, (h2 ξ G x e.key d hd hx q1).1, Nat.add_zero], rfl, (h2 ξ G x e.key d hd hx q1).2 rfl, .mk hx hz q3 q4⟩
    | false =>
      obtain ⟨es', n, h3, h4⟩ := setE_ok (es := es) (K := fun l b => K ((k2, v2, s2) :: l) b) h1
      refine ⟨_, n, h3, ?_⟩
      rcases h4 with ⟨rfl, h4⟩ | ⟨rfl, h4⟩
      · refine .inl ⟨rfl, fun ξ G x z d xs i hd hx hz hE => ?_⟩
        obtain ⟨e, ys, rfl, q1, q2, q3, q4⟩ := hE.cons
        obtain ⟨p1, p2⟩ := h4 ξ G x z d ys (i + 1) hd hx hz q4
        exact ⟨by simp only [Instr.findNow, (h2 ξ G x e.key d hd hx q1).1, p1], .mk q1 q2 q3 p2⟩
      · refine .inr ⟨rfl, fun ξ G x z d xs i hd hx hz hE => ?_⟩
        obtain ⟨e, ys, rfl, q1, q2, q3, q4⟩ := hE.cons
        obtain ⟨j, e2, p1, p2, p3, p4⟩ := h4 ξ G x z d ys (i + 1) hd hx hz q4
        exact ⟨j + 1, e2, by simp only [Instr.findNow, (h2 ξ G x e.key d hd hx q1).1, p1]; congr 3; omega, by simpa using p2, p3, by rw [List.modify_succ_cons]; exact .mk q1 q2 q3 p4⟩
/-- the entry of a key -/
theorem entE_ok {t : TypeId} {k z : V} {clock : Nat} {c : Nat} {r : γ} : ∀ {es : List (V × V × Nat)} {K : List (V × V × Nat) → V → Nat → Bool → R γ},
    List.rec (motive := fun _ => (List (V × V × Nat) → V → Nat → Bool → R γ) → R γ) (fun K => K [(k, z, clock)] z clock true) (fun x l ih K => keyK (.no c) (tyK P t) k x.1 fun b => cond b (K ((k, x.2) :: l) x.2.1 x.2.2 false) (ih fun l => K (x :: l))) es K = .ok r →
    ∃ es' v s n, K es' v s n = .ok r ∧ ((n = true ∧ v = z ∧ s = clock ∧ ∀ (ξ : Nat → Value) (G : Gh) (x zz : Value) (d : TypeDesc) (xs : List MapEntry) (i : Nat), P.underlying t = some d → Den ξ G k x → Den ξ G z zz → Entries ξ G es xs → Instr.findNow d x xs i = some none ∧ Entries ξ G es' (xs ++ [{ key := x, val := zz, born := clock }])) ∨
      (n = false ∧ ∀ (ξ : Nat → Value) (G : Gh) (x : Value) (d : TypeDesc) (xs : List MapEntry) (i : Nat), P.underlying t = some d → Den ξ G k x → Entries ξ G es xs → ∃ j e, Instr.findNow d x xs i = some (some (i + j, e.val)) ∧ xs[j]? = some e ∧ x = e.key ∧ Den ξ G v e.val ∧ e.born = s ∧ Entries ξ G es' (xs.modify j fun e => { e with key := x })))
  | [], K, h => ⟨_, _, _, true, h, .inl ⟨rfl, rfl, rfl, fun ξ G x z d xs i hd hx hz hE => by
      cases hE.nil_of
      exact ⟨rfl, .mk hx hz rfl .nil⟩⟩⟩
  | (k2, v2, s2) :: es, K, h => by
    obtain ⟨b, h1, h2⟩ := keyK_ok h
    cases b with
    | true =>
      refine ⟨_, _, _, false, h1, .inr ⟨rfl, fun ξ G x d xs i hd hx hE => ?_⟩⟩
      obtain ⟨e, ys, rfl, q1, q2, q3, q4⟩ := hE.cons
      exact ⟨0, e, by simp only [Instr.findNow, (h2 ξ G x e.key d hd hx q1).1, Nat.add_zero], rfl, (h2 ξ G x e.key d hd hx q1).2 rfl, q2, q3, .mk hx q2 q3 q4⟩
    | false =>
      obtain ⟨es', v, s, n, h3, h4⟩ := entE_ok (es := es) (K := fun l => K ((k2, v2, s2) :: l)) h1
      refine ⟨_, _, _, n, h3, ?_⟩
      rcases h4 with ⟨rfl, e1, e2, h4⟩ | ⟨rfl, h4⟩
      · refine .inl ⟨rfl, e1, e2, fun ξ G x z d xs i hd hx hz hE => ?_⟩
        obtain ⟨e, ys, rfl, q1, q2, q3, q4⟩ := hE.cons
        obtain ⟨p1, p2⟩ := h4 ξ G x z d ys (i + 1) hd hx hz q4
        exact ⟨by simp only [Instr.findNow, (h2 ξ G x e.key d hd hx q1).1, p1], .mk q1 q2 q3 p2⟩
      · refine .inr ⟨rfl, fun ξ G x d xs i hd hx hE => ?_⟩
        obtain ⟨e, ys, rfl, q1, q2, q3, q4⟩ := hE.cons
        obtain ⟨j, e2, p1, p2, p3, p5, p6, p4⟩ := h4 ξ G x d ys (i + 1) hd hx q4
        exact ⟨j + 1, e2, by simp only [Instr.findNow, (h2 ξ G x e.key d hd hx q1).1, p1]; congr 3; omega, by simpa using p2, p3, p5, p6, by rw [List.modify_succ_cons]; exact .mk q1 q2 q3 p4⟩
/-- the value of the entry that was born then -/
theorem putE_ok {s : Nat} {v : V} {c : Nat} {r : γ} : ∀ {es : List (V × V × Nat)} {K : List (V × V × Nat) → R γ}, putE (.no c) s v es K = .ok r →
    ∃ es', K es' = .ok r ∧ ∀ (ξ : Nat → Value) (G : Gh) (z : Value) (xs : List MapEntry), Den ξ G v z → Entries ξ G es xs → ∃ j, xs.findIdx? (fun e => (e.born : Int) == (s : Int)) = some j ∧ Entries ξ G es' (xs.modify j fun e => { e with val := z })
  | [], K, h => by cases h
  | (k2, v2, s2) :: es, K, h => by
    have h' : cond (Nat.beq s2 s) (K ((k2, v, s2) :: es)) (putE (.no c) s v es fun t => K ((k2, v2, s2) :: t)) = .ok r := h
    cases hb : Nat.beq s2 s with
    | true =>
      rw [hb] at h'
      refine ⟨_, h', fun ξ G z xs hz hE => ?_⟩
      obtain ⟨e, ys, rfl, q1, q2, q3, q4⟩ := hE.cons
      have : e.born = s := q3.trans (Nat.eq_of_beq_eq_true hb)
      exact ⟨0, by simp [List.findIdx?_cons, this], .mk q1 hz q3 q4⟩
    | false =>
      rw [hb] at h'
      obtain ⟨es', h3, h4⟩ := putE_ok h'
      refine ⟨_, h3, fun ξ G z xs hz hE => ?_⟩
      obtain ⟨e, ys, rfl, q1, q2, q3, q4⟩ := hE.cons
      obtain ⟨j, p1, p2⟩ := h4 ξ G z ys hz q4
      have hne : e.born ≠ s := by rw [q3]; exact Nat.ne_of_beq_eq_false hb
      refine ⟨j + 1, ?_, by rw [List.modify_succ_cons]; exact .mk q1 q2 q3 p2⟩
      rw [List.findIdx?_cons]
      have : ((e.born : Int) == (s : Int)) = false := beq_eq_false_iff_ne.2 (by omega)
      simp [this, p1]
/-- an object that is no row turns -/
theorem obj_put {h h' : H} {w : World} {b : Nat} {x x' : Blk} {g : GB} {o o' : Obj} (R : Rep P ξ G h w) (hn : h'.next = h.next) (hg : ∀ j, h'.get j = if j = b then some x' else h.get j) (hb : h.get b = some x) (hG : G[b]? = some (some g)) (hwr : x.wr) (hx : x'.wr)
    (ho : w.heap[g.addr]? = some o) (hnc : ∀ a b c, o ≠ .cells a b c) (hB : BRep P ξ G g x' o') :
    (setObj g.addr o').run P w = .ok () { w with heap := w.heap.setIfInBounds g.addr o' } ∧ Rep P ξ G h' { w with heap := w.heap.setIfInBounds g.addr o' } ∧ Step G h w G h' { w with heap := w.heap.setIfInBounds g.addr o' } := by
  have hlt := R.lt b g hG
  refine ⟨?_, R.put hn hg hb hG hwr rfl rfl rfl (by simp) (fun r => ?_) hB hx⟩
  · simp only [setObj, Sem.run, ho]
  · show (w.heap.setIfInBounds g.addr o')[r]? = _
    rw [Array.getElem?_setIfInBounds]
    by_cases hr : g.addr = r
    · subst hr; simp [hlt]
    · rw [if_neg hr, if_neg (fun e => hr e.symm)]
theorem same_key {x : Value} (h : (∃ k n, x = .int k n) ∨ ∃ s, x = .string s) : Instr.sameBits 10000 x x = true := by
  rcases h with ⟨k, n, rfl⟩ | ⟨s, rfl⟩
  · simp [Instr.sameBits]
  · simp [Instr.sameBits, beq_toListBytes]
end
end Go.Ev
namespace Go.Ev
open Go
section
variable {P : Program} {γ : Type}
theorem findKey_run {key : TypeId} {d : TypeDesc} (hd : P.underlying key = some d) {x : Value} {xs : List MapEntry} {w : World} {q : Option (Nat × Value)} (hq : Instr.findNow d x xs 0 = some q) : (Instr.findKey key x xs).run P w = .ok q w := by
  simp only [Instr.findKey, Sem.run_bind, underlying_run hd, Result.andThen_ok, hq, Sem.run_pure]
theorem key_form {ξ : Nat → Value} {G : Gh} {t : TypeId} {k : V} {x : Value} {K : R γ} {c : Nat} {r : γ} (h : keyOk (.no c) (tyK P t) k K = .ok r) (hx : Den ξ G k x) : (∃ k n, x = .int k n) ∨ ∃ s, x = .string s := by
  unfold keyOk at h
  split at h
  · simp only [Den] at hx; exact .inl ⟨_, _, hx⟩
  · simp only [Den] at hx; exact .inr ⟨_, hx.2⟩
  · cases h
theorem opMapSet_ok {o : Oper} {t : TypeId} {m k x : Operand} {T : Tm} {h : H} {K : V → H → R γ} {r : γ} (ho : o.op = .mapUpdate t m k x ∨ o.op = .insert t m k x) (h0 : opMapSet P t m k x T h K = .ok r) : DoesK P o T h K r := by
  obtain ⟨vm, hm, h1⟩ := ev_ok h0
  obtain ⟨vk, hk, h2⟩ := ev_ok h1
  obtain ⟨vx, hx, h3⟩ := ev_ok h2
  split at h3
  case h_2 => cases h3
  rename_i b
  have ht := tyK_of P t
  generalize tyK P t = tk at h3 ht
  cases ht with
  | map key el hmu =>
    obtain ⟨y, hy, h4⟩ := hget_ok h3
    split at h4
    case h_2 => cases h4
    rename_i es cl
    obtain ⟨h5, d, hd, hform, hchk⟩ := keyOk_ok (P := P) (t := key) h4
    have hex : ∀ a : Act, execOp a.eval o = (do Instr.mapUpdate t (a.eval m) (a.eval k) (a.eval x); pure .skip) := by
      intro a; unfold execOp; rcases ho with ho | ho <;> rw [ho]
    have base : ∀ (ξ : Nat → Value) (G : Gh) (a : Act) (w : World), Rep P ξ G h w → TDen P ξ G T a → ∃ (xs : Array MapEntry) (g : GB), Entries ξ G es xs.toList ∧ Den ξ G vk (a.eval k) ∧ Den ξ G vx (a.eval x) ∧ G[b]? = some (some g) ∧ a.eval m = .map (some g.addr) ∧ w.heap[g.addr]? = some (.map xs cl) := by
      intro ξ G a w R hT
      have e1 := evP_den hT hm
      simp only [Den] at e1
      obtain ⟨g, hg, e1⟩ := e1
      obtain ⟨ob, hob, hB⟩ := R.fits b g _ hg hy
      obtain ⟨xs, rfl, hE⟩ := hB
      exact ⟨xs, g, hE, evP_den hT hk, evP_den hT hx, hg, e1, hob⟩
    obtain ⟨es', n, h6, h7⟩ := setE_ok (P := P) (t := key) (K := fun es n => forceNat (cond n (Nat.succ cl) cl) fun c => hset h b (some (.map es c)) (fun h => K (.tup []) h) (.no 51)) h5
    rw [forceNat_eq] at h6
    obtain ⟨h', h8, n1, d1, g1⟩ := hset_ok h6
    refine ⟨_, h', h8, does_value d1 fun ξ G a w R hT => ?_⟩
    obtain ⟨xs, g, hE, hkd, hxd, hG, e1, hob⟩ := base ξ G a w R hT
    have hget : (getObj g.addr).run P w = .ok (.map xs cl) w := by simp [getObj, Sem.run, hob]
    rcases h7 with ⟨rfl, h7⟩ | ⟨rfl, h7⟩
    · obtain ⟨q1, q2⟩ := h7 ξ G _ _ d xs.toList 0 hd hkd hxd hE
      obtain ⟨p1, p2, p3⟩ := obj_put (P := P) (x' := .map es' (cl + 1)) (o' := .map (xs.push { key := a.eval k, val := a.eval x, born := cl }) (cl + 1)) R n1 g1 hy hG trivial trivial hob (by simp) ⟨_, rfl, by simpa using q2⟩
      refine ⟨undef, _, G, .inr ⟨?_, rfl⟩, den_undef, p2, p3⟩
      rw [hex]
      simp only [Instr.mapUpdate, Sem.run_bind, underlying_run hmu, Result.andThen_ok, e1, hget, hchk ξ G _ _ w hkd, findKey_run hd q1, p1, Sem.run_pure]
    · obtain ⟨j, e, q1, q2, q3, q4⟩ := h7 ξ G _ _ d xs.toList 0 hd hkd hxd hE
      obtain ⟨p1, p2, p3⟩ := obj_put (P := P) (x' := .map es' cl) (o' := .map (xs.modify j fun e => { e with key := a.eval k, val := a.eval x }) cl) R n1 g1 hy hG trivial trivial hob (by simp) ⟨_, rfl, by simpa using q4⟩
      refine ⟨undef, _, G, .inr ⟨?_, rfl⟩, den_undef, p2, p3⟩
      rw [hex]
      have hj : xs[j]? = some e := by simpa using q2
      have hs : Instr.sameBits 10000 e.key (a.eval k) = true := by rw [← q3]; exact same_key (key_form h4 hkd)
      simp only [Nat.zero_add] at q1
      simp only [Instr.mapUpdate, Sem.run_bind, underlying_run hmu, Result.andThen_ok, e1, hget, hchk ξ G _ _ w hkd, findKey_run hd q1, hj, Option.map_some, Option.getD_some, Instr.keyThatStays, hs, if_true, Sem.run_pure, p1]
  | _ => cases h3
theorem opMapEntry_ok {o : Oper} {t : TypeId} {m k : Operand} {T : Tm} {h : H} {K : V → H → R γ} {r : γ} (ho : o.op = .mapEntry t m k) (h0 : opMapEntry P t m k T h K = .ok r) : DoesK P o T h K r := by
  obtain ⟨vm, hm, h1⟩ := ev_ok h0
  obtain ⟨vk, hk, h2⟩ := ev_ok h1
  split at h2
  case h_2 => cases h2
  rename_i b
  have ht := tyK_of P t
  generalize tyK P t = tk at h2 ht
  cases ht with
  | map key el hmu =>
    obtain ⟨vz, z, h3, hz1, hz2⟩ := zeroK_ok h2
    obtain ⟨y, hy, h4⟩ := hget_ok h3
    split at h4
    case h_2 => cases h4
    rename_i es cl
    obtain ⟨h5, d, hd, hform, hchk⟩ := keyOk_ok (P := P) (t := key) h4
    have hex : ∀ a : Act, execOp a.eval o = (do pure (.value (← Instr.mapEntry t (a.eval m) (a.eval k)))) := by
      intro a; unfold execOp; rw [ho]
    have base : ∀ (ξ : Nat → Value) (G : Gh) (a : Act) (w : World), Rep P ξ G h w → TDen P ξ G T a → ∃ (xs : Array MapEntry) (g : GB), Entries ξ G es xs.toList ∧ Den ξ G vk (a.eval k) ∧ G[b]? = some (some g) ∧ a.eval m = .map (some g.addr) ∧ w.heap[g.addr]? = some (.map xs cl) := by
      intro ξ G a w R hT
      have e1 := evP_den hT hm
      simp only [Den] at e1
      obtain ⟨g, hg, e1⟩ := e1
      obtain ⟨ob, hob, hB⟩ := R.fits b g _ hg hy
      obtain ⟨xs, rfl, hE⟩ := hB
      exact ⟨xs, g, hE, evP_den hT hk, hg, e1, hob⟩
    obtain ⟨es', v, s, n, h6, h7⟩ := entE_ok (P := P) (t := key) (K := fun es v s n => forceNat (cond n (Nat.succ cl) cl) fun c => hset h b (some (.map es c)) (fun h => K (.tup [v, .int .i64 (.ofNat s)]) h) (.no 110)) h5
    rw [forceNat_eq] at h6
    obtain ⟨h', h8, n1, d1, g1⟩ := hset_ok h6
    refine ⟨_, h', h8, does_value d1 fun ξ G a w R hT => ?_⟩
    obtain ⟨xs, g, hE, hkd, hG, e1, hob⟩ := base ξ G a w R hT
    have hget : (getObj g.addr).run P w = .ok (.map xs cl) w := by simp [getObj, Sem.run, hob]
    rcases h7 with ⟨rfl, rfl, rfl, h7⟩ | ⟨rfl, h7⟩
    · obtain ⟨q1, q2⟩ := h7 ξ G _ z d xs.toList 0 hd hkd (ofVal_den hz1) hE
      obtain ⟨p1, p2, p3⟩ := obj_put (P := P) (x' := .map es' (s + 1)) (o' := .map (xs.push { key := a.eval k, val := z, born := s }) (s + 1)) R n1 g1 hy hG trivial trivial hob (by simp) ⟨_, rfl, by simpa using q2⟩
      refine ⟨.tuple #[z, goInt s], _, G, .inl ?_, by simp only [Den]; exact ⟨_, rfl, .cons (ofVal_den hz1) (.one (by simp only [Den]; rfl))⟩, p2, p3⟩
      rw [hex]
      simp only [Instr.mapEntry, Sem.run_bind, underlying_run hmu, Result.andThen_ok, e1, hget, hchk ξ G _ _ w hkd, findKey_run hd q1, hz2 w, p1, Sem.run_pure]
    · obtain ⟨j, e, q1, q2, q3, q5, q6, q4⟩ := h7 ξ G _ d xs.toList 0 hd hkd hE
      obtain ⟨p1, p2, p3⟩ := obj_put (P := P) (x' := .map es' cl) (o' := .map (xs.modify j fun e => { e with key := a.eval k }) cl) R n1 g1 hy hG trivial trivial hob (by simp) ⟨_, rfl, by simpa using q4⟩
      refine ⟨.tuple #[e.val, goInt s], _, G, .inl ?_, by simp only [Den]; exact ⟨_, rfl, .cons q5 (.one (by simp only [Den]; rfl))⟩, p2, p3⟩
      rw [hex]
      have hj : xs[j]? = some e := by simpa using q2
      have hs : Instr.sameBits 10000 e.key (a.eval k) = true := by rw [← q3]; exact same_key (key_form h4 hkd)
      simp only [Nat.zero_add] at q1
      simp only [Instr.mapEntry, Sem.run_bind, underlying_run hmu, Result.andThen_ok, e1, hget, hchk ξ G _ _ w hkd, findKey_run hd q1, hj, Option.map_some, Option.getD_some, Instr.keyThatStays, hs, if_true, Sem.run_pure, p1, q6]
  | _ => cases h2
theorem opEntryStore_ok {o : Oper} {t : TypeId} {m s x : Operand} {T : Tm} {h : H} {K : V → H → R γ} {r : γ} (ho : o.op = .entryStore t m s x) (h0 : opEntryStore P m s x T h K = .ok r) : DoesK P o T h K r := by
  obtain ⟨vm, hm, h1⟩ := ev_ok h0
  obtain ⟨vs, hs, h2⟩ := ev_ok h1
  obtain ⟨vx, hx, h3⟩ := ev_ok h2
  obtain ⟨ks, ns, rfl, h4⟩ := natK_ok h3
  split at h4
  case h_2 => cases h4
  rename_i b
  obtain ⟨y, hy, h5⟩ := hget_ok h4
  split at h5
  case h_2 => cases h5
  rename_i es cl
  obtain ⟨es', h6, h7⟩ := putE_ok h5
  obtain ⟨h', h8, n1, d1, g1⟩ := hset_ok h6
  have hex : ∀ a : Act, execOp a.eval o = (do Instr.entryStore t (a.eval m) (a.eval s) (a.eval x); pure .skip) := by
    intro a; unfold execOp; rw [ho]
  refine ⟨_, h', h8, does_value d1 fun ξ G a w R hT => ?_⟩
  have e1 := evP_den hT hm
  simp only [Den] at e1
  obtain ⟨g, hG, e1⟩ := e1
  obtain ⟨ob, hob, hB⟩ := R.fits b g _ hG hy
  obtain ⟨xs, rfl, hE⟩ := hB
  have e2 := evP_den hT hs
  simp only [Den] at e2
  obtain ⟨j, q1, q2⟩ := h7 ξ G _ xs.toList (evP_den hT hx) hE
  have hget : (getObj g.addr).run P w = .ok (.map xs cl) w := by simp [getObj, Sem.run, hob]
  obtain ⟨p1, p2, p3⟩ := obj_put (P := P) (x' := .map es' cl) (o' := .map (xs.modify j fun e => { e with val := a.eval x }) cl) R n1 g1 hy hG trivial trivial hob (by simp) ⟨_, rfl, by simpa using q2⟩
  refine ⟨undef, _, G, .inr ⟨?_, rfl⟩, den_undef, p2, p3⟩
  have q1' : xs.findIdx? (fun e => (e.born : Int) == Int.ofNat ns) = some j := by
    have e : xs = xs.toList.toArray := by simp
    rw [e, List.findIdx?_toArray]
    exact q1
  rw [hex]
  simp only [Instr.entryStore, e1, e2, Sem.run_bind, hget, Result.andThen_ok, asInt, asIntOf, Sem.run_pure, q1', p1]
theorem opRange_ok {o : Oper} {t : TypeId} {x : Operand} {T : Tm} {h : H} {K : V → H → R γ} {r : γ} (ho : o.op = .range t x) (h0 : opRange P t x T h K = .ok r) : DoesK P o T h K r := by
  obtain ⟨vx, hx, h1⟩ := ev_ok h0
  have ht := tyK_of P t
  generalize tyK P t = tk at h1 ht
  split at h1
  case h_2 => cases h1
  rename_i n c
  cases ht with
  | str hu =>
  obtain ⟨h', h2, n1, d1, g1⟩ := hnew_ok h1
  have hL : Lays P o T (.siter n c 0) (fun b => .ptr b 0) := by
    intro ξ G a w hT
    have e1 := evP_den hT hx
    simp only [Den] at e1
    obtain ⟨hlt, e1⟩ := e1
    refine ⟨.pointer (some ⟨w.heap.size, 0, none⟩), .stringIter ⟨(digs n c).toArray⟩ 0, ⟨w.heap.size, 0, 0⟩, w.drawn, ?_, rfl, ⟨rfl, hlt, rfl⟩, fun G' b _ hb => den_ptr0 hb⟩
    unfold execOp; rw [ho]
    simp only [e1, Sem.run_bind, run_range_string w t _ hu, Result.andThen_ok, Sem.run_pure]
    rfl
  exact ⟨_, h', h2, does_lays hL n1 d1 g1⟩
theorem opNext_ok {o : Oper} {x : Operand} {s : Bool} {T : Tm} {h : H} {K : V → H → R γ} {r : γ} (ho : o.op = .next x s) (h0 : opNext P x s T h K = .ok r) : DoesK P o T h K r := by
  obtain ⟨hs, h0⟩ := cond_ok h0
  subst hs
  obtain ⟨vx, hx, h1⟩ := ev_ok h0
  split at h1
  case h_2 => cases h1
  rename_i b
  obtain ⟨y, hy, h2⟩ := hget_ok h1
  split at h2
  case h_2 => cases h2
  rename_i n c p
  have hex : ∀ a : Act, execOp a.eval o = (do pure (.value (← Instr.next (a.eval x) true o.type))) := by
    intro a; unfold execOp; rw [ho]
  have base : ∀ (ξ : Nat → Value) (G : Gh) (a : Act) (w : World), Rep P ξ G h w → TDen P ξ G T a → ∃ (g : GB), G[b]? = some (some g) ∧ g.off = 0 ∧ c < 256 ^ n ∧ a.eval x = .pointer (some ⟨g.addr, 0, none⟩) ∧ w.heap[g.addr]? = some (.stringIter ⟨(digs n c).toArray⟩ p) := by
    intro ξ G a w R hT
    have e1 := evP_den hT hx
    simp only [Den] at e1
    obtain ⟨g, hg, e1⟩ := e1
    obtain ⟨ob, hob, hB⟩ := R.fits b g _ hg hy
    obtain ⟨q1, q2, rfl⟩ := hB
    exact ⟨g, hg, q1, q2, by rw [e1, q1], hob⟩
  have hsz : (⟨(digs n c).toArray⟩ : ByteArray).size = n := by simp [ByteArray.size, digs_length]
  cases hnp : Nat.ble n p with
  | true =>
    rw [hnp] at h2
    have hle : n ≤ p := Nat.le_of_ble_eq_true hnp
    refine ⟨_, h, h2, does_value rfl fun ξ G a w R hT => ?_⟩
    obtain ⟨g, hG, q1, q2, e1, hob⟩ := base ξ G a w R hT
    have hget : (getObj g.addr).run P w = .ok (.stringIter ⟨(digs n c).toArray⟩ p) w := by simp [getObj, Sem.run, hob]
    refine ⟨.tuple #[.bool false], w, G, .inl ?_, by simp only [Den]; exact ⟨_, rfl, .one (by simp only [Den])⟩, R, Step.refl _ _ _⟩
    rw [hex]
    simp only [Instr.next, e1, Sem.run_bind, hget, Result.andThen_ok, hsz, if_neg (show ¬ p < n by omega), Sem.run_pure]
  | false =>
    rw [hnp, cond_false, forceNat_eq] at h2
    have hlt : p < n := by
      have : ¬ (n ≤ p) := fun h => by rw [Nat.ble_eq_true_of_le h] at hnp; cases hnp
      omega
    obtain ⟨ha, h3⟩ := cond_ok h2
    rw [forceNat_eq] at h3
    obtain ⟨h', h4, n1, d1, g1⟩ := hset_ok h3
    refine ⟨_, h', h4, does_value d1 fun ξ G a w R hT => ?_⟩
    obtain ⟨g, hG, q1, q2, e1, hob⟩ := base ξ G a w R hT
    have hget : (getObj g.addr).run P w = .ok (.stringIter ⟨(digs n c).toArray⟩ p) w := by simp [getObj, Sem.run, hob]
    obtain ⟨p1, p2, p3⟩ := obj_put (P := P) (x' := .siter n c (p + 1)) (o' := .stringIter ⟨(digs n c).toArray⟩ (p + 1)) R n1 g1 hy hG trivial trivial hob (by simp) ⟨q1, q2, rfl⟩
    have hb : ∀ h, (⟨(digs n c).toArray⟩ : ByteArray)[p]'h = UInt8.ofNat (lowB n c p) := by
      intro h
      have h5 := digs_get n c p hlt
      have h6 : (⟨(digs n c).toArray⟩ : ByteArray)[p]'h = (digs n c)[p]'(by rw [digs_length]; exact hlt) := rfl
      rw [h6]
      have h7 := List.getElem?_eq_getElem (l := digs n c) (i := p) (by rw [digs_length]; exact hlt)
      rw [h5] at h7
      simp at h7
      rw [← h7]
      simp only [lowB]
      rfl
    have hr : lowB n c p ≤ 127 := Nat.le_of_ble_eq_true ha
    have hn : (UInt8.ofNat (lowB n c p)).toNat = lowB n c p := by
      simp only [UInt8.toNat_ofNat']
      omega
    have hdec : Utf8.decode ⟨(digs n c).toArray⟩ p = (lowB n c p, 1) := by
      rw [decode_ascii _ _ (by rw [hsz]; exact hlt) (by rw [hb, hn]; omega), hb, hn]
    refine ⟨.tuple #[.bool true, goInt p, .int .i32 (lowB n c p)], _, G, .inl ?_, by simp only [Den]; exact ⟨_, rfl, .cons (by simp only [Den]) (.cons (by simp only [Den]; rfl) (.one (by simp only [Den]; rfl)))⟩, p2, p3⟩
    rw [hex]
    simp only [Instr.next, e1, Sem.run_bind, hget, Result.andThen_ok, hsz, if_pos hlt, hdec, p1, Sem.run_pure]
end
end Go.Ev
namespace Go.Ev
open Go
section
variable {P : Program} {γ : Type}
theorem ev_of {β : Type} {T : Tm} {x : Operand} {v : V} {e : β} {K : V → β} (h : evP P T x = some v) : ev P T e x K = K v := by
  cases x with
  | tmp t =>
    show tget T t K e = _
    rw [tget_eq, show tgetP T t = some v from h]
  | const c =>
    show (Option.rec e K (ofVal c) : β) = _
    rw [show ofVal c = some v from h]
  | global g =>
    have h' : (if g < P.globals.size then some (V.ptr g 0) else none) = some v := h
    show cond (Nat.ble (Nat.succ g) P.globals.size) (K (.ptr g 0)) e = _
    split at h'
    · rename_i hg
      simp at h'
      subst h'
      rw [Nat.ble_eq_true_of_le hg]
      rfl
    · cases h'
  | func f =>
    have h' : some (V.fn (.func f) [] []) = some v := h
    simp at h'
    subst h'
    rfl
theorem opConvert_ok {callF : CallF} {o : Oper} {s d : TypeId} {x : Operand} {T : Tm} {h : H} {K : V → H → R γ} {r : γ} (ho : o.op = .convert s d x) (h0 : opConvert P s d x T h K = .ok r) : DoesK P o T h K r := by
  have hev : evOp P callF o.op T h K = .ok r := by rw [ho]; exact h0
  have hcls : cls P o.op = clsV (tyK P d) (tyK P s) := by rw [ho]; rfl
  by_cases c0 : clsV (tyK P d) (tyK P s) = 0
  · obtain ⟨v, h1, h2⟩ := pure_ok (hcls.trans c0) hev
    exact ⟨v, h, h1, does_pure h2⟩
  by_cases c1 : clsV (tyK P d) (tyK P s) = 1
  · obtain ⟨v, h1, h2⟩ := reads_ok (hcls.trans c1) hev
    exact ⟨v, h, h1, does_reads h2⟩
  obtain ⟨v, hv, h1⟩ := ev_ok h0
  have hs := tyK_of P s
  have hd := tyK_of P d
  generalize hks : tyK P s = ks at h1 hs c0 c1
  generalize hkd : tyK P d = kd at h1 hd c0 c1
  cases hd with
  | int k hu => exact absurd rfl c0
  | str hu => cases hs <;> first | exact absurd rfl c0 | exact absurd rfl c1
  | slc e i hu hi =>
    cases hs with
    | str hus =>
      replace h1 : (match v with | .str n c => convS P e n c (fun x mk => hnew h (some x) (fun b h => K (mk b) h) (.no 17)) | _ => (.no 20 : R γ)) = .ok r := by cases v <;> exact h1
      split at h1
      · rename_i n c
        have hA : aConvert P s d x T (fun x mk => hnew h (some x) (fun b h => K (mk b) h) (.no 17)) = .ok r := by
          unfold aConvert
          rw [ev_of hv]
          simp only [hks, hkd]
          exact h1
        obtain ⟨blk, mk, h2, h3⟩ := aConvert_ok ho hA
        obtain ⟨h', h4, n1, d1, g1⟩ := hnew_ok h2
        exact ⟨_, h', h4, does_lays h3 n1 d1 g1⟩
      · cases h1
    | _ => cases h1
  | uns hu =>
    replace h1 : cvUns ks v h K = .ok r := h1
    unfold cvUns at h1
    split at h1
    case h_2 => cases h1
    rename_i b off
    cases hs with
    | ptr e i hus hi =>
      obtain ⟨hz, h2⟩ := cond_no h1
      obtain ⟨y, hy, h3⟩ := hget_ok h2
      split at h3
      case h_2 => cases h3
      rename_i cs el fz
      obtain ⟨hl, h4⟩ := ldrop_ok h3
      have hoff : off < cs.length ∧ K (.ptr b off) h = .ok r := by
        cases hc : cs.drop off with
        | nil => rw [hc] at h4; cases h4
        | cons u l =>
          rw [hc] at h4
          refine ⟨?_, h4⟩
          have : (cs.drop off).length = l.length + 1 := by rw [hc]; rfl
          rw [List.length_drop] at this
          omega
      refine ⟨_, h, hoff.2, does_value rfl fun ξ G a w R hT => ?_⟩
      have e1 := evP_den hT hv
      have e0 := e1
      simp only [Den] at e1
      obtain ⟨g, hG, e1⟩ := e1
      obtain ⟨ob, hob, hB⟩ := R.fits b g _ hG hy
      obtain ⟨arr, lo, hi', rfl, _, hsz, hR⟩ := hB
      refine ⟨a.eval x, w, G, .inl ?_, e0, R, Step.refl _ _ _⟩
      rw [conv_run ho, e1, Lib.run_to_unsafe w _ hus hu hi (Nat.ne_of_beq_eq_false hz) (e := el) (cells := arr.size) (by simp [World.shape?, hob]) (by show g.off + off < arr.size; omega)]
      rfl
    | _ => cases h1
  | ptr u i hu hi =>
    replace h1 : cvPtr P ks u v h K = .ok r := h1
    unfold cvPtr at h1
    split at h1
    case h_2 => cases h1
    rename_i b off
    cases hs with
    | uns hus =>
      obtain ⟨y, hy, h3⟩ := hget_ok h1
      split at h3
      case h_2 => cases h3
      rename_i cs el fz
      rw [llen_eq] at h3
      obtain ⟨hl, h4⟩ := cond_ok h3
      refine ⟨_, h, h4, does_value rfl fun ξ G a w R hT => ?_⟩
      have e1 := evP_den hT hv
      have e0 := e1
      simp only [Den] at e1
      obtain ⟨g, hG, e1⟩ := e1
      obtain ⟨ob, hob, hB⟩ := R.fits b g _ hG hy
      obtain ⟨arr, lo, hi', rfl, _, hsz, hR1, hR2, _⟩ := hB
      refine ⟨a.eval x, w, G, .inl ?_, e0, R, Step.refl _ _ _⟩
      rw [conv_run ho, e1, Lib.run_from_unsafe w _ hus hu hi (e := el) (cells := arr.size) (by simp [World.shape?, hob]) (by rw [hR2, hR1, Nat.zero_add]; exact hl)]
      rfl
    | _ => cases h1
  | _ => cases h1
end
end Go.Ev
