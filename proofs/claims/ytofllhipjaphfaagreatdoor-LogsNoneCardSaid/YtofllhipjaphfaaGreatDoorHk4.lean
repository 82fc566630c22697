/- Hooks of the interpreter: sums.More; errors.Is, errno and frames.none at what they meet. No program in sight. -/
import Derived.Test.YtofllhipjaphfaaGreatDoorHk1
import Derived.Test.YtofllhipjaphfaaGreatDoorSum1
namespace Go.Ev
open Go Go.RowKit
open Go.Proofs.YtofllhipjaphfaaGreatDoor (sumA sumB sumN)
section
variable {P : Program}
/-! sums.More -/
noncomputable def sumK {β : Type} (c n : Nat) (K : Nat → Nat → β) : Nat → Nat → β :=
  Nat.rec (motive := fun _ => Nat → Nat → β) K (fun m ih a b => forceNat (Nat.mod (Nat.div c (Nat.pow 256 m)) 256) fun x => forceNat (Nat.add a x) fun a => forceNat (Nat.add b (Nat.mul (Nat.succ m) x)) fun b => ih a b) n
theorem sumK_eq {β : Type} (c : Nat) (K : Nat → Nat → β) : ∀ (n a b : Nat), sumK c n K a b = K (a + sumA (digs n c)) (b + sumB (digs n c))
  | 0, a, b => rfl
  | n + 1, a, b => by
    have u : sumK c (n + 1) K a b = forceNat (Nat.mod (Nat.div c (Nat.pow 256 n)) 256) fun x => forceNat (Nat.add a x) fun a => forceNat (Nat.add b (Nat.mul (Nat.succ n) x)) fun b => sumK c n K a b := rfl
    rw [u, forceNat_eq, forceNat_eq, forceNat_eq, sumK_eq c K n]
    have e : (UInt8.ofNat (c / 256 ^ n % 256)).toNat = c / 256 ^ n % 256 := ofNat_toNat (Nat.mod_lt _ (by decide))
    simp only [digs, sumA, sumB, digs_length, e]
    rw [← Nat.add_assoc, ← Nat.add_assoc]
    rfl
noncomputable def hMore : Hook := fun l h => match l with
  | [.int .u32 (.ofNat 0), .str n c] => cond (Nat.ble n 140737488355328) (sumK c n (fun a b => forceNat (Nat.add (Nat.mul 65536 (Nat.mod b 65535)) (Nat.mod a 65535)) fun r => R.ok (V.int .u32 (.ofNat r), h)) 0 0) (.no 310)
  | _ => .no 310
theorem more_ok (hN : NoCount P) {f : Nat} {fn : Func} {c : Code} (hf : P.funcs[f]? = some fn) (hb : fn.body = some c)
    (hc : ∀ (l : List UInt8) (w : World), l.length ≤ 140737488355328 → Calls P f #[.int .u32 0, .string ⟨l.toArray⟩] w fun e w' => e = .returned (.int .u32 ((sumN l : Nat) : Int)) ∧ Below w.heap.size w w') : CallOk1 P f hMore := by
  intro l h v h' h0
  unfold hMore at h0
  split at h0
  case h_2 => cases h0
  rename_i n cc
  obtain ⟨hn, h1⟩ := cond_ok (c := 310) h0
  rw [sumK_eq, forceNat_eq, Nat.zero_add, Nat.zero_add] at h1
  cases h1
  refine ⟨rfl, fun ξ G args w rp hG hd => ?_⟩
  simp only [DenL, Den] at hd
  obtain ⟨x, xs, e1, e0, y, ys, e2, ⟨_, e3⟩, e4⟩ := hd
  have ea : args = #[.int .u32 0, .string ⟨(digs n cc).toArray⟩] := by
    apply Array.toList_inj.1
    rw [e1, e0, e2, e3, e4]
    rfl
  subst ea
  exact callW_of_below hN hf hb rp (by simp only [Den]; rfl) (hc (digs n cc) w (by rw [digs_length]; exact Nat.le_of_ble_eq_true hn))
/-! of no error -/
noncomputable def hNil (v : V) : Hook := fun l h => match l with
  | [.inil] => .ok (v, h)
  | _ => .no 311
theorem nil_ok (hN : NoCount P) {f : Nat} {fn : Func} {c : Code} (hf : P.funcs[f]? = some fn) (hb : fn.body = some c) {v : V} {x : Value} (hv : ∀ ξ G, Den ξ G v x)
    (hc : ∀ (w : World), Calls P f #[.nilIface] w fun e w' => e = .returned x ∧ Below w.heap.size w w') : CallOk1 P f (hNil v) := by
  intro l h u h' h0
  unfold hNil at h0
  split at h0
  case h_2 => cases h0
  cases h0
  refine ⟨rfl, fun ξ G args w rp hG hd => ?_⟩
  simp only [DenL, Den] at hd
  obtain ⟨x, xs, e1, e0, e2⟩ := hd
  have ea : args = #[.nilIface] := by
    apply Array.toList_inj.1
    rw [e1, e0, e2]
  subst ea
  exact callW_of_below hN hf hb rp (hv ξ G) (hc w)
/-! frames.none: of no error; of a *missing (tM), where the variable gE of package errors stands -/
noncomputable def hNone (tM gE rt ng te : Nat) : Hook := fun l h => match l with
  | [.inil] => .ok (.bool false, h)
  | [.iface t (.ptr _ _)] => cond (Nat.beq t tM) (hget h gE (fun x => match x with
    | .known (.cells ⟨[.iface a (.agg ⟨[.pointer (some ⟨b, c, none⟩)]⟩)]⟩ _ _) => cond (Nat.beq a rt) (cond (Nat.beq b ng) (cond (Nat.beq c te) (.ok (.bool true, h)) (.no 312)) (.no 312)) (.no 312)
    | _ => .no 312) (.no 312)) (.no 312)
  | _ => .no 312
theorem none_ok (hN : NoCount P) {f tM gE rt ng te : Nat} {fn : Func} {c : Code} (hf : P.funcs[f]? = some fn) (hb : fn.body = some c) (hg : gE < P.globals.size)
    (hc0 : ∀ (w : World), Calls P f #[.nilIface] w fun e w' => e = .returned (.bool false) ∧ Below w.heap.size w w')
    (hc1 : ∀ (a : Addr) (w : World), w.cell? ⟨gE, 0, none⟩ = some (.iface rt (.agg #[.pointer (some ⟨ng, te, none⟩)])) → Calls P f #[.iface tM (.pointer (some a))] w fun e w' => e = .returned (.bool true) ∧ Below w.heap.size w w') : CallOk1 P f (hNone tM gE rt ng te) := by
  intro l h u h' h0
  unfold hNone at h0
  split at h0
  case h_3 => cases h0
  · cases h0
    refine ⟨rfl, fun ξ G args w rp hG hd => ?_⟩
    simp only [DenL, Den] at hd
    obtain ⟨x, xs, e1, e0, e2⟩ := hd
    have ea : args = #[.nilIface] := by
      apply Array.toList_inj.1
      rw [e1, e0, e2]
    subst ea
    exact callW_of_below hN hf hb rp (by simp [Den]) (hc0 w)
  · rename_i t b0 o0
    obtain ⟨q1, h1⟩ := cond_ok (c := 312) h0
    cases Nat.eq_of_beq_eq_true q1
    obtain ⟨x, hx, h2⟩ := hget_ok (e := 312) h1
    split at h2
    case h_2 => cases h2
    obtain ⟨q2, h3⟩ := cond_ok (c := 312) h2
    obtain ⟨q3, h4⟩ := cond_ok (c := 312) h3
    obtain ⟨q4, h5⟩ := cond_ok (c := 312) h4
    cases Nat.eq_of_beq_eq_true q2
    cases Nat.eq_of_beq_eq_true q3
    cases Nat.eq_of_beq_eq_true q4
    cases h5
    refine ⟨rfl, fun ξ G args w rp hG hd => ?_⟩
    simp only [DenL, Den] at hd
    obtain ⟨x, xs, e1, ⟨y, e2, g, _, e3⟩, e4⟩ := hd
    have ea : args = #[.iface tM (.pointer (some ⟨g.addr, g.off + o0, none⟩))] := by
      apply Array.toList_inj.1
      rw [e1, e2, e3, e4]
    subst ea
    obtain ⟨g', ob, k1, k2, k3⟩ := rp.blk gE _ hx
    obtain ⟨c0, hc0'⟩ := hG gE hg
    rw [hc0'] at k1
    simp at k1
    subst k1
    obtain ⟨_, k4⟩ := k3
    subst k4
    refine callW_of_below hN hf hb rp (by simp [Den]) (hc1 _ w ?_)
    rw [Lib.cell_of_heap k2]
    rfl
/-! errors.Is: of no error, at a sentinel; of a number's error that wraps the sentinel itself; of a file system's error (an act, a number) at a number -/
noncomputable def hIs (tS tN tA tE : Nat) : Hook := fun l h => match l with
  | [.inil, .iface t (.ptr _ _)] => cond (Nat.beq t tS) (.ok (.bool false, h)) (.no 313)
  | [.iface u (.ptr b o), .iface t (.ptr c p)] => cond (Nat.beq u tN) (cond (Nat.beq t tS) (hget h b (fun x => match x with
    | .cells cs _ _ _ => lget (Nat.add o 2) cs (fun v => match v with
      | .iface t' (.ptr c' p') => cond (Nat.beq t' tS) (cond (Nat.beq c c') (cond (Nat.beq p p') (.ok (.bool true, h)) (.no 314)) (.no 314)) (.no 314)
      | _ => .no 314) (.no 314)
    | _ => .no 314) (.no 314)) (.no 314)) (.no 314)
  | [.iface u (.agg [_, .int .i64 a]), .iface t (.int .i64 b)] => cond (Nat.beq u tA) (cond (Nat.beq t tE) (cond (eqI a b) (.ok (.bool true, h)) (.ok (.bool false, h))) (.no 315)) (.no 315)
  | _ => .no 316
theorem is_ok (hN : NoCount P) {f tS tN tA tE : Nat} {fn : Func} {c : Code} (hf : P.funcs[f]? = some fn) (hb : fn.body = some c)
    (hc0 : ∀ (a : Addr) (w : World), Calls P f #[.nilIface, .iface tS (.pointer (some a))] w fun e w' => e = .returned (.bool false) ∧ w' = w)
    (hc1 : ∀ (pb po : Nat) (a : Addr) (w : World), w.cell? ⟨pb, po + 2, none⟩ = some (.iface tS (.pointer (some a))) → Calls P f #[.iface tN (.pointer (some ⟨pb, po, none⟩)), .iface tS (.pointer (some a))] w fun e w' => e = .returned (.bool true) ∧ w' = w)
    (hc2 : ∀ (s : Value) (a b : Int) (w : World), Calls P f #[.iface tA (.agg #[s, .int .i64 a]), .iface tE (.int .i64 b)] w fun e w' => e = .returned (.bool (decide (a = b))) ∧ Below w.heap.size w w') : CallOk1 P f (hIs tS tN tA tE) := by
  have same : ∀ {x : Value} {args : Array Value} {w : World}, Calls P f args w (fun e w' => e = .returned x ∧ w' = w) → Calls P f args w fun e w' => e = .returned x ∧ Below w.heap.size w w' := fun h => h.mono fun _ _ ⟨h1, h2⟩ => ⟨h1, h2 ▸ Below.refl _ _⟩
  intro l h u h' h0
  unfold hIs at h0
  split at h0
  case h_4 => cases h0
  · obtain ⟨q1, h1⟩ := cond_ok (c := 313) h0
    cases Nat.eq_of_beq_eq_true q1
    cases h1
    refine ⟨rfl, fun ξ G args w rp hG hd => ?_⟩
    simp only [DenL, Den] at hd
    obtain ⟨x, xs, e1, e0, y, ys, e2, ⟨z, e3, g, _, e4⟩, e5⟩ := hd
    have ea := Array.toList_inj.1 (show args.toList = (#[.nilIface, .iface tS (.pointer (some ⟨g.addr, g.off + _, none⟩))] : Array Value).toList by rw [e1, e0, e2, e3, e4, e5])
    subst ea
    exact callW_of_below hN hf hb rp (by simp [Den]) (same (hc0 _ w))
  · obtain ⟨q1, h1⟩ := cond_ok (c := 314) h0
    obtain ⟨q2, h2⟩ := cond_ok (c := 314) h1
    cases Nat.eq_of_beq_eq_true q1
    cases Nat.eq_of_beq_eq_true q2
    obtain ⟨x, hx, h3⟩ := hget_ok (e := 314) h2
    split at h3
    case h_2 => cases h3
    obtain ⟨v, hv, h4⟩ := lget_ok (c := 314) h3
    split at h4
    case h_2 => cases h4
    obtain ⟨q3, h5⟩ := cond_ok (c := 314) h4
    obtain ⟨q4, h6⟩ := cond_ok (c := 314) h5
    obtain ⟨q5, h7⟩ := cond_ok (c := 314) h6
    cases Nat.eq_of_beq_eq_true q3
    cases Nat.eq_of_beq_eq_true q4
    cases Nat.eq_of_beq_eq_true q5
    cases h7
    refine ⟨rfl, fun ξ G args w rp hG hd => ?_⟩
    simp only [DenL, Den] at hd
    obtain ⟨x, xs, e1, ⟨y, e2, g, hgb, e3⟩, z, zs, e4, ⟨t, e5, g', hgc, e6⟩, e7⟩ := hd
    have ea := Array.toList_inj.1 (show args.toList = (#[.iface tN (.pointer (some ⟨g.addr, g.off + _, none⟩)), .iface tS (.pointer (some ⟨g'.addr, g'.off + _, none⟩))] : Array Value).toList by rw [e1, e2, e3, e4, e5, e6, e7])
    subst ea
    refine callW_of_below hN hf hb rp (by simp [Den]) (same (hc1 _ _ _ w ?_))
    obtain ⟨g1, ob, k1, k2, k3⟩ := rp.blk _ _ hx
    rw [hgb] at k1
    cases k1
    obtain ⟨arr, lo, hi, rfl, k4, _⟩ := k3
    obtain ⟨y', k5, k6⟩ := k4 _ _ hv
    simp only [Den] at k6
    obtain ⟨y2, e8, g2, k7, e9⟩ := k6
    rw [hgc] at k7
    cases k7
    rw [Lib.cell_of_heap k2, Nat.add_assoc]
    subst e8 e9
    exact k5
  · obtain ⟨q1, h1⟩ := cond_ok (c := 315) h0
    obtain ⟨q2, h2⟩ := cond_ok (c := 315) h1
    cases Nat.eq_of_beq_eq_true q1
    cases Nat.eq_of_beq_eq_true q2
    rename_i s a b
    have hds : u = .bool (decide (a = b)) ∧ h' = h := by
      rw [← eqI_eq]
      cases hq : eqI a b <;> rw [hq] at h2 <;> cases h2 <;> exact ⟨rfl, rfl⟩
    obtain ⟨rfl, rfl⟩ := hds
    refine ⟨rfl, fun ξ G args w rp hG hd => ?_⟩
    simp only [DenL, Den] at hd
    obtain ⟨x, xs, e1, ⟨y, e2, ar, e3, x1, l1, e4, _, x2, l2, e5, e6, e7⟩, z, zs, e8, ⟨t, e9, e10⟩, e11⟩ := hd
    have er : ar = #[x1, .int .i64 a] := by
      apply Array.toList_inj.1
      rw [e4, e5, e6, e7]
    have ea : args = #[.iface tA (.agg #[x1, .int .i64 a]), .iface tE (.int .i64 b)] := by
      apply Array.toList_inj.1
      rw [e1, e2, e3, er, e8, e9, e10, e11]
    subst ea
    exact callW_of_below hN hf hb rp (by simp [Den]) (hc2 _ _ _ w)
end
end Go.Ev
