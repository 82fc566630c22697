/- An interpreter of the model's code, run by the kernel at closed calls: regions whose order is drawn; closed calls. No program in sight. -/
import Derived.Test.YtnblgomjmmnkaaaGreatDoorEvV
import Derived.Orders
import Derived.Laws.Externs
import Derived.Lib.Bytealg
import Derived.Below
set_option linter.unusedVariables false
set_option linter.unusedSimpArgs false
namespace Go.Ev
open Go
section
variable {P : Program} {β γ : Type}
/-- an operand is the same at both -/
def SameAt (T T' : Tm) (x : Operand) : Prop := ∀ t, x = .tmp t → tgetP T t = tgetP T' t
theorem ev_same {T T' : Tm} {e : β} {x : Operand} {K K' : V → β} (h : SameAt T T' x) (hk : ∀ v, K v = K' v) : ev P T e x K = ev P T' e x K' := by
  have : K = K' := funext hk
  subst this
  cases x with
  | tmp t =>
    show tget T t K e = tget T' t K e
    rw [tget_eq, tget_eq, h t rfl]
  | _ => rfl
theorem evs_same {T T' : Tm} {e : β} : ∀ {xs : List Operand} {K K' : List V → β}, (∀ x ∈ xs, SameAt T T' x) → (∀ l, K l = K' l) → evs P T e xs K = evs P T' e xs K'
  | [], K, K', _, hk => hk []
  | x :: xs, K, K', h, hk => by
    show ev P T e x (fun v => evs P T e xs fun l => K (v :: l)) = ev P T' e x (fun v => evs P T' e xs fun l => K' (v :: l))
    exact ev_same (h x (by simp)) fun v => evs_same (fun y hy => h y (by simp [hy])) fun l => hk _
theorem optN_same {T T' : Tm} {e : β} {x : Option Operand} {d : Nat} {K K' : Nat → β} (h : ∀ y, x = some y → SameAt T T' y) (hk : ∀ v, K v = K' v) : optN P T e x d K = optN P T' e x d K' := by
  have : K = K' := funext hk
  subst this
  cases x with
  | none => rfl
  | some y =>
    show ev P T e y (fun v => natK e v K) = ev P T' e y (fun v => natK e v K)
    exact ev_same (h y rfl) fun v => rfl
theorem partsK_same {T T' : Tm} {e : β} {place : Nat → (Nat → Nat → β) → β} (hp : ∀ i (K K' : Nat → Nat → β), (∀ a b, K a b = K' a b) → place i K = place i K') : ∀ {ps : List (Nat × Operand)} {cs : List V} {K : List V → β}, (∀ p ∈ ps, SameAt T T' p.2) → partsK P T e place ps cs K = partsK P T' e place ps cs K
  | [], cs, K, _ => rfl
  | p :: ps, cs, K, h => by
    show place p.1 (fun off s => ev P T e p.2 fun v => v.cellsK fun xs => llen xs fun n => cond (Nat.beq n s) (lsplice e off xs cs fun cs => partsK P T e place ps cs K) e) =
      place p.1 (fun off s => ev P T' e p.2 fun v => v.cellsK fun xs => llen xs fun n => cond (Nat.beq n s) (lsplice e off xs cs fun cs => partsK P T' e place ps cs K) e)
    refine hp _ _ _ fun off s => ?_
    have ih : ∀ cs, partsK P T e place ps cs K = partsK P T' e place ps cs K := fun cs => partsK_same hp fun q hq => h q (by simp [hq])
    refine ev_same (h p (by simp)) fun v => ?_
    have : (fun cs => partsK P T e place ps cs K) = (fun cs => partsK P T' e place ps cs K) := funext ih
    rw [this]
theorem boundsK_same {T T' : Tm} {lo hi mx : Option Operand} {len cap : Nat} {K : Nat → Nat → Option Nat → R γ} (h1 : ∀ y, lo = some y → SameAt T T' y) (h2 : ∀ y, hi = some y → SameAt T T' y) (h3 : ∀ y, mx = some y → SameAt T T' y) :
    boundsK P T lo hi mx len cap K = boundsK P T' lo hi mx len cap K := by
  unfold boundsK
  refine optN_same h2 fun n => optN_same h1 fun l => ?_
  cases mx with
  | none => rfl
  | some y => exact ev_same (h3 y rfl) fun v => rfl
theorem mem_ops {op : Op} {T T' : Tm} (h : ∀ x ∈ op.operands.toList, SameAt T T' x) {x : Operand} (hx : x ∈ op.operands.toList) : SameAt T T' x := h x hx
/-- an operation looks at its operands alone -/
theorem evOp_same {F : CallF} {op : Op} {T T' : Tm} {h : H} {K : V → H → R γ} (hs : ∀ x ∈ op.operands.toList, SameAt T T' x) : evOp P F op T h K = evOp P F op T' h K := by
  cases op with
  | move x => exact ev_same (hs x (by simp [Op.operands])) fun v => rfl
  | assign x => exact ev_same (hs x (by simp [Op.operands])) fun v => rfl
  | pick c a b =>
    refine ev_same (hs c (by simp [Op.operands])) fun v => ?_
    cases v with
    | bool t =>
      cases t with
      | true => exact ev_same (hs a (by simp [Op.operands])) fun v => rfl
      | false => exact ev_same (hs b (by simp [Op.operands])) fun v => rfl
    | _ => rfl
  | alloc t => rfl
  | box t x => exact ev_same (hs x (by simp [Op.operands])) fun v => rfl
  | build t ps =>
    have hps : ∀ p ∈ ps.toList, SameAt T T' p.2 := fun p hp => hs p.2 (by simp only [Op.operands, List.mem_map]; exact ⟨p, hp, rfl⟩)
    show opBuild P t ps T h K = opBuild P t ps T' h K
    unfold opBuild
    congr 1
    funext z
    congr 1
    funext z
    split
    · exact partsK_same (fun i K K' hk => by congr 1; funext f; exact hk _ _) hps
    · rename_i s' _
      exact partsK_same (place := fun i K => K (Nat.mul i s') s') (fun i K K' hk => hk _ _) hps
    · rfl
  | buildSlice t n ps =>
    have hps : ∀ p ∈ ps.toList, SameAt T T' p.2 := fun p hp => hs p.2 (by simp only [Op.operands, List.mem_map]; exact ⟨p, hp, rfl⟩)
    show opA (aBuildSlice P t n ps) T h K = opA (aBuildSlice P t n ps) T' h K
    unfold opA aBuildSlice
    split
    · rename_i s' _
      congr 1
      funext z
      congr 1
      funext z
      congr 1
      funext m
      congr 1
      congr 1
      exact partsK_same (place := fun i K => K (Nat.mul i s') s') (fun i K K' hk => hk _ _) hps
    · rfl
  | load t a => exact ev_same (hs a (by simp [Op.operands])) fun v => rfl
  | store t a x => exact ev_same (hs a (by simp [Op.operands])) fun v => ev_same (hs x (by simp [Op.operands])) fun w => rfl
  | nilCheck x => exact ev_same (hs x (by simp [Op.operands])) fun v => rfl
  | binOp op t x y yt => exact ev_same (hs x (by simp [Op.operands])) fun v => ev_same (hs y (by simp [Op.operands])) fun w => rfl
  | unOp op t x => exact ev_same (hs x (by simp [Op.operands])) fun v => rfl
  | convert s d x => exact ev_same (hs x (by simp [Op.operands])) fun v => rfl
  | makeInterface t x => exact ev_same (hs x (by simp [Op.operands])) fun v => rfl
  | makeFunc f a b => exact evs_same (fun x hx => hs x (by simp [Op.operands] at hx ⊢; exact .inl hx)) fun l => evs_same (fun x hx => hs x (by simp [Op.operands] at hx ⊢; exact .inr hx)) fun m => rfl
  | makeMap t r => rfl
  | makeSlice t l c => exact ev_same (hs l (by simp [Op.operands])) fun v => ev_same (hs c (by simp [Op.operands])) fun w => rfl
  | slice t x lo hi mx =>
    have b1 : ∀ y, lo = some y → SameAt T T' y := fun y hy => hs y (by subst hy; simp [Op.operands])
    have b2 : ∀ y, hi = some y → SameAt T T' y := fun y hy => hs y (by subst hy; simp [Op.operands])
    have b3 : ∀ y, mx = some y → SameAt T T' y := fun y hy => hs y (by subst hy; simp [Op.operands])
    refine ev_same (hs x (by simp [Op.operands])) fun v => ?_
    cases v <;> first | rfl | (dsimp only; split <;> first | rfl | exact boundsK_same b1 b2 b3)
  | fieldAddr t x f => exact ev_same (hs x (by simp [Op.operands])) fun v => rfl
  | field t x f => exact ev_same (hs x (by simp [Op.operands])) fun v => rfl
  | indexAddr t x i => exact ev_same (hs x (by simp [Op.operands])) fun v => ev_same (hs i (by simp [Op.operands])) fun w => rfl
  | index t x i => exact ev_same (hs x (by simp [Op.operands])) fun v => ev_same (hs i (by simp [Op.operands])) fun w => rfl
  | lookup t x i ok => exact ev_same (hs x (by simp [Op.operands])) fun v => ev_same (hs i (by simp [Op.operands])) fun w => rfl
  | mapUpdate t m k x => exact ev_same (hs m (by simp [Op.operands])) fun v => ev_same (hs k (by simp [Op.operands])) fun w => ev_same (hs x (by simp [Op.operands])) fun u => rfl
  | insert t m k x => exact ev_same (hs m (by simp [Op.operands])) fun v => ev_same (hs k (by simp [Op.operands])) fun w => ev_same (hs x (by simp [Op.operands])) fun u => rfl
  | mapEntry t m k => exact ev_same (hs m (by simp [Op.operands])) fun v => ev_same (hs k (by simp [Op.operands])) fun w => rfl
  | entryStore t m s x => exact ev_same (hs m (by simp [Op.operands])) fun v => ev_same (hs s (by simp [Op.operands])) fun w => ev_same (hs x (by simp [Op.operands])) fun u => rfl
  | range t x => exact ev_same (hs x (by simp [Op.operands])) fun v => rfl
  | next x s =>
    show cond s _ _ = cond s _ _
    cases s with
    | true => exact ev_same (hs x (by simp [Op.operands])) fun v => rfl
    | false => rfl
  | typeAssert x t u ok => exact ev_same (hs x (by simp [Op.operands])) fun v => rfl
  | extract t i => exact ev_same (hs t (by simp [Op.operands])) fun v => rfl
  | call c =>
    obtain ⟨callee, as, ts⟩ := c
    have ha : ∀ x ∈ as.toList, SameAt T T' x := fun x hx => hs x (by simp [Op.operands, Call.operands]; exact .inr (by simpa using hx))
    refine evs_same ha fun l => ?_
    cases callee with
    | value f => exact ev_same (hs f (by simp [Op.operands, Call.operands])) fun v => rfl
    | invoke r m => exact ev_same (hs r (by simp [Op.operands, Call.operands])) fun v => rfl
    | builtin b => rfl
  | defer c =>
    obtain ⟨callee, as, ts⟩ := c
    have ha : ∀ x ∈ as.toList, SameAt T T' x := fun x hx => hs x (by simp [Op.operands, Call.operands]; exact .inr (by simpa using hx))
    cases callee with
    | value f => exact ev_same (hs f (by simp [Op.operands, Call.operands])) fun v => evs_same ha fun l => rfl
    | _ => rfl
  | _ => rfl
end
end Go.Ev
namespace Go.Ev
open Go
section
theorem eqI'_eq {a b : Int} (h : eqI' a b = true) : a = b := by
  cases a <;> cases b <;> first | (exact congrArg _ (Nat.eq_of_beq_eq_true h)) | cases h
theorem eqS'_eq {n a m b : Nat} (h : eqS' n a m b = true) : n = m ∧ a = b := by
  unfold eqS' at h
  cases hn : Nat.beq n m with
  | true => rw [hn] at h; exact ⟨Nat.eq_of_beq_eq_true hn, Nat.eq_of_beq_eq_true h⟩
  | false => rw [hn] at h; cases h
theorem cond_and {a b : Bool} (h : cond a b false = true) : a = true ∧ b = true := by cases a <;> simp_all
/-- a path of edges goes to what is done already -/
theorem reach_done {all : List Oper} {D : Nat → Prop} (hD : ∀ i o, D i → all[i]? = some o → ∀ e ∈ o.after.toList, bindsAny e = true → D e.on) : ∀ {n i j : Nat}, (∀ o, all[i]? = some o → ∀ e ∈ o.after.toList, bindsAny e = true → D e.on) → reach all n i j = true → D j
  | 0, i, j, _, h => by cases h
  | n + 1, i, j, hi, h => by
    unfold reach at h
    split at h
    · rename_i o ho
      rw [Bool.or_eq_true] at h
      rcases h with h | h
      · obtain ⟨e, he, h2⟩ := List.any_eq_true.1 h
        rw [Bool.and_eq_true] at h2
        have := hi o ho e he h2.1
        rwa [Nat.eq_of_beq_eq_true h2.2] at this
      · obtain ⟨e, he, h2⟩ := List.any_eq_true.1 h
        rw [Bool.and_eq_true, Bool.and_eq_true] at h2
        have hd := hi o ho e he h2.1.1
        exact reach_done hD (fun o' ho' => hD e.on o' hd ho') h2.2
    · cases h
mutual
theorem vEq_eq : ∀ {v w : V}, vEq v w = true → v = w
  | .bool a, w, h => by
    cases w with
    | bool b => cases a <;> cases b <;> first | rfl | cases h
    | _ => cases h
  | .int k a, w, h => by
    cases w with
    | int j b =>
      obtain ⟨h1, h2⟩ := cond_and h
      cases eqJ_eq h1
      cases eqI'_eq h2
      rfl
    | _ => cases h
  | .str n a, w, h => by
    cases w with
    | str m b => obtain ⟨rfl, rfl⟩ := eqS'_eq h; rfl
    | _ => cases h
  | .pnil, w, h => by cases w <;> first | rfl | cases h
  | .ptr b o, w, h => by
    cases w with
    | ptr c p => obtain ⟨rfl, rfl⟩ := eqS'_eq h; rfl
    | _ => cases h
  | .snil, w, h => by cases w <;> first | rfl | cases h
  | .slice b o n c, w, h => by
    cases w with
    | slice b' o' n' c' => obtain ⟨h1, h2⟩ := cond_and h; obtain ⟨rfl, rfl⟩ := eqS'_eq h1; obtain ⟨rfl, rfl⟩ := eqS'_eq h2; rfl
    | _ => cases h
  | .gsl b o n c k, w, h => by
    cases w with
    | gsl b' o' n' c' k' => obtain ⟨h1, h2⟩ := cond_and h; obtain ⟨h2, h3⟩ := cond_and h2; obtain ⟨rfl, rfl⟩ := eqS'_eq h1; obtain ⟨rfl, rfl⟩ := eqS'_eq h2; cases Nat.eq_of_beq_eq_true h3; rfl
    | _ => cases h
  | .sle b o n c k, w, h => by
    cases w with
    | sle b' o' n' c' k' => obtain ⟨h1, h2⟩ := cond_and h; obtain ⟨h2, h3⟩ := cond_and h2; obtain ⟨rfl, rfl⟩ := eqS'_eq h1; obtain ⟨rfl, rfl⟩ := eqS'_eq h2; cases Nat.eq_of_beq_eq_true h3; rfl
    | _ => cases h
  | .fn f a b, w, h => by cases w <;> cases h
  | .fnil, w, h => by cases w <;> first | rfl | cases h
  | .iface t v, w, h => by
    cases w with
    | iface u x => obtain ⟨h1, h2⟩ := cond_and h; cases Nat.eq_of_beq_eq_true h1; cases vEq_eq h2; rfl
    | _ => cases h
  | .inil, w, h => by cases w <;> first | rfl | cases h
  | .agg l, w, h => by
    cases w with
    | agg m => cases vEqs_eq (l := l) (m := m) h; rfl
    | _ => cases h
  | .tup l, w, h => by
    cases w with
    | tup m => cases vEqs_eq (l := l) (m := m) h; rfl
    | _ => cases h
  | .mnil, w, h => by cases w <;> first | rfl | cases h
  | .map b, w, h => by
    cases w with
    | map c => cases Nat.eq_of_beq_eq_true h; rfl
    | _ => cases h
  | .opq i, w, h => by
    cases w with
    | opq j => cases Nat.eq_of_beq_eq_true h; rfl
    | _ => cases h
  | .junk, w, h => by cases w <;> cases h
theorem vEqs_eq : ∀ {l m : List V}, vEqs l m = true → l = m
  | [], [], _ => rfl
  | x :: l, y :: m, h => by
    obtain ⟨h1, h2⟩ := cond_and h
    cases vEq_eq h1
    cases vEqs_eq h2
    rfl
  | [], _ :: _, h => by cases h
  | _ :: _, [], h => by cases h
end
end
end Go.Ev
namespace Go.Ev
open Go
section
variable {P : Program} {γ : Type}
theorem tget_same {β : Type} {T T' : Tm} {t : Nat} {K : V → β} {e : β} (h : tgetP T t = tgetP T' t) : tget T t K e = tget T' t K e := by rw [tget_eq, tget_eq, h]
theorem wantK_same {all : List Oper} {o : Oper} {T T' : Tm} {yes no : R γ} (h : ∀ g j p d, o.guard = some (j, g) → all[j]? = some p → p.dst = some d → tgetP T d = tgetP T' d) : wantK all o T yes no = wantK all o T' yes no := by
  unfold wantK
  cases hg : o.guard with
  | none => rfl
  | some q =>
    obtain ⟨j, g⟩ := q
    show wantG g (gdst all j) T yes no = wantG g (gdst all j) T' yes no
    unfold wantG gdst
    rw [lget_eq]
    cases hj : all[j]? with
    | none => rfl
    | some p =>
      dsimp only
      cases hd : p.dst with
      | none => rfl
      | some d => exact tget_same (h g j p d hg hj hd)
end
end Go.Ev
namespace Go.Ev
open Go
open Classical
/-! a region whose order is drawn: what the interpreter did, stage by stage -/
section
variable {P : Program} {γ : Type}
/-- block j was laid by an operation that i need not wait for -/
def Hid (all : List Oper) (i base : Nat) (ns : List Nat) (j : Nat) : Prop := ∃ n, n ∈ ns ∧ reach all i i n = false ∧ j = base + n
/-- h without these -/
def Hides (all : List Oper) (i base : Nat) (ns : List Nat) (h h0 : H) : Prop := h0.next = h.next ∧ h0.ds = h.ds ∧ ∀ j, h0.get j = if Hid all i base ns j then none else h.get j
theorem hidR_ok {all : List Oper} {i base : Nat} {r : γ} : ∀ {ns : List Nat} {h : H} {K : H → R γ}, hidR all i base ns h K = .ok r → ∃ h0, K h0 = .ok r ∧ Hides all i base ns h h0
  | [], h, K, h0 => ⟨h, h0, rfl, rfl, fun j => by rw [if_neg (by rintro ⟨n, hn, _⟩; cases hn)]⟩
  | n :: ns, h, K, h0 => by
    have h1 : cond (reach all i i n) (hidR all i base ns h K) (forceNat (Nat.add base n) fun b => hset h b none (fun h => hidR all i base ns h K) (.no 113)) = .ok r := h0
    cases hr : reach all i i n with
    | true =>
      rw [hr] at h1
      obtain ⟨h2, q1, q2, q3, q4⟩ := hidR_ok (ns := ns) h1
      refine ⟨h2, q1, q2, q3, fun j => ?_⟩
      rw [q4 j]
      have : Hid all i base ns j ↔ Hid all i base (n :: ns) j := by
        constructor
        · rintro ⟨m, a, b, c⟩; exact ⟨m, by simp [a], b, c⟩
        · rintro ⟨m, a, b, c⟩
          simp at a
          rcases a with rfl | a
          · rw [hr] at b; cases b
          · exact ⟨m, a, b, c⟩
      by_cases hh : Hid all i base ns j
      · rw [if_pos hh, if_pos (this.1 hh)]
      · rw [if_neg hh, if_neg (fun k => hh (this.2 k))]
    | false =>
      rw [hr] at h1
      have h1' : forceNat (Nat.add base n) (fun b => hset h b none (fun h => hidR all i base ns h K) (.no 113)) = .ok r := h1
      rw [forceNat_eq] at h1'
      obtain ⟨h2, p1, p2, p3, p4⟩ := hset_ok h1'
      obtain ⟨h3, q1, q2, q3, q4⟩ := hidR_ok (ns := ns) p1
      refine ⟨h3, q1, q2.trans p2, q3.trans p3, fun j => ?_⟩
      rw [q4 j, p4 j]
      by_cases hj : j = base + n
      · have : Hid all i base (n :: ns) j := ⟨n, by simp, hr, hj⟩
        rw [if_pos this, if_pos (show j = Nat.add base n from hj), ite_self]
      · rw [if_neg (show ¬ j = Nat.add base n from hj)]
        by_cases hh : Hid all i base ns j
        · obtain ⟨m, a, b, c⟩ := hh
          rw [if_pos ⟨m, a, b, c⟩, if_pos ⟨m, by simp [a], b, c⟩]
        · rw [if_neg hh, if_neg]
          rintro ⟨m, a, b, c⟩
          simp at a
          rcases a with rfl | a
          · exact hj c
          · exact hh ⟨m, a, b, c⟩
theorem hideK_ok {all : List Oper} {i base : Nat} {r : γ} : ∀ {ns : List Nat} {h : H} {K : H → List (Nat × Blk) → R γ}, hideK all i base ns h K = .ok r →
    ∃ h0 l, K h0 l = .ok r ∧ Hides all i base ns h h0 ∧ (∀ p ∈ l, Hid all i base ns p.1 ∧ h.get p.1 = some p.2) ∧ (∀ j, Hid all i base ns j → ∃ x, (j, x) ∈ l)
  | [], h, K, h0 => ⟨h, [], h0, ⟨rfl, rfl, fun j => by rw [if_neg (by rintro ⟨n, hn, _⟩; cases hn)]⟩, fun p hp => (by cases hp), fun j hj => (by obtain ⟨n, hn, _⟩ := hj; cases hn)⟩
  | n :: ns, h, K, h0 => by
    have h1 : cond (reach all i i n) (hideK all i base ns h K) (forceNat (Nat.add base n) fun b => hget h b (fun x => hset h b none (fun h => hideK all i base ns h fun h l => K h ((b, x) :: l)) (.no 106)) (.no 106)) = .ok r := h0
    cases hr : reach all i i n with
    | true =>
      rw [hr] at h1
      obtain ⟨h2, l, q1, ⟨q2, q3, q4⟩, q5, q6⟩ := hideK_ok (ns := ns) h1
      have key : ∀ j, Hid all i base ns j ↔ Hid all i base (n :: ns) j := fun j => by
        constructor
        · rintro ⟨m, a, b, c⟩; exact ⟨m, by simp [a], b, c⟩
        · rintro ⟨m, a, b, c⟩
          simp at a
          rcases a with rfl | a
          · rw [hr] at b; cases b
          · exact ⟨m, a, b, c⟩
      refine ⟨h2, l, q1, ⟨q2, q3, fun j => ?_⟩, fun p hp => ⟨(key _).1 (q5 p hp).1, (q5 p hp).2⟩, fun j hj => q6 j ((key j).2 hj)⟩
      rw [q4 j]
      by_cases hh : Hid all i base ns j
      · rw [if_pos hh, if_pos ((key j).1 hh)]
      · rw [if_neg hh, if_neg (fun k => hh ((key j).2 k))]
    | false =>
      rw [hr] at h1
      have h1' : forceNat (Nat.add base n) (fun b => hget h b (fun x => hset h b none (fun h => hideK all i base ns h fun h l => K h ((b, x) :: l)) (.no 106)) (.no 106)) = .ok r := h1
      rw [forceNat_eq] at h1'
      obtain ⟨x, hx, h2⟩ := hget_ok h1'
      obtain ⟨h3, p1, p2, p3, p4⟩ := hset_ok h2
      obtain ⟨h4, l, q1, ⟨q2, q3, q4⟩, q5, q6⟩ := hideK_ok (ns := ns) p1
      have hself : Hid all i base (n :: ns) (Nat.add base n) := ⟨n, by simp, hr, rfl⟩
      refine ⟨h4, _, q1, ⟨q2.trans p2, q3.trans p3, fun j => ?_⟩, fun p hp => ?_, fun j hj => ?_⟩
      · rw [q4 j, p4 j]
        by_cases hj : j = Nat.add base n
        · subst hj
          rw [if_pos rfl, ite_self, if_pos hself]
        · rw [if_neg hj]
          by_cases hh : Hid all i base ns j
          · obtain ⟨m, a, b, c⟩ := hh
            rw [if_pos ⟨m, a, b, c⟩, if_pos ⟨m, by simp [a], b, c⟩]
          · rw [if_neg hh, if_neg]
            rintro ⟨m, a, b, c⟩
            simp at a
            rcases a with rfl | a
            · exact hj c
            · exact hh ⟨m, a, b, c⟩
      · simp at hp
        rcases hp with rfl | hp
        · exact ⟨hself, hx⟩
        · obtain ⟨⟨m, a, b, c⟩, e⟩ := q5 p hp
          refine ⟨⟨m, by simp [a], b, c⟩, ?_⟩
          rw [p4] at e
          split at e
          · cases e
          · exact e
      · obtain ⟨m, a, b, c⟩ := hj
        simp at a
        rcases a with rfl | a
        · exact ⟨x, by subst c; simp⟩
        · obtain ⟨y, hy⟩ := q6 j ⟨m, a, b, c⟩
          exact ⟨y, by simp [hy]⟩
theorem backB_ok {r : γ} : ∀ {l : List (Nat × Blk)} {h : H} {K : H → R γ}, backB l h K = .ok r →
    ∃ h', K h' = .ok r ∧ h'.next = h.next ∧ h'.ds = h.ds ∧ (∀ j, (∀ x, (j, x) ∉ l) → h'.get j = h.get j) ∧ (∀ j x, (j, x) ∈ l → ∃ y, (j, y) ∈ l ∧ h'.get j = some y)
  | [], h, K, h0 => ⟨h, h0, rfl, rfl, fun _ _ => rfl, fun _ _ h => by cases h⟩
  | p :: l, h, K, h0 => by
    obtain ⟨h2, p1, p2, p3, p4⟩ := hset_ok (K := fun h => backB l h K) h0
    obtain ⟨h3, q1, q2, q3, q4, q5⟩ := backB_ok p1
    refine ⟨h3, q1, q2.trans p2, q3.trans p3, fun j hj => ?_, fun j x hx => ?_⟩
    · rw [q4 j (fun x hx => hj x (by simp [hx])), p4, if_neg]
      rintro rfl
      exact hj p.2 (by simp)
    · by_cases hl : ∃ y, (j, y) ∈ l
      · obtain ⟨y, hy⟩ := hl
        obtain ⟨z, hz, e⟩ := q5 j y hy
        exact ⟨z, by simp [hz], e⟩
      · have hne : ∀ y, (j, y) ∉ l := fun y hy => hl ⟨y, hy⟩
        simp at hx
        rcases hx with hx | hx
        · refine ⟨x, by simp [hx], ?_⟩
          rw [q4 j hne, p4, if_pos (by rw [← hx])]
          rw [← hx]
        · exact absurd hx (hne x)
theorem goR_ok {x : R (V × H)} {K : V → H → R γ} {r : γ} (h : goR x K = .ok r) : ∃ v h', x = .ok (v, h') ∧ K v h' = .ok r := by
  cases x with
  | ok p => exact ⟨p.1, p.2, rfl, h⟩
  | no n => cases h
theorem goA_ok {x : R (Blk × (Nat → V))} {K : Blk → (Nat → V) → R γ} {r : γ} (h : goA x K = .ok r) : ∃ b mk, x = .ok (b, mk) ∧ K b mk = .ok r := by
  cases x with
  | ok p => exact ⟨p.1, p.2, rfl, h⟩
  | no n => cases h
/-- a reading at another heap gives the same -/
def ReadsAs (P : Program) (F : CallF) (all : List Oper) (base : Nat) (ns : List Nat) (i : Nat) (o : Oper) (T : Tm) (v : V) (h : H) : Prop := ∃ h0 h', Hides all i base ns h h0 ∧ evR P F o.op T h0 = .ok (v, h')
theorem backK_ok {F : CallF} {all : List Oper} {base : Nat} {ns : List Nat} {i : Nat} {o : Oper} {T : Tm} {v : V} {K : R γ} {r : γ} : ∀ {hs : List (Nat × H)}, hs.Pairwise (fun a b => b.1 < a.1) → backK P F all base ns i o T v hs K = .ok r →
    K = .ok r ∧ ∀ p ∈ hs, (∀ q ∈ hs, p.1 ≤ q.1 → reach all i i q.1 = false) → ReadsAs P F all base ns i o T v p.2
  | [], _, h => ⟨h, fun p hp => by cases hp⟩
  | p :: hs, hp, h => by
    have h1 : cond (reach all i i p.1) K (hidR all i base ns p.2 fun h0 => goR (evR P F o.op T h0) fun w _ => cond (vEq v w) (backK P F all base ns i o T v hs K) (.no 90)) = .ok r := h
    rw [List.pairwise_cons] at hp
    cases hr : reach all i i p.1 with
    | true =>
      rw [hr] at h1
      refine ⟨h1, fun q hq hall => ?_⟩
      simp at hq
      have hle : q.1 ≤ p.1 := by
        rcases hq with rfl | hq
        · exact Nat.le_refl _
        · exact Nat.le_of_lt (hp.1 q hq)
      have := hall p (by simp) hle
      rw [hr] at this
      cases this
    | false =>
      rw [hr] at h1
      obtain ⟨h0, h2, h3⟩ := hidR_ok (K := fun h0 => goR (evR P F o.op T h0) fun w _ => cond (vEq v w) (backK P F all base ns i o T v hs K) (.no 90)) h1
      obtain ⟨w, h', h4, h5⟩ := goR_ok h2
      obtain ⟨h6, h7⟩ := cond_ok h5
      cases vEq_eq h6
      obtain ⟨h8, h9⟩ := backK_ok hp.2 h7
      refine ⟨h8, fun q hq hall => ?_⟩
      simp at hq
      rcases hq with rfl | hq
      · exact ⟨h0, h', h3, h4⟩
      · exact h9 q hq fun q' hq' => hall q' (by simp [hq'])
theorem openK_ok {F : CallF} {all : List Oper} {base : Nat} {ns : List Nat} {i : Nat} {h : H} {r : γ} : ∀ {os : Open} {K : Open → R γ}, openK P F all base ns i h os K = .ok r →
    ∃ os', K os' = .ok r ∧ ∀ p ∈ os, reach all i i p.1 = false → p ∈ os' ∧ ReadsAs P F all base ns p.1 p.2.1 p.2.2.1 p.2.2.2 h
  | [], K, h0 => ⟨[], h0, fun p hp => by cases hp⟩
  | p :: os, K, h0 => by
    have h1 : cond (reach all i i p.1) (openK P F all base ns i h os K) (hidR all p.1 base ns h fun h0 => goR (evR P F p.2.1.op p.2.2.1 h0) fun w _ => cond (vEq p.2.2.2 w) (openK P F all base ns i h os fun t => K (p :: t)) (.no 91)) = .ok r := h0
    cases hr : reach all i i p.1 with
    | true =>
      rw [hr] at h1
      obtain ⟨os', h2, h3⟩ := openK_ok (os := os) h1
      refine ⟨os', h2, fun q hq hq' => ?_⟩
      simp at hq
      rcases hq with rfl | hq
      · rw [hr] at hq'; cases hq'
      · exact h3 q hq hq'
    | false =>
      rw [hr] at h1
      obtain ⟨h0', h2, h3⟩ := hidR_ok (K := fun h0 => goR (evR P F p.2.1.op p.2.2.1 h0) fun w _ => cond (vEq p.2.2.2 w) (openK P F all base ns i h os fun t => K (p :: t)) (.no 91)) h1
      obtain ⟨w, h', h4, h5⟩ := goR_ok h2
      obtain ⟨h6, h7⟩ := cond_ok h5
      have e := vEq_eq h6
      obtain ⟨os', h8, h9⟩ := openK_ok (os := os) h7
      refine ⟨_, h8, fun q hq hq' => ?_⟩
      simp at hq
      rcases hq with rfl | hq
      · exact ⟨by simp, h0', h', h3, by rw [e]; exact h4⟩
      · obtain ⟨a, b⟩ := h9 q hq hq'
        exact ⟨by simp [a], b⟩
/-- is it wanted -/
noncomputable def wantB (all : List Oper) (o : Oper) (T : Tm) : R Bool := wantK all o T (.ok true) (.ok false)
theorem wantG_ok {want : Bool} {d : Option Tmp} {T : Tm} {yes no : R γ} {r : γ} (h : wantG want d T yes no = .ok r) : (wantG want d T (.ok true) (.ok false) = .ok true ∧ yes = .ok r) ∨ (wantG want d T (.ok true) (.ok false) = .ok false ∧ no = .ok r) := by
  cases d with
  | none => cases h
  | some d =>
    have h1 : tget T d (fun v => match v with | .bool b => cond (cond b want (not want)) yes no | .opq _ => .no 87 | _ => no) (.no 87) = .ok r := h
    show (tget T d (fun v => match v with | .bool b => cond (cond b want (not want)) (R.ok true) (.ok false) | .opq _ => .no 87 | _ => .ok false) (.no 87) = .ok true ∧ _) ∨ (tget T d (fun v => match v with | .bool b => cond (cond b want (not want)) (R.ok true) (.ok false) | .opq _ => .no 87 | _ => .ok false) (.no 87) = .ok false ∧ _)
    rw [tget_eq] at h1 ⊢
    cases hv : tgetP T d with
    | none => rw [hv] at h1; cases h1
    | some v =>
      rw [hv] at h1
      cases v with
      | bool b => cases b <;> cases want <;> first | exact .inl ⟨rfl, h1⟩ | exact .inr ⟨rfl, h1⟩
      | opq i => cases h1
      | _ => exact .inr ⟨rfl, h1⟩
theorem wantB_ok {all : List Oper} {o : Oper} {T : Tm} {yes no : R γ} {r : γ} (h : wantK all o T yes no = .ok r) : (wantB all o T = .ok true ∧ yes = .ok r) ∨ (wantB all o T = .ok false ∧ no = .ok r) := by
  unfold wantB
  unfold wantK at h ⊢
  cases hg : o.guard with
  | none => rw [hg] at h; exact .inl ⟨rfl, h⟩
  | some g => rw [hg] at h; exact wantG_ok h
end
end Go.Ev
namespace Go.Ev
open Go
open Classical
section
variable {P : Program} {γ β : Type}
theorem evA_same {op : Op} {T T' : Tm} {K : Blk → (Nat → V) → R γ} (hs : ∀ x ∈ op.operands.toList, SameAt T T' x) : evA P op T K = evA P op T' K := by
  cases op with
  | alloc t => rfl
  | box t x => exact ev_same (hs x (by simp [Op.operands])) fun v => rfl
  | buildSlice t n ps =>
    have hps : ∀ p ∈ ps.toList, SameAt T T' p.2 := fun p hp => hs p.2 (by simp only [Op.operands, List.mem_map]; exact ⟨p, hp, rfl⟩)
    show aBuildSlice P t n ps T K = aBuildSlice P t n ps T' K
    unfold aBuildSlice
    split
    · rename_i s' _
      congr 1
      funext z
      congr 1
      funext z
      congr 1
      funext m
      congr 1
      congr 1
      exact partsK_same (place := fun i K => K (Nat.mul i s') s') (fun i K K' hk => hk _ _) hps
    · rfl
  | makeMap t r => rfl
  | makeSlice t l c => exact ev_same (hs l (by simp [Op.operands])) fun v => ev_same (hs c (by simp [Op.operands])) fun w => rfl
  | convert s d x => exact ev_same (hs x (by simp [Op.operands])) fun v => rfl
  | _ => rfl
theorem cls_le (op : Op) : cls P op ≤ 3 := by
  have hv : ∀ d s, clsV d s ≤ 3 := fun d s => by unfold clsV; split <;> omega
  have hcall : ∀ f, clsCall f ≤ 3 := fun f => by
    cases f with
    | builtin b => cases b <;> decide
    | _ => exact Nat.le_succ 2
  cases op <;> first | exact Nat.zero_le 3 | exact Nat.le_refl 3 | exact Nat.le_succ 2 | exact hv _ _ | exact hcall _ | exact Nat.le_of_lt (by show 1 < 3; omega)
/-- one operation of a drawn region -/
noncomputable def drawStep (P : Program) (F : CallF) (all : List Oper) (base : Nat) (o : Oper) (T : Tm) (s : DS) (ih : Tm → DS → R β) (c : Nat) : R β :=
  Nat.rec (motive := fun _ => R β)
        (goR (evR P F o.op T s.h) fun v _ => dstK o.dst v T fun T' => ih T' ⟨Nat.succ s.i, s.h, s.hs, s.os, s.ns⟩)
        (fun n _ => Nat.rec (motive := fun _ => R β)
          (hidR all s.i base s.ns s.h fun h0 => goR (evR P F o.op T h0) fun v _ => backK P F all base s.ns s.i o T v s.hs (dstK o.dst v T fun T' => ih T' ⟨Nat.succ s.i, s.h, s.hs, (s.i, o, T, v) :: s.os, s.ns⟩))
          (fun n _ => Nat.rec (motive := fun _ => R β)
            (lastOk all s.i s.hs (hideK all s.i base s.ns s.h fun h0 l => goR (evR P F o.op T h0) fun v h1 => backB l h1 fun h2 => openK P F all base s.ns s.i h2 s.os fun os => dstK o.dst v T fun T' => ih T' ⟨Nat.succ s.i, h2, (s.i, s.h) :: s.hs, os, s.ns⟩))
            (fun _ _ => goA (evAR P o.op T) fun x mk => forceNat (Nat.add base s.i) fun b => hset s.h b (some x) (fun h => dstK o.dst (mk b) T fun T' => ih T' ⟨Nat.succ s.i, h, s.hs, s.os, s.i :: s.ns⟩) (.no 108)) n) n) c
theorem drawOps_cons {F : CallF} {all : List Oper} {base : Nat} {o : Oper} {ops : List Oper} {T : Tm} {s : DS} {K : Tm → H → R β} :
    drawOps P F all base (o :: ops) T s K = wantK all o T (drawStep P F all base o T s (fun T s => drawOps P F all base ops T s K) (cls P o.op))
      (dstK o.dst (.tup []) T fun T' => drawOps P F all base ops T' ⟨Nat.succ s.i, s.h, s.hs, s.os, s.ns⟩ K) := rfl
structure Rec where
  T : Tm
  s : DS
  v : V
  kind : Nat
  x : Blk
  mkv : Nat → V
def Same4 (s s' : DS) : Prop := s'.h = s.h ∧ s'.hs = s.hs ∧ s'.os = s.os ∧ s'.ns = s.ns
/-- what stage i did -/
def StageOk (P : Program) (F : CallF) (all : List Oper) (base : Nat) (i : Nat) (o : Oper) (r : Rec) (s' : DS) : Prop := s'.i = i + 1 ∧
  ((r.kind = 0 ∧ wantB all o r.T = .ok false ∧ r.v = .tup [] ∧ Same4 r.s s') ∨
   (r.kind = 1 ∧ wantB all o r.T = .ok true ∧ cls P o.op = 0 ∧ (∃ h', evR P F o.op r.T r.s.h = .ok (r.v, h')) ∧ Same4 r.s s') ∨
   (r.kind = 2 ∧ wantB all o r.T = .ok true ∧ cls P o.op = 1 ∧ ReadsAs P F all base r.s.ns i o r.T r.v r.s.h ∧ (∀ p ∈ r.s.hs, (∀ q ∈ r.s.hs, p.1 ≤ q.1 → reach all i i q.1 = false) → ReadsAs P F all base r.s.ns i o r.T r.v p.2) ∧
      s'.h = r.s.h ∧ s'.hs = r.s.hs ∧ s'.os = (i, o, r.T, r.v) :: r.s.os ∧ s'.ns = r.s.ns) ∨
   (r.kind = 3 ∧ wantB all o r.T = .ok true ∧ (∀ p l, r.s.hs = p :: l → reach all i i p.1 = true) ∧ (∃ h0 h1, Hides all i base r.s.ns r.s.h h0 ∧ evR P F o.op r.T h0 = .ok (r.v, h1) ∧ s'.h.next = h1.next ∧ s'.h.ds = h1.ds ∧
      (∀ j, s'.h.get j = if Hid all i base r.s.ns j then r.s.h.get j else h1.get j)) ∧ (∀ j, Hid all i base r.s.ns j → ∃ x, r.s.h.get j = some x) ∧ s'.hs = (i, r.s.h) :: r.s.hs ∧ s'.ns = r.s.ns ∧
      (∀ p ∈ r.s.os, reach all i i p.1 = false → p ∈ s'.os ∧ ReadsAs P F all base r.s.ns p.1 p.2.1 p.2.2.1 p.2.2.2 s'.h)) ∨
   (r.kind = 4 ∧ wantB all o r.T = .ok true ∧ cls P o.op = 3 ∧ evAR P o.op r.T = .ok (r.x, r.mkv) ∧ r.v = r.mkv (base + i) ∧ s'.h.next = r.s.h.next ∧ s'.h.ds = r.s.h.ds ∧ (∀ j, s'.h.get j = if j = base + i then some r.x else r.s.h.get j) ∧
      s'.hs = r.s.hs ∧ s'.os = r.s.os ∧ s'.ns = i :: r.s.ns))
/-- a temporary set -/
def TSet (T : Tm) (d : Option Tmp) (v : V) (T' : Tm) : Prop := match d with
  | none => T' = T
  | some d => (∀ j, tgetP T' j = if j = d then some v else tgetP T j) ∧ (tgetP T d).isSome
theorem dstK_set {d : Option Tmp} {v : V} {T : Tm} {K : Tm → R γ} {r : γ} (h : dstK d v T K = .ok r) : ∃ T', K T' = .ok r ∧ TSet T d v T' := by
  cases d with
  | none => exact ⟨T, h, rfl⟩
  | some d => obtain ⟨T', h1, h2, h3⟩ := tset_ok (K := K) h; exact ⟨T', h1, h2, h3⟩
def StageAt (P : Program) (F : CallF) (all : List Oper) (base : Nat) (tr : Nat → Rec) (i : Nat) : Prop := ∃ o, all[i]? = some o ∧ StageOk P F all base i o (tr i) (tr (i + 1)).s ∧ TSet (tr i).T o.dst (tr i).v (tr (i + 1)).T
theorem draw_step {F : CallF} {all : List Oper} {base i : Nat} {o : Oper} {T : Tm} {s : DS} {ih : Tm → DS → R γ} {r : γ} (hsi : s.i = i) (hs : s.hs.Pairwise (fun a b => b.1 < a.1)) (hlt : ∀ p ∈ s.hs, p.1 < i)
    (h0 : wantK all o T (drawStep P F all base o T s ih (cls P o.op)) (dstK o.dst (.tup []) T fun T' => ih T' ⟨Nat.succ s.i, s.h, s.hs, s.os, s.ns⟩) = .ok r) :
    ∃ (rc : Rec) (T1 : Tm) (s1 : DS), rc.T = T ∧ rc.s = s ∧ StageOk P F all base i o rc s1 ∧ TSet T o.dst rc.v T1 ∧ ih T1 s1 = .ok r ∧ s1.hs.Pairwise (fun a b => b.1 < a.1) ∧ ∀ p ∈ s1.hs, p.1 < i + 1 := by
  have up : ∀ p ∈ s.hs, p.1 < i + 1 := fun p hp => Nat.lt_succ_of_lt (hlt p hp)
  rcases wantB_ok h0 with ⟨hw, h1⟩ | ⟨hw, h1⟩
  · have hle := cls_le (P := P) o.op
    cases hc : cls P o.op with
    | zero =>
      rw [hc] at h1
      obtain ⟨v, h', h2, h3⟩ := goR_ok (K := fun v _ => dstK o.dst v T fun T' => ih T' ⟨Nat.succ s.i, s.h, s.hs, s.os, s.ns⟩) h1
      obtain ⟨T1, h4, h5⟩ := dstK_set h3
      exact ⟨⟨T, s, v, 1, .siter 0 0 0, fun _ => .junk⟩, T1, ⟨Nat.succ s.i, s.h, s.hs, s.os, s.ns⟩, rfl, rfl, ⟨by rw [← hsi], .inr (.inl ⟨rfl, hw, hc, ⟨h', h2⟩, rfl, rfl, rfl, rfl⟩)⟩, h5, h4, hs, up⟩
    | succ n =>
      cases n with
      | zero =>
        rw [hc] at h1
        have h1' : hidR all s.i base s.ns s.h (fun h0 => goR (evR P F o.op T h0) fun v _ => backK P F all base s.ns s.i o T v s.hs (dstK o.dst v T fun T' => ih T' ⟨Nat.succ s.i, s.h, s.hs, (s.i, o, T, v) :: s.os, s.ns⟩)) = .ok r := h1
        obtain ⟨h0', h2, h3⟩ := hidR_ok h1'
        obtain ⟨v, h', h4, h5⟩ := goR_ok h2
        obtain ⟨h6, h7⟩ := backK_ok hs h5
        obtain ⟨T1, h8, h9⟩ := dstK_set h6
        subst hsi
        exact ⟨⟨T, s, v, 2, .siter 0 0 0, fun _ => .junk⟩, T1, ⟨Nat.succ s.i, s.h, s.hs, (s.i, o, T, v) :: s.os, s.ns⟩, rfl, rfl, ⟨rfl, .inr (.inr (.inl ⟨rfl, hw, hc, ⟨h0', h', h3, h4⟩, h7, rfl, rfl, rfl, rfl⟩))⟩, h9, h8, hs, up⟩
      | succ n =>
        cases n with
        | zero =>
          rw [hc] at h1
          have h1' : lastOk all s.i s.hs (hideK all s.i base s.ns s.h fun h0 l => goR (evR P F o.op T h0) fun v h1 => backB l h1 fun h2 => openK P F all base s.ns s.i h2 s.os fun os => dstK o.dst v T fun T' => ih T' ⟨Nat.succ s.i, h2, (s.i, s.h) :: s.hs, os, s.ns⟩) = .ok r := h1
          have h2 : (∀ p l, s.hs = p :: l → reach all s.i s.i p.1 = true) ∧ hideK all s.i base s.ns s.h (fun h0 l => goR (evR P F o.op T h0) fun v h1 => backB l h1 fun h2 => openK P F all base s.ns s.i h2 s.os fun os => dstK o.dst v T fun T' => ih T' ⟨Nat.succ s.i, h2, (s.i, s.h) :: s.hs, os, s.ns⟩) = .ok r := by
            unfold lastOk at h1'
            cases hh : s.hs with
            | nil => rw [hh] at h1'; exact ⟨fun p l e => (by cases e), h1'⟩
            | cons p l =>
              rw [hh] at h1'
              obtain ⟨q1, q2⟩ := cond_ok h1'
              exact ⟨fun p' l' e => (by cases e; exact q1), q2⟩
          obtain ⟨hlast, h2⟩ := h2
          obtain ⟨h0', l, h3, h4, h5, h6⟩ := hideK_ok h2
          obtain ⟨v, h1'', h7, h8⟩ := goR_ok h3
          obtain ⟨h2', h9, h10, h11, h12, h13⟩ := backB_ok h8
          obtain ⟨os', h14, h15⟩ := openK_ok h9
          obtain ⟨T1, h16, h17⟩ := dstK_set h14
          subst hsi
          refine ⟨⟨T, s, v, 3, .siter 0 0 0, fun _ => .junk⟩, T1, ⟨Nat.succ s.i, h2', (s.i, s.h) :: s.hs, os', s.ns⟩, rfl, rfl, ⟨rfl, .inr (.inr (.inr (.inl ⟨rfl, hw, hlast, ⟨h0', h1'', h4, h7, h10, h11, fun j => ?_⟩, fun j hj => let ⟨x, hx⟩ := h6 j hj; ⟨x, (h5 _ hx).2⟩, rfl, rfl, h15⟩)))⟩, h17, h16, ?_, ?_⟩
          · by_cases hj : Hid all s.i base s.ns j
            · rw [if_pos hj]
              obtain ⟨x, hx⟩ := h6 j hj
              obtain ⟨y, hy, e⟩ := h13 j x hx
              exact e.trans (h5 _ hy).2.symm
            · rw [if_neg hj]
              exact h12 j fun x hx => hj (h5 _ hx).1
          · exact List.pairwise_cons.2 ⟨fun q hq => hlt q hq, hs⟩
          · intro q hq
            simp at hq
            rcases hq with rfl | hq
            · exact Nat.lt_succ_self _
            · exact up q hq
        | succ n =>
          have hn : n = 0 := by omega
          subst hn
          rw [hc] at h1
          have h1' : goA (evAR P o.op T) (fun x mk => forceNat (Nat.add base s.i) fun b => hset s.h b (some x) (fun h => dstK o.dst (mk b) T fun T' => ih T' ⟨Nat.succ s.i, h, s.hs, s.os, s.i :: s.ns⟩) (.no 108)) = .ok r := h1
          obtain ⟨x, mk, h2, h3⟩ := goA_ok h1'
          rw [forceNat_eq] at h3
          obtain ⟨h', h4, h5, h6, h7⟩ := hset_ok h3
          obtain ⟨T1, h8, h9⟩ := dstK_set h4
          subst hsi
          exact ⟨⟨T, s, mk (base + s.i), 4, x, mk⟩, T1, ⟨Nat.succ s.i, h', s.hs, s.os, s.i :: s.ns⟩, rfl, rfl, ⟨rfl, .inr (.inr (.inr (.inr ⟨rfl, hw, hc, h2, rfl, h5, h6, h7, rfl, rfl, rfl⟩)))⟩, h9, h8, hs, up⟩
  · obtain ⟨T1, h2, h3⟩ := dstK_set h1
    exact ⟨⟨T, s, .tup [], 0, .siter 0 0 0, fun _ => .junk⟩, T1, ⟨Nat.succ s.i, s.h, s.hs, s.os, s.ns⟩, rfl, rfl, ⟨by rw [← hsi], .inl ⟨rfl, hw, rfl, rfl, rfl, rfl, rfl⟩⟩, h3, h2, hs, up⟩
theorem draw_trace {F : CallF} {all : List Oper} {base : Nat} {K : Tm → H → R γ} {r : γ} : ∀ {ops : List Oper} {i : Nat} {T : Tm} {s : DS}, all.drop i = ops → s.i = i → s.hs.Pairwise (fun a b => b.1 < a.1) → (∀ p ∈ s.hs, p.1 < i) →
    drawOps P F all base ops T s K = .ok r → ∃ tr : Nat → Rec, (tr i).T = T ∧ (tr i).s = s ∧ (∀ j, i ≤ j → j < i + ops.length → StageAt P F all base tr j) ∧ K (tr (i + ops.length)).T (tr (i + ops.length)).s.h = .ok r
  | [], i, T, s, _, hsi, _, _, h0 => ⟨fun _ => ⟨T, s, .junk, 0, .siter 0 0 0, fun _ => .junk⟩, rfl, rfl, fun j h1 h2 => (by simp at h2; omega), h0⟩
  | o :: ops, i, T, s, hdrop, hsi, hs, hlt, h0 => by
    have hi : all[i]? = some o := by
      have := congrArg (·[0]?) hdrop
      simpa [List.getElem?_drop] using this
    have hnext : all.drop (i + 1) = ops := by
      have := congrArg List.tail hdrop
      simpa [List.tail_drop] using this
    rw [drawOps_cons] at h0
    obtain ⟨rc, T1, s1, rfl, rfl, h3, h4, h5, h6, h7⟩ := draw_step (P := P) hsi hs hlt h0
    obtain ⟨tr, q1, q2, q3, q4⟩ := draw_trace hnext h3.1 h6 h7 h5
    have hne : i + 1 ≠ i := by omega
    refine ⟨fun j => if j = i then rc else tr j, by simp, by simp, fun j h8 h9 => ?_, ?_⟩
    · by_cases hj : j = i
      · subst hj
        exact ⟨o, hi, by simp only [if_true, if_neg hne, q2]; exact h3, by simp only [if_true, if_neg hne, q1]; exact h4⟩
      · have := q3 j (by omega) (by simp at h9; omega)
        unfold StageAt
        simp only [if_neg hj, if_neg (show j + 1 ≠ i by omega)]
        exact this
    · have e : i + (o :: ops).length = i + 1 + ops.length := by simp; omega
      rw [e]
      simp only [if_neg (show i + 1 + ops.length ≠ i by omega)]
      exact q4
end
end Go.Ev
namespace Go.Ev
open Go
open Classical
section
variable {P : Program} {ξ : Nat → Value} {γ : Type}
abbrev Fm := Nat → Option Blk
/-- Rep, of a heap that is a function -/
structure RepF (P : Program) (ξ : Nat → Value) (G : Gh) (nx : Nat) (f : Fm) (w : World) : Prop where
  len : G.length = nx
  lt : ∀ (b : Nat) (g : GB), G[b]? = some (some g) → g.addr < w.heap.size
  blk : ∀ (b : Nat) (x : Blk), f b = some x → ∃ (g : GB) (o : Obj), G[b]? = some (some g) ∧ w.heap[g.addr]? = some o ∧ BRep P ξ G g x o
  inj : ∀ (b b' : Nat) (x x' : Blk) (g g' : GB), f b = some x → f b' = some x' → G[b]? = some (some g) → G[b']? = some (some g') → g.addr = g'.addr → b = b'
def WrF (G : Gh) (f : Fm) (r : Nat) : Prop := ∃ (b : Nat) (x : Blk) (g : GB), f b = some x ∧ x.wr ∧ G[b]? = some (some g) ∧ g.addr = r
def KnF (G : Gh) (f : Fm) (r : Nat) : Prop := ∃ (b : Nat) (x : Blk) (g : GB), f b = some x ∧ G[b]? = some (some g) ∧ g.addr = r
structure StepF (G : Gh) (f : Fm) (w : World) (G' : Gh) (f' : Fm) (w' : World) : Prop where
  os : w'.os = w.os
  tape : w'.tape = w.tape
  output : w'.output = w.output
  size : w.heap.size ≤ w'.heap.size
  keep : ∀ r, r < w.heap.size → ¬ WrF G f r → w'.heap[r]? = w.heap[r]?
  wr : ∀ r, r < w.heap.size → WrF G' f' r → WrF G f r
  kn : ∀ r, r < w.heap.size → KnF G' f' r → KnF G f r
  pre : ∃ E, G' = G ++ E
theorem StepF.le {G G' : Gh} {f f' : Fm} {w w' : World} (s : StepF G f w G' f' w') : Le G G' := by obtain ⟨E, rfl⟩ := s.pre; exact Le.append G E
theorem StepF.trans {A B C : Gh} {a b c : Fm} {u v w : World} (s : StepF A a u B b v) (t : StepF B b v C c w) : StepF A a u C c w :=
  ⟨t.os.trans s.os, t.tape.trans s.tape, t.output.trans s.output, Nat.le_trans s.size t.size,
   fun r hr hn => (t.keep r (Nat.lt_of_lt_of_le hr s.size) (fun hw => hn (s.wr r hr hw))).trans (s.keep r hr hn),
   fun r hr hw => s.wr r hr (t.wr r (Nat.lt_of_lt_of_le hr s.size) hw),
   fun r hr hw => s.kn r hr (t.kn r (Nat.lt_of_lt_of_le hr s.size) hw),
   by obtain ⟨E, rfl⟩ := s.pre; obtain ⟨F, rfl⟩ := t.pre; exact ⟨E ++ F, by simp⟩⟩
theorem StepF.refl (G : Gh) (f : Fm) (w : World) : StepF G f w G f w := ⟨rfl, rfl, rfl, Nat.le_refl _, fun _ _ _ => rfl, fun _ _ h => h, fun _ _ h => h, [], by simp⟩
theorem RepF.rep {G : Gh} {f : Fm} {w : World} {h : H} (R : RepF P ξ G h.next f w) (hf : ∀ b, h.get b = f b) : Rep P ξ G h w :=
  ⟨R.len, R.lt, fun b x hx => R.blk b x (by rw [← hf]; exact hx), fun b b' x x' g g' h1 h2 => R.inj b b' x x' g g' (by rw [← hf]; exact h1) (by rw [← hf]; exact h2)⟩
theorem Rep.toF {G : Gh} {w : World} {h : H} (R : Rep P ξ G h w) : RepF P ξ G h.next h.get w := ⟨R.len, R.lt, R.blk, R.inj⟩
theorem StepF.step {G G' : Gh} {h h' : H} {w w' : World} (s : StepF G h.get w G' h'.get w') : Step G h w G' h' w' := ⟨s.os, s.tape, s.output, s.size, s.keep, s.wr, s.kn, s.pre⟩
theorem RepF.drew {G : Gh} {nx : Nat} {f : Fm} {w : World} (R : RepF P ξ G nx f w) (n : Nat) : RepF P ξ G nx f { w with drawn := n } := ⟨R.len, R.lt, R.blk, R.inj⟩
theorem StepF.drew (G : Gh) (f : Fm) (w : World) (n : Nat) : StepF G f w G f { w with drawn := n } := ⟨rfl, rfl, rfl, Nat.le_refl _, fun _ _ _ => rfl, fun _ _ h => h, fun _ _ h => h, [], by simp⟩
theorem le_get {G G' : Gh} (hl : Le G G') {b : Nat} {g g' : GB} (h : G[b]? = some (some g)) (h' : G'[b]? = some (some g')) : g' = g := by
  have := hl.2 _ _ h
  rw [this] at h'
  simpa using h'.symm
/-- a step of what does not see the blocks of Z -/
theorem hide_step {G G' : Gh} {nx : Nat} {f : Fm} {Z : Nat → Prop} {h0 h1 : H} {w w' : World} (R : RepF P ξ G nx f w) (hz : ∀ b, h0.get b = if Z b then none else f b) (R1 : Rep P ξ G' h1 w') (S : Step G h0 w G' h1 w')
    (hZ : ∀ b, Z b → (∃ x, f b = some x) ∨ G[b]? = some none) :
    (∀ b, Z b → h1.get b = none) ∧ RepF P ξ G' h1.next (fun b => if Z b then f b else h1.get b) w' ∧ StepF G f w G' (fun b => if Z b then f b else h1.get b) w' := by
  have hle : Le G G' := S.le
  have hsub : ∀ b x, h0.get b = some x → f b = some x ∧ ¬ Z b := fun b x hb => by
    rw [hz] at hb
    split at hb
    · cases hb
    · exact ⟨hb, by assumption⟩
  -- an address of a hidden block is no known one
  have hid : ∀ b x g, Z b → f b = some x → G[b]? = some (some g) → ¬ Kn G h0 g.addr := by
    rintro b x g hb hf hg ⟨b', x', g', q1, q2, q3⟩
    obtain ⟨q4, q5⟩ := hsub _ _ q1
    have := R.inj b' b x' x g' g q4 hf q2 hg q3
    subst this
    exact q5 hb
  have hw0 : ∀ r, Wr G h0 r → Kn G h0 r := fun r ⟨b, x, g, q1, _, q3, q4⟩ => ⟨b, x, g, q1, q3, q4⟩
  have hwF : ∀ r, Wr G h0 r → WrF G f r := fun r ⟨b, x, g, q1, q2, q3, q4⟩ => ⟨b, x, g, (hsub _ _ q1).1, q2, q3, q4⟩
  have hkF : ∀ r, Kn G h0 r → KnF G f r := fun r ⟨b, x, g, q1, q3, q4⟩ => ⟨b, x, g, (hsub _ _ q1).1, q3, q4⟩
  have none1 : ∀ b, Z b → h1.get b = none := by
    intro b hb
    cases hx : h1.get b with
    | none => rfl
    | some x =>
      obtain ⟨g', o, q1, q2, q3⟩ := R1.blk b x hx
      rcases hZ b hb with ⟨y, hy⟩ | hy
      · obtain ⟨g, o', p1, p2, p3⟩ := R.blk b y hy
        have := le_get hle p1 q1
        subst this
        exact absurd (S.kn _ (R.lt _ _ p1) ⟨b, x, g', hx, q1, rfl⟩) (hid b y g' hb hy p1)
      · obtain ⟨E, rfl⟩ := S.pre
        rw [List.getElem?_append_left (List.getElem?_eq_some_iff.1 hy).1, hy] at q1
        cases q1
  have gcase : ∀ b x g', Z b → f b = some x → G'[b]? = some (some g') → G[b]? = some (some g') := fun b x g' hb hx hg' => by
    obtain ⟨g, o', p1, p2, p3⟩ := R.blk b x hx
    rw [le_get hle p1 hg']
    exact p1
  refine ⟨none1, ⟨R1.len, R1.lt, fun b x hx => ?_, fun b b' x x' g g' hb hb' hg hg' ha => ?_⟩, ⟨S.os, S.tape, S.output, S.size, fun r hr hn => S.keep r hr fun hw => hn (hwF r hw), fun r hr hw => ?_, fun r hr hw => ?_, S.pre⟩⟩
  · by_cases hb : Z b
    · simp only [if_pos hb] at hx
      obtain ⟨g, o, p1, p2, p3⟩ := R.blk b x hx
      exact ⟨g, o, hle.2 _ _ p1, by rw [S.keep _ (R.lt _ _ p1) fun hw => hid b x g hb hx p1 (hw0 _ hw)]; exact p2, p3.mono hle⟩
    · simp only [if_neg hb] at hx
      exact R1.blk b x hx
  · by_cases z : Z b <;> by_cases z' : Z b'
    · simp only [if_pos z] at hb
      simp only [if_pos z'] at hb'
      exact R.inj b b' x x' g g' hb hb' (gcase _ _ _ z hb hg) (gcase _ _ _ z' hb' hg') ha
    · simp only [if_pos z] at hb
      simp only [if_neg z'] at hb'
      have p := gcase _ _ _ z hb hg
      exact absurd (S.kn _ (R.lt _ _ p) ⟨b', x', g', hb', hg', ha.symm⟩) (hid b x g z hb p)
    · simp only [if_neg z] at hb
      simp only [if_pos z'] at hb'
      have p := gcase _ _ _ z' hb' hg'
      exact absurd (S.kn _ (R.lt _ _ p) ⟨b, x, g, hb, hg, ha⟩) (hid b' x' g' z' hb' p)
    · simp only [if_neg z] at hb
      simp only [if_neg z'] at hb'
      exact R1.inj b b' x x' g g' hb hb' hg hg' ha
  · obtain ⟨b, x, g, q1, q2, q3, q4⟩ := hw
    by_cases z : Z b
    · simp only [if_pos z] at q1
      exact ⟨b, x, g, q1, q2, gcase _ _ _ z q1 q3, q4⟩
    · simp only [if_neg z] at q1
      exact hwF r (S.wr r hr ⟨b, x, g, q1, q2, q3, q4⟩)
  · obtain ⟨b, x, g, q1, q3, q4⟩ := hw
    by_cases z : Z b
    · simp only [if_pos z] at q1
      exact ⟨b, x, g, q1, gcase _ _ _ z q1 q3, q4⟩
    · simp only [if_neg z] at q1
      exact hkF r (S.kn r hr ⟨b, x, g, q1, q3, q4⟩)
/-- a block laid at a place that was kept -/
theorem fill_step {G0 G : Gh} {f0 f : Fm} {w0 w : World} {nx b0 d : Nat} {g : GB} {x : Blk} {obj : Obj} (R : RepF P ξ G nx f w) (S : StepF G0 f0 w0 G f w) (hG : G[b0]? = some none) (hlen : G0.length ≤ b0) (hg : g.addr = w.heap.size) (hB : BRep P ξ G g x obj) :
    Le G (G.set b0 (some g)) ∧ (G.set b0 (some g))[b0]? = some (some g) ∧ RepF P ξ (G.set b0 (some g)) nx (fun b => if b = b0 then some x else f b) { w with heap := w.heap.push obj, drawn := d } ∧
      StepF G0 f0 w0 (G.set b0 (some g)) (fun b => if b = b0 then some x else f b) { w with heap := w.heap.push obj, drawn := d } := by
  have hlt : b0 < G.length := (List.getElem?_eq_some_iff.1 hG).1
  have hget : ∀ b, (G.set b0 (some g))[b]? = if b = b0 then some (some g) else G[b]? := fun b => by
    rw [List.getElem?_set]
    by_cases hb : b0 = b
    · subst hb; rw [if_pos rfl, if_pos rfl, if_pos hlt]
    · rw [if_neg hb, if_neg (fun e => hb e.symm)]
  have hle : Le G (G.set b0 (some g)) := ⟨by simp, fun b g' hb => by
    rw [hget, if_neg]
    · exact hb
    · rintro rfl
      rw [hG] at hb; cases hb⟩
  have hpush : ∀ r, r < w.heap.size → (w.heap.push obj)[r]? = w.heap[r]? := fun r hr => by rw [Array.getElem?_push, if_neg (by omega)]
  have hf : ∀ b, f b ≠ none → b ≠ b0 := fun b hb e => by
    subst e
    cases hx : f b with
    | none => exact hb hx
    | some y =>
      obtain ⟨g', o, q1, _⟩ := R.blk b y hx
      rw [hG] at q1; cases q1
  refine ⟨hle, by rw [hget, if_pos rfl], ⟨by simp [R.len], fun b g' hb => ?_, fun b y hy => ?_, fun b b' y y' g1 g2 h1 h2 h3 h4 h5 => ?_⟩, ⟨S.os, S.tape, S.output, Nat.le_trans S.size (by simp), fun r hr hn => ?_, fun r hr hw => ?_, fun r hr hw => ?_, ?_⟩⟩
  · rw [hget] at hb
    simp only [Array.size_push]
    split at hb
    · simp at hb; subst hb; omega
    · have := R.lt b g' hb; omega
  · by_cases hb : b = b0
    · subst hb
      simp only [if_true] at hy
      cases hy
      exact ⟨g, obj, by rw [hget, if_pos rfl], by rw [hg]; simp, hB.mono hle⟩
    · simp only [if_neg hb] at hy
      obtain ⟨g', o, q1, q2, q3⟩ := R.blk b y hy
      exact ⟨g', o, hle.2 _ _ q1, (hpush _ (R.lt _ _ q1)).trans q2, q3.mono hle⟩
  · rw [hget] at h3 h4
    by_cases hb : b = b0 <;> by_cases hb' : b' = b0
    · exact hb.trans hb'.symm
    · rw [if_pos hb] at h3
      rw [if_neg hb'] at h4
      simp at h3; subst h3
      have := R.lt _ _ h4; omega
    · rw [if_neg hb] at h3
      rw [if_pos hb'] at h4
      simp at h4; subst h4
      have := R.lt _ _ h3; omega
    · simp only [if_neg hb] at h1 h3
      simp only [if_neg hb'] at h2 h4
      exact R.inj b b' y y' g1 g2 h1 h2 h3 h4 h5
  · exact (hpush r (Nat.lt_of_lt_of_le hr S.size)).trans (S.keep r hr hn)
  · obtain ⟨b, y, g', q1, q2, q3, q4⟩ := hw
    rw [hget] at q3
    by_cases hb : b = b0
    · rw [if_pos hb] at q3
      simp at q3; subst q3
      have := S.size; omega
    · simp only [if_neg hb] at q1 q3
      exact S.wr r hr ⟨b, y, g', q1, q2, q3, q4⟩
  · obtain ⟨b, y, g', q1, q3, q4⟩ := hw
    rw [hget] at q3
    by_cases hb : b = b0
    · rw [if_pos hb] at q3
      simp at q3; subst q3
      have := S.size; omega
    · simp only [if_neg hb] at q1 q3
      exact S.kn r hr ⟨b, y, g', q1, q3, q4⟩
  · obtain ⟨E, rfl⟩ := S.pre
    exact ⟨E.set (b0 - G0.length) (some g), by rw [List.set_append_right _ _ hlen]⟩
end
end Go.Ev
namespace Go.Ev
open Go
open Classical
/-! the interpreter's stages: what they hold -/
section
variable {P : Program} {F : CallF} {all : List Oper} {base : Nat} {tr : Nat → Rec}
structure Tr (P : Program) (F : CallF) (all : List Oper) (base : Nat) (tr : Nat → Rec) : Prop where
  st : ∀ j, j < all.length → StageAt P F all base tr j
  hs : (tr 0).s.hs = []
  ns : (tr 0).s.ns = []
  ok : regOk all = true
theorem Tr.kinds (t : Tr P F all base tr) {i : Nat} (hi : i < all.length) : ∃ o, all[i]? = some o ∧ StageOk P F all base i o (tr i) (tr (i + 1)).s := by
  obtain ⟨o, h1, h2, _⟩ := t.st i hi
  exact ⟨o, h1, h2⟩
theorem Tr.hs_ok (t : Tr P F all base tr) : ∀ {i : Nat}, i ≤ all.length → (∀ p ∈ (tr i).s.hs, p.1 < i ∧ (tr p.1).kind = 3 ∧ p.2 = (tr p.1).s.h) ∧ (∀ j, j < i → (tr j).kind = 3 → (j, (tr j).s.h) ∈ (tr i).s.hs) ∧ (tr i).s.hs.Pairwise (fun a b => b.1 < a.1)
  | 0, _ => by rw [t.hs]; exact ⟨fun p hp => (by cases hp), fun j hj => (by omega), .nil⟩
  | i + 1, hi => by
    obtain ⟨h1, h2, h3⟩ := t.hs_ok (i := i) (by omega)
    obtain ⟨o, ho, _, hk⟩ := t.kinds (i := i) (by omega)
    have same : (tr i).kind ≠ 3 → (tr (i + 1)).s.hs = (tr i).s.hs → (∀ p ∈ (tr (i + 1)).s.hs, p.1 < i + 1 ∧ (tr p.1).kind = 3 ∧ p.2 = (tr p.1).s.h) ∧ (∀ j, j < i + 1 → (tr j).kind = 3 → (j, (tr j).s.h) ∈ (tr (i + 1)).s.hs) ∧ (tr (i + 1)).s.hs.Pairwise (fun a b => b.1 < a.1) := by
      intro hk he
      rw [he]
      refine ⟨fun p hp => ⟨by have := (h1 p hp).1; omega, (h1 p hp).2⟩, fun j hj hj3 => h2 j ?_ hj3, h3⟩
      rcases Nat.lt_or_ge j i with h | h
      · exact h
      · have : j = i := by omega
        subst this; exact absurd hj3 hk
    rcases hk with ⟨k, _, _, _, e, _, _⟩ | ⟨k, _, _, _, _, e, _, _⟩ | ⟨k, _, _, _, _, _, e, _, _⟩ | ⟨k, _, _, _, _, e, _, _⟩ | ⟨k, _, _, _, _, _, _, _, e, _, _⟩
    · exact same (by omega) e
    · exact same (by omega) e
    · exact same (by omega) e
    · rw [e]
      refine ⟨fun p hp => ?_, fun j hj hj3 => ?_, List.pairwise_cons.2 ⟨fun q hq => (h1 q hq).1, h3⟩⟩
      · simp at hp
        rcases hp with rfl | hp
        · exact ⟨Nat.lt_succ_self _, k, rfl⟩
        · exact ⟨by have := (h1 p hp).1; omega, (h1 p hp).2⟩
      · rcases Nat.lt_or_ge j i with h | h
        · simp [h2 j h hj3]
        · have : j = i := by omega
          subst this; simp
    · exact same (by omega) e
theorem Tr.ns_ok (t : Tr P F all base tr) : ∀ {i : Nat}, i ≤ all.length → ∀ m, m ∈ (tr i).s.ns ↔ m < i ∧ (tr m).kind = 4
  | 0, _, m => by rw [t.ns]; simp
  | i + 1, hi, m => by
    have ih := t.ns_ok (i := i) (by omega) m
    obtain ⟨o, ho, _, hk⟩ := t.kinds (i := i) (by omega)
    have same : (tr i).kind ≠ 4 → (tr (i + 1)).s.ns = (tr i).s.ns → (m ∈ (tr (i + 1)).s.ns ↔ m < i + 1 ∧ (tr m).kind = 4) := by
      intro hk he
      rw [he, ih]
      constructor
      · rintro ⟨a, b⟩; exact ⟨by omega, b⟩
      · rintro ⟨a, b⟩
        rcases Nat.lt_or_ge m i with h | h
        · exact ⟨h, b⟩
        · have : m = i := by omega
          subst this; exact absurd b hk
    rcases hk with ⟨k, _, _, _, _, _, e⟩ | ⟨k, _, _, _, _, _, _, e⟩ | ⟨k, _, _, _, _, _, _, _, e⟩ | ⟨k, _, _, _, _, _, e, _⟩ | ⟨k, _, _, _, _, _, _, _, _, _, e⟩
    · exact same (by omega) e
    · exact same (by omega) e
    · exact same (by omega) e
    · exact same (by omega) e
    · rw [e, List.mem_cons, ih]
      constructor
      · rintro (rfl | ⟨a, b⟩)
        · exact ⟨Nat.lt_succ_self _, k⟩
        · exact ⟨by omega, b⟩
      · rintro ⟨a, b⟩
        rcases Nat.lt_or_ge m i with h | h
        · exact .inr ⟨h, b⟩
        · exact .inl (by omega)
theorem Tr.os_ok (t : Tr P F all base tr) {j : Nat} {o : Oper} (hj : all[j]? = some o) (hk : (tr j).kind = 2) : ∀ {i : Nat}, i ≤ all.length → j < i → (∀ w, j < w → w < i → (tr w).kind = 3 → reach all w w j = false) → (j, o, (tr j).T, (tr j).v) ∈ (tr i).s.os
  | 0, _, h, _ => by omega
  | i + 1, hi, hji, hw => by
    obtain ⟨o', ho', _, hk'⟩ := t.kinds (i := i) (by omega)
    by_cases hjeq : j = i
    · subst hjeq
      rw [hj] at ho'
      cases ho'
      rcases hk' with ⟨k, _⟩ | ⟨k, _⟩ | ⟨k, _, _, _, _, _, _, e, _⟩ | ⟨k, _⟩ | ⟨k, _⟩
      · omega
      · omega
      · rw [e]; simp
      · omega
      · omega
    · have ih := t.os_ok hj hk (i := i) (by omega) (by omega) fun w h1 h2 => hw w h1 (by omega)
      rcases hk' with ⟨k, _, _, _, _, e, _⟩ | ⟨k, _, _, _, _, _, e, _⟩ | ⟨k, _, _, _, _, _, _, e, _⟩ | ⟨k, _, _, _, _, _, _, e⟩ | ⟨k, _, _, _, _, _, _, _, _, e, _⟩
      · rw [e]; exact ih
      · rw [e]; exact ih
      · rw [e]; simp [ih]
      · exact (e _ ih (hw i (by omega) (by omega) k)).1
      · rw [e]; exact ih
/-- between two writers: blocks are laid, and that is all -/
theorem Tr.flat (t : Tr P F all base tr) {s : Nat} : ∀ {s' : Nat}, s ≤ s' → s' ≤ all.length → (∀ j, s ≤ j → j < s' → (tr j).kind ≠ 3) →
    (tr s').s.h.next = (tr s).s.h.next ∧ (tr s').s.h.ds = (tr s).s.h.ds ∧ (∀ j, s ≤ j → j < s' → (tr j).kind = 4 → (tr s').s.h.get (base + j) = some (tr j).x) ∧
    ∀ b, (∀ j, s ≤ j → j < s' → (tr j).kind = 4 → b ≠ base + j) → (tr s').s.h.get b = (tr s).s.h.get b
  | 0, h1, _, _ => by
    have : s = 0 := by omega
    subst this
    exact ⟨rfl, rfl, fun j _ h => (by omega), fun b _ => rfl⟩
  | s' + 1, h1, h2, h3 => by
    by_cases he : s = s' + 1
    · subst he
      exact ⟨rfl, rfl, fun j _ h => (by omega), fun b _ => rfl⟩
    obtain ⟨q1, q2, q3, q4⟩ := t.flat (s := s) (s' := s') (by omega) (by omega) fun j a b => h3 j a (by omega)
    obtain ⟨o, ho, _, hk⟩ := t.kinds (i := s') (by omega)
    have hn3 := h3 s' (by omega) (by omega)
    have same : (tr s').kind ≠ 4 → (tr (s' + 1)).s.h = (tr s').s.h → (tr (s' + 1)).s.h.next = (tr s).s.h.next ∧ (tr (s' + 1)).s.h.ds = (tr s).s.h.ds ∧ (∀ j, s ≤ j → j < s' + 1 → (tr j).kind = 4 → (tr (s' + 1)).s.h.get (base + j) = some (tr j).x) ∧
        ∀ b, (∀ j, s ≤ j → j < s' + 1 → (tr j).kind = 4 → b ≠ base + j) → (tr (s' + 1)).s.h.get b = (tr s).s.h.get b := by
      intro hk he
      rw [he]
      refine ⟨q1, q2, fun j a b c => q3 j a ?_ c, fun b hb => q4 b fun j a c d => hb j a (by omega) d⟩
      rcases Nat.lt_or_ge j s' with h | h
      · exact h
      · have : j = s' := by omega
        subst this; exact absurd c hk
    rcases hk with ⟨k, _, _, e, _⟩ | ⟨k, _, _, _, e, _⟩ | ⟨k, _, _, _, _, e, _⟩ | ⟨k, _⟩ | ⟨k, _, _, _, _, e1, e2, e3, _⟩
    · exact same (by omega) e
    · exact same (by omega) e
    · exact same (by omega) e
    · exact absurd k hn3
    · refine ⟨e1.trans q1, e2.trans q2, fun j a b c => ?_, fun b hb => ?_⟩
      · rw [e3]
        by_cases hj : j = s'
        · subst hj; rw [if_pos rfl]
        · rw [if_neg (by omega)]
          exact q3 j a (by omega) c
      · rw [e3, if_neg (hb s' (by omega) (by omega) k)]
        exact q4 b fun j a c d => hb j a (by omega) d
/-- a block that was laid stands as long as no writer waits for it -/
theorem Tr.stays (t : Tr P F all base tr) {j : Nat} (hk : (tr j).kind = 4) : ∀ {s : Nat}, s ≤ all.length → j < s → (∀ w, j < w → w < s → (tr w).kind = 3 → reach all w w j = false) → (tr s).s.h.get (base + j) = some (tr j).x
  | 0, _, h, _ => by omega
  | s + 1, hs, hj, hw => by
    obtain ⟨o, ho, _, hk'⟩ := t.kinds (i := s) (by omega)
    by_cases he : j = s
    · subst he
      rcases hk' with ⟨k, _⟩ | ⟨k, _⟩ | ⟨k, _⟩ | ⟨k, _⟩ | ⟨k, _, _, _, _, e1, e2, e3, _⟩
      · omega
      · omega
      · omega
      · omega
      · rw [e3, if_pos rfl]
    · have ih := t.stays hk (s := s) (by omega) (by omega) fun w a b c => hw w a (by omega) c
      rcases hk' with ⟨k, _, _, e, _⟩ | ⟨k, _, _, _, e, _⟩ | ⟨k, _, _, _, _, e, _⟩ | ⟨k, _, _, ⟨h0, h1, _, _, _, _, e⟩, _⟩ | ⟨k, _, _, _, _, e1, e2, e3, _⟩
      · rw [e]; exact ih
      · rw [e]; exact ih
      · rw [e]; exact ih
      · rw [e, if_pos ⟨j, (t.ns_ok (by omega) j).2 ⟨by omega, hk⟩, hw s (by omega) (by omega) k, rfl⟩]
        exact ih
      · rw [e3, if_neg (by omega)]; exact ih

/-! temporaries -/
def setO (T : Tm) (d : Option Nat) (v : V) : Tm := match d with
  | none => T
  | some d => T.modify (d / 8) (·.set (d % 8) v)
theorem setO_get (T : Tm) (d : Option Nat) (v : V) (t : Nat) : tgetP (setO T d v) t = if d = some t then (tgetP T t).map (fun _ => v) else tgetP T t := by
  cases d with
  | none => rfl
  | some d =>
    show ((T.modify (d / 8) (·.set (d % 8) v))[t / 8]?).bind (·[t % 8]?) = if some d = some t then ((T[t / 8]?).bind (·[t % 8]?)).map (fun _ => v) else (T[t / 8]?).bind (·[t % 8]?)
    rw [List.getElem?_modify]
    cases hl : T[t / 8]? with
    | none => simp
    | some l =>
      show (if d / 8 = t / 8 then l.set (d % 8) v else l)[t % 8]? = if some d = some t then (l[t % 8]?).map (fun _ => v) else l[t % 8]?
      by_cases h1 : d / 8 = t / 8
      · rw [if_pos h1]
        show (l.set (d % 8) v)[t % 8]? = _
        rw [List.getElem?_set]
        by_cases h2 : d % 8 = t % 8
        · have : d = t := by omega
          subst this
          rw [if_pos rfl, if_pos rfl]
          by_cases h3 : d % 8 < l.length
          · rw [if_pos h3, List.getElem?_eq_getElem h3]; rfl
          · rw [if_neg h3, List.getElem?_eq_none (by omega)]; rfl
        · have : ¬ (some d : Option Nat) = some t := fun e => h2 (by cases e; rfl)
          rw [if_neg h2, if_neg this]
      · have : ¬ (some d : Option Nat) = some t := fun e => h1 (by cases e; rfl)
        rw [if_neg h1, if_neg this]
def dstA (all : List Oper) (i : Nat) : Option Tmp := (all[i]?).bind (·.dst)
noncomputable def tmAt (all : List Oper) (tr : Nat → Rec) (D : Nat → Prop) : Nat → Tm
  | 0 => (tr 0).T
  | j + 1 => if D j then setO (tmAt all tr D j) (dstA all j) (tr j).v else tmAt all tr D j
theorem tmAt_congr {D D' : Nat → Prop} {t : Nat} : ∀ {m : Nat}, (∀ j, j < m → dstA all j = some t → (D j ↔ D' j)) → tgetP (tmAt all tr D m) t = tgetP (tmAt all tr D' m) t
  | 0, _ => rfl
  | m + 1, h => by
    have ih := tmAt_congr (m := m) fun j hj => h j (by omega)
    have hm := h m (by omega)
    simp only [tmAt]
    by_cases hd : dstA all m = some t
    · have := hm hd
      by_cases hD : D m
      · rw [if_pos hD, if_pos (this.1 hD), setO_get, setO_get, if_pos hd, if_pos hd, ih]
      · rw [if_neg hD, if_neg (fun k => hD (this.2 k)), ih]
    · have e1 : tgetP (if D m then setO (tmAt all tr D m) (dstA all m) (tr m).v else tmAt all tr D m) t = tgetP (tmAt all tr D m) t := by
        split
        · rw [setO_get, if_neg hd]
        · rfl
      have e2 : tgetP (if D' m then setO (tmAt all tr D' m) (dstA all m) (tr m).v else tmAt all tr D' m) t = tgetP (tmAt all tr D' m) t := by
        split
        · rw [setO_get, if_neg hd]
        · rfl
      rw [e1, e2, ih]
theorem tmAt_some {D : Nat → Prop} {t : Nat} : ∀ {m : Nat}, (tgetP (tmAt all tr D m) t).isSome = (tgetP (tr 0).T t).isSome
  | 0 => rfl
  | m + 1 => by
    simp only [tmAt]
    split
    · rw [setO_get]
      split
      · rw [Option.isSome_map]; exact tmAt_some
      · exact tmAt_some
    · exact tmAt_some
theorem Tr.tm_all (t : Tr P F all base tr) {k : Nat} : ∀ {m : Nat}, m ≤ all.length → tgetP (tr m).T k = tgetP (tmAt all tr (fun _ => True) m) k
  | 0, _ => rfl
  | m + 1, hm => by
    obtain ⟨o, ho, _, hT⟩ := t.st m (by omega)
    have ih := t.tm_all (k := k) (m := m) (by omega)
    have hd : dstA all m = o.dst := by simp [dstA, ho]
    simp only [tmAt, if_true, setO_get, hd]
    unfold TSet at hT
    cases hdd : o.dst with
    | none => rw [hdd] at hT; rw [hT]; simpa using ih
    | some d =>
      rw [hdd] at hT
      obtain ⟨h1, h2⟩ := hT
      rw [h1]
      by_cases hk : k = d
      · subst hk
        rw [if_pos rfl, if_pos rfl, ← ih]
        obtain ⟨v, hv⟩ := Option.isSome_iff_exists.1 h2
        rw [hv]; rfl
      · rw [if_neg hk, if_neg (by simp; exact fun e => hk e.symm)]
        exact ih
theorem tmAt_stop {D : Nat → Prop} {i : Nat} (h : ∀ j, i ≤ j → ¬ D j) : ∀ {m : Nat}, i ≤ m → tmAt all tr D m = tmAt all tr D i
  | 0, hm => by
    have : i = 0 := by omega
    subst this; rfl
  | m + 1, hm => by
    by_cases he : i = m + 1
    · subst he; rfl
    · simp only [tmAt]
      rw [if_neg (h m (by omega))]
      exact tmAt_stop h (by omega)
theorem Tr.tm_lt (t : Tr P F all base tr) {i k : Nat} (hi : i ≤ all.length) : tgetP (tmAt all tr (fun j => j < i) all.length) k = tgetP (tr i).T k := by
  rw [tmAt_stop (D := fun j => j < i) (i := i) (fun j hj => (by omega)) hi, t.tm_all hi]
  exact tmAt_congr fun j hj _ => ⟨fun _ => trivial, fun _ => hj⟩
theorem tmAt_add {D : Nat → Prop} {i t : Nat} (hD : ¬ D i) : ∀ {m : Nat}, i < m → (dstA all i = some t → ∀ j, i < j → j < m → D j → dstA all j ≠ some t) →
    tgetP (tmAt all tr (fun j => D j ∨ j = i) m) t = if dstA all i = some t then (tgetP (tmAt all tr D m) t).map (fun _ => (tr i).v) else tgetP (tmAt all tr D m) t
  | 0, hm, _ => by omega
  | m + 1, hm, h => by
    by_cases he : m = i
    · subst he
      have e : tgetP (tmAt all tr (fun j => D j ∨ j = m) m) t = tgetP (tmAt all tr D m) t := tmAt_congr fun j hj _ => ⟨fun h => h.resolve_right (by omega), .inl⟩
      simp only [tmAt]
      rw [if_pos (.inr trivial), if_neg hD, setO_get, e]
    · have ih := tmAt_add hD (m := m) (t := t) (by omega) fun a j b c => h a j b (by omega)
      simp only [tmAt]
      by_cases hm' : D m
      · rw [if_pos (.inl hm'), if_pos hm', setO_get, setO_get, ih]
        by_cases hd : dstA all m = some t
        · have : dstA all i ≠ some t := fun e => h e m (by omega) (by omega) hm' hd
          rw [if_pos hd, if_pos hd, if_neg this, if_neg this]
        · rw [if_neg hd, if_neg hd]
      · rw [if_neg (by rintro (h | h); exact hm' h; exact he h), if_neg hm', ih]
end
end Go.Ev
namespace Go.Ev
open Go
open Classical
section
variable {P : Program} {F : CallF} {all : List Oper} {base : Nat} {tr : Nat → Rec} {ξ : Nat → Value} {D : Nat → Prop} {k i : Nat}
def Laid (all : List Oper) (tr : Nat → Rec) (base b : Nat) : Prop := ∃ j, j < all.length ∧ (tr j).kind = 4 ∧ b = base + j
/-- the heap, when just the operations of D are done, and the last writer among them stands ahead of k -/
noncomputable def heapD (all : List Oper) (tr : Nat → Rec) (base : Nat) (D : Nat → Prop) (k : Nat) : Fm := fun b =>
  if Laid all tr base b then (if D (b - base) then (if b - base < k then (tr k).s.h.get b else some (tr (b - base)).x) else none) else (tr k).s.h.get b
theorem heapD_laid {j : Nat} (hj : j < all.length) (hk : (tr j).kind = 4) : heapD all tr base D k (base + j) = if D j then (if j < k then (tr k).s.h.get (base + j) else some (tr j).x) else none := by
  have : Laid all tr base (base + j) := ⟨j, hj, hk, rfl⟩
  unfold heapD
  rw [if_pos this, Nat.add_sub_cancel_left]
theorem heapD_un {b : Nat} (h : ¬ Laid all tr base b) : heapD all tr base D k b = (tr k).s.h.get b := by unfold heapD; rw [if_neg h]
def LastK (all : List Oper) (tr : Nat → Rec) (D : Nat → Prop) (k : Nat) : Prop := k ≤ all.length ∧ (∀ j, j < all.length → D j → (tr j).kind = 3 → j < k) ∧ (k = 0 ∨ ∃ j, k = j + 1 ∧ D j ∧ (tr j).kind = 3)
def Down (all : List Oper) (D : Nat → Prop) : Prop := (∀ i, D i → i < all.length) ∧ ∀ i o, D i → all[i]? = some o → ∀ e ∈ o.after.toList, bindsAny e = true → D e.on
def Rdy (all : List Oper) (D : Nat → Prop) (i : Nat) : Prop := i < all.length ∧ ¬ D i ∧ ∀ o, all[i]? = some o → ∀ e ∈ o.after.toList, bindsAny e = true → D e.on
theorem regOk_spec (h : regOk all = true) {i : Nat} {o : Oper} (ho : all[i]? = some o) :
    (∀ e ∈ o.after.toList, bindsAny e = true → e.on < i) ∧ ∀ j, j < i → ∀ p, all[j]? = some p → clash all o p = true → reach all i i j = true := by
  unfold regOk at h
  have hi : i < all.length := (List.getElem?_eq_some_iff.1 ho).1
  have h1 := List.all_eq_true.1 h i (by simpa using hi)
  rw [ho] at h1
  simp only [Bool.and_eq_true, List.all_eq_true] at h1
  refine ⟨fun e he hb => ?_, fun j hj p hp hc => ?_⟩
  · have := h1.1 e he
    rw [hb] at this
    simp only [Bool.not_true, Bool.false_or] at this
    exact Nat.lt_of_succ_le (Nat.le_of_ble_eq_true this)
  · have := h1.2 j (by simpa using hj)
    rw [hp] at this
    simp only [hc, Bool.not_true, Bool.false_or] at this
    exact this
theorem reach_lt (h : regOk all = true) {n i j : Nat} (hr : reach all n i j = true) : j < i :=
  reach_done (D := fun x => x < i) (fun m o hm ho e he hb => Nat.lt_trans ((regOk_spec h ho).1 e he hb) hm) (fun o ho e he hb => (regOk_spec h ho).1 e he hb) hr
theorem rdy_reach (hD : Down all D) (hi : Rdy all D i) {n j : Nat} (h : reach all n i j = true) : D j := reach_done hD.2 hi.2.2 h
theorem down_reach (hD : Down all D) {m : Nat} (hm : D m) {n j : Nat} (h : reach all n m j = true) : D j := reach_done hD.2 (fun o ho => hD.2 m o hm ho) h
theorem Tr.head (t : Tr P F all base tr) {w : Nat} (hw : w < all.length) (hk : (tr w).kind = 3) : ∀ p l, (tr w).s.hs = p :: l → reach all w w p.1 = true := by
  obtain ⟨o, ho, _, hst⟩ := t.kinds hw
  rcases hst with ⟨k, _⟩ | ⟨k, _⟩ | ⟨k, _⟩ | ⟨k, _, h, _⟩ | ⟨k, _⟩
  · omega
  · omega
  · omega
  · exact h
  · omega
/-- ahead of a writer all writers -/
theorem wr_down (t : Tr P F all base tr) (hD : Down all D) : ∀ (w : Nat), D w → (tr w).kind = 3 → ∀ w', w' < w → (tr w').kind = 3 → D w' := by
  intro w
  induction w using Nat.strongRecOn with
  | ind w ih =>
    intro hw hk w' hlt hk'
    have hwn := hD.1 w hw
    obtain ⟨h1, h2, h3⟩ := t.hs_ok (i := w) (by omega)
    have hm := h2 w' hlt hk'
    cases hh : (tr w).s.hs with
    | nil => rw [hh] at hm; cases hm
    | cons p l =>
      have hp := down_reach hD hw (t.head hwn hk p l hh)
      have hpp := h1 p (by rw [hh]; simp)
      rw [hh] at hm h3
      rw [List.pairwise_cons] at h3
      simp at hm
      rcases hm with hm | hm
      · rw [← hm] at hp; exact hp
      · exact ih p.1 hpp.1 hp hpp.2.1 w' (h3.1 _ hm) hk'
theorem rdy_wr (t : Tr P F all base tr) (hD : Down all D) (hi : Rdy all D i) (hk : (tr i).kind = 3) {w' : Nat} (hlt : w' < i) (hk' : (tr w').kind = 3) : D w' := by
  have hin : i < all.length := hi.1
  obtain ⟨h1, h2, h3⟩ := t.hs_ok (i := i) (by omega)
  have hm := h2 w' hlt hk'
  cases hh : (tr i).s.hs with
  | nil => rw [hh] at hm; cases hm
  | cons p l =>
    have hp := rdy_reach hD hi (t.head hi.1 hk p l hh)
    have hpp := h1 p (by rw [hh]; simp)
    rw [hh] at hm h3
    rw [List.pairwise_cons] at h3
    simp at hm
    rcases hm with hm | hm
    · rw [← hm] at hp; exact hp
    · exact wr_down t hD p.1 hp hpp.2.1 w' (h3.1 _ hm) hk'
/-- what an operation that is ready looks at is as it was -/
theorem agree (t : Tr P F all base tr) (hD : Down all D) (hi : Rdy all D i) {o : Oper} (ho : all[i]? = some o) {x : Nat} (hx : x ∈ looks all o) : tgetP (tmAt all tr D all.length) x = tgetP (tr i).T x := by
  rw [← t.tm_lt (Nat.le_of_lt hi.1)]
  refine tmAt_congr fun j hj hd => ?_
  obtain ⟨p, hp⟩ : ∃ p, all[j]? = some p := ⟨all[j], by simp [hj]⟩
  have hpd : p.dst = some x := by simpa [dstA, hp] using hd
  have hhit : hits all p.dst o = true := by
    rw [hpd]
    exact List.any_eq_true.2 ⟨x, hx, Nat.beq_refl x⟩
  constructor
  · intro hDj
    rcases Nat.lt_trichotomy j i with h | h | h
    · exact h
    · subst h; exact absurd hDj hi.2.1
    · have hc : clash all p o = true := by unfold clash; rw [hhit]; rfl
      exact absurd (down_reach hD hDj ((regOk_spec t.ok hp).2 i h o ho hc)) hi.2.1
  · intro h
    have hc : clash all o p = true := by unfold clash; rw [hhit]; simp
    exact rdy_reach hD hi ((regOk_spec t.ok ho).2 j h p hp hc)
/-- the invariant -/
structure WInv (P : Program) (ξ : Nat → Value) (all : List Oper) (base : Nat) (tr : Nat → Rec) (G0 : Gh) (f0 : Fm) (w0 : World) (D : Nat → Prop) (k : Nat) (G : Gh) (a : Act) (w : World) : Prop where
  last : LastK all tr D k
  rep : RepF P ξ G (tr k).s.h.next (heapD all tr base D k) w
  step : StepF G0 f0 w0 G (heapD all tr base D k) w
  free : ∀ j, j < all.length → (tr j).kind = 4 → ¬ D j → G[base + j]? = some none
  non : ∀ j, k ≤ j → j < all.length → (tr j).kind = 4 → (tr k).s.h.get (base + j) = none
  tm : TDen P ξ G (tmAt all tr D all.length) a
  ds : DsDen ξ G (tr k).s.h.ds a.defers
theorem put_tm (t : Tr P F all base tr) (hD : Down all D) (hi : Rdy all D i) {o : Oper} (ho : all[i]? = some o) {G G' : Gh} {a : Act} {x : Value} (hT : TDen P ξ G (tmAt all tr D all.length) a) (hl : Le G G') (hx : Den ξ G' (tr i).v x) (ds : List Deferred) :
    TDen P ξ G' (tmAt all tr (fun j => D j ∨ j = i) all.length) (({ a with defers := ds } : Act).put o.dst x) := by
  have hd : dstA all i = o.dst := by simp [dstA, ho]
  have hadd : ∀ y, tgetP (tmAt all tr (fun j => D j ∨ j = i) all.length) y = if o.dst = some y then (tgetP (tmAt all tr D all.length) y).map (fun _ => (tr i).v) else tgetP (tmAt all tr D all.length) y := fun y => by
    rw [tmAt_add hi.2.1 hi.1, hd]
    intro hy j hij hj hDj hdj
    obtain ⟨p, hp⟩ : ∃ p, all[j]? = some p := ⟨all[j], by simp [hj]⟩
    have hpd : p.dst = some y := by simpa [dstA, hp] using hdj
    rw [hd] at hy
    have hc : clash all p o = true := by
      unfold clash
      rw [hpd, hy]
      simp [Nat.beq_refl]
    exact absurd (down_reach hD hDj ((regOk_spec t.ok hp).2 i hij o ho hc)) hi.2.1
  have hT' : TDen P ξ G' (tmAt all tr D all.length) ({ a with defers := ds } : Act) := ⟨(hT.mono hl).tmp, (hT.mono hl).glob⟩
  cases hdd : o.dst with
  | none =>
    refine ⟨fun y v hv => hT'.tmp y v ?_, hT'.glob⟩
    rw [hadd, hdd] at hv
    simpa using hv
  | some d =>
    obtain ⟨o', ho', _, hts⟩ := t.st i hi.1
    rw [ho] at ho'
    cases ho'
    unfold TSet at hts
    rw [hdd] at hts
    have hs : (tgetP (tmAt all tr D all.length) d).isSome = true := by
      rw [tmAt_some]
      have := hts.2
      rw [t.tm_all (Nat.le_of_lt hi.1), tmAt_some] at this
      exact this
    refine hT'.put (fun y => ?_) hs hx
    rw [hadd, hdd]
    by_cases hy : y = d
    · subst hy
      rw [if_pos rfl, if_pos rfl]
      obtain ⟨v, hv⟩ := Option.isSome_iff_exists.1 hs
      rw [hv]; rfl
    · rw [if_neg hy, if_neg (by simp; exact fun e => hy e.symm)]
theorem put_defers (a : Act) (d : Option Tmp) (x : Value) : (a.put d x).defers = a.defers := by cases d <;> rfl
theorem heap_same (h : (tr i).kind ≠ 4) : heapD all tr base (fun j => D j ∨ j = i) k = heapD all tr base D k := by
  funext b
  by_cases hb : Laid all tr base b
  · obtain ⟨j, hj, hk, rfl⟩ := hb
    rw [heapD_laid hj hk, heapD_laid hj hk]
    have : (D j ∨ j = i) ↔ D j := ⟨fun e => e.resolve_right (by rintro rfl; exact h hk), .inl⟩
    by_cases hd : D j
    · rw [if_pos hd, if_pos (.inl hd)]
    · rw [if_neg hd, if_neg (fun e => hd (this.1 e))]
  · rw [heapD_un hb, heapD_un hb]
theorem last_same (h : (tr i).kind ≠ 3) (hl : LastK all tr D k) : LastK all tr (fun j => D j ∨ j = i) k := by
  refine ⟨hl.1, fun j hj hd hk => hl.2.1 j hj (hd.resolve_right (by rintro rfl; exact h hk)) hk, ?_⟩
  rcases hl.2.2 with h1 | ⟨j, h1, h2, h3⟩
  · exact .inl h1
  · exact .inr ⟨j, h1, .inl h2, h3⟩
variable {G0 : Gh} {f0 : Fm} {w0 : World}
theorem WInv.plain (t : Tr P F all base tr) (hD : Down all D) (hi : Rdy all D i) {o : Oper} (ho : all[i]? = some o) {G : Gh} {a : Act} {w : World} {x : Value} (W : WInv P ξ all base tr G0 f0 w0 D k G a w) (h3 : (tr i).kind ≠ 3) (h4 : (tr i).kind ≠ 4) (hx : Den ξ G (tr i).v x) :
    WInv P ξ all base tr G0 f0 w0 (fun j => D j ∨ j = i) k G (a.put o.dst x) w :=
  ⟨last_same h3 W.last, by rw [heap_same h4]; exact W.rep, by rw [heap_same h4]; exact W.step, fun j hj hk hn => W.free j hj hk fun e => hn (.inl e), W.non, put_tm t hD hi ho W.tm (Le.refl G) hx a.defers, by rw [put_defers]; exact W.ds⟩
/-- of what a reader that is ready looks at nothing is missing, and nothing else -/
theorem sub_heap (t : Tr P F all base tr) {s m b : Nat} {h0 : H} {x : Blk} (hks : k ≤ s) (hs : s ≤ all.length) (hm : m ≤ all.length) (hnw : ∀ j, k ≤ j → j < s → (tr j).kind ≠ 3) (hms : ∀ j, (tr j).kind = 4 → m ≤ j → s ≤ j)
    (hr : ∀ j, reach all i i j = true → D j) (hnon : ∀ j, k ≤ j → j < all.length → (tr j).kind = 4 → (tr k).s.h.get (base + j) = none) (hh : Hides all i base (tr m).s.ns (tr s).s.h h0) (hx : h0.get b = some x) : heapD all tr base D k b = some x := by
  obtain ⟨f1, f2, f3, f4⟩ := t.flat hks hs hnw
  rw [hh.2.2] at hx
  split at hx
  · cases hx
  rename_i hnh
  have far : ∀ j, s ≤ j → j < all.length → (tr j).kind = 4 → (tr s).s.h.get (base + j) = none := fun j hj hjn hk => by
    rw [f4 (base + j) (fun j' h1 h2 h3 => by omega)]
    exact hnon j (by omega) hjn hk
  by_cases hb : Laid all tr base b
  · obtain ⟨j, hj, hk, rfl⟩ := hb
    cases hrj : reach all i i j with
    | true =>
      rw [heapD_laid hj hk, if_pos (hr j hrj)]
      by_cases hjk : j < k
      · rw [if_pos hjk, ← f4 (base + j) (fun j' h1 h2 h3 => by omega)]
        exact hx
      · rw [if_neg hjk]
        rcases Nat.lt_or_ge j s with h | h
        · rw [f3 j (by omega) h hk] at hx
          exact hx
        · rw [far j h hj hk] at hx; cases hx
    | false =>
      rcases Nat.lt_or_ge j m with h | h
      · exact absurd ⟨j, (t.ns_ok hm j).2 ⟨h, hk⟩, hrj, rfl⟩ hnh
      · rw [far j (hms j hk h) hj hk] at hx; cases hx
  · rw [heapD_un hb, ← f4 b (fun j' h1 h2 h3 e => hb ⟨j', by omega, h3, e⟩)]
    exact hx
theorem RepF.fits {G : Gh} {nx : Nat} {f : Fm} {w : World} {h0 : H} (R : RepF P ξ G nx f w) (hs : ∀ b x, h0.get b = some x → f b = some x) : Fits P ξ G h0 w := fun b g x hg hx => by
  obtain ⟨g', o, q1, q2, q3⟩ := R.blk b x (hs b x hx)
  rw [hg] at q1
  simp at q1
  subst q1
  exact ⟨o, q2, q3⟩
theorem least {p : Nat → Prop} : ∀ (n : Nat), p n → ∃ m, m ≤ n ∧ p m ∧ ∀ j, j < m → ¬ p j := by
  intro n
  induction n using Nat.strongRecOn with
  | ind n ih =>
    intro hn
    by_cases h : ∃ j, j < n ∧ p j
    · obtain ⟨j, h1, h2⟩ := h
      obtain ⟨m, q1, q2, q3⟩ := ih j h1 h2
      exact ⟨m, by omega, q2, q3⟩
    · exact ⟨n, Nat.le_refl _, hn, fun j hj hp => h ⟨j, hj, hp⟩⟩
/-- a reader that is ready: somewhere it was run on no more than what stands -/
theorem reader_at (t : Tr P F all base tr) (hD : Down all D) (hi : Rdy all D i) {o : Oper} (ho : all[i]? = some o) (hk2 : (tr i).kind = 2) {G : Gh} {a : Act} {w : World} (W : WInv P ξ all base tr G0 f0 w0 D k G a w) :
    ∃ h0 h', evR P F o.op (tr i).T h0 = .ok ((tr i).v, h') ∧ cls P o.op = 1 ∧ ∀ b x, h0.get b = some x → heapD all tr base D k b = some x := by
  have hin : i < all.length := hi.1
  obtain ⟨o', ho', _, hst⟩ := t.kinds hi.1
  rw [ho] at ho'
  cases ho'
  have hst2 : cls P o.op = 1 ∧ ReadsAs P F all base (tr i).s.ns i o (tr i).T (tr i).v (tr i).s.h ∧ (∀ p ∈ (tr i).s.hs, (∀ q ∈ (tr i).s.hs, p.1 ≤ q.1 → reach all i i q.1 = false) → ReadsAs P F all base (tr i).s.ns i o (tr i).T (tr i).v p.2) := by
    rcases hst with ⟨k, _⟩ | ⟨k, _⟩ | ⟨k, _, h1, h2, h3, _⟩ | ⟨k, _⟩ | ⟨k, _⟩
    · omega
    · omega
    · exact ⟨h1, h2, h3⟩
    · omega
    · omega
  obtain ⟨hc, hmain, hback⟩ := hst2
  have hr : ∀ j, reach all i i j = true → D j := fun j => rdy_reach hD hi
  have hfalse : ∀ j, ¬ D j → reach all i i j = false := fun j hj => by
    cases h : reach all i i j with
    | false => rfl
    | true => exact absurd (hr j h) hj
  by_cases hki : k ≤ i
  · by_cases hex : ∃ q, k ≤ q ∧ q < i ∧ (tr q).kind = 3
    · obtain ⟨q, hq⟩ := hex
      obtain ⟨m, _, ⟨m1, m2, m3⟩, m4⟩ := least (p := fun q => k ≤ q ∧ q < i ∧ (tr q).kind = 3) q hq
      have hmD : ¬ D m := fun h => by have := W.last.2.1 m (by omega) h m3; omega
      obtain ⟨p1, p2, p3⟩ := t.hs_ok (i := i) (by omega)
      have hmem := p2 m m2 m3
      obtain ⟨h0, h', e1, e2⟩ := hback _ hmem fun q hq hle => hfalse _ fun hDq => by
        obtain ⟨q1, q2, q3⟩ := p1 q hq
        rcases Nat.lt_or_ge m q.1 with hlt | hge
        · exact hmD (wr_down t hD q.1 hDq q2 m hlt m3)
        · have : q.1 = m := Nat.le_antisymm hge hle
          rw [this] at hDq; exact hmD hDq
      exact ⟨h0, h', e2, hc, fun b x hx => sub_heap t m1 (by omega) (by omega) (fun j h1 h2 h3 => m4 j h2 ⟨h1, by omega, h3⟩) (fun j hj h => by omega) hr W.non e1 hx⟩
    · obtain ⟨h0, h', e1, e2⟩ := hmain
      exact ⟨h0, h', e2, hc, fun b x hx => sub_heap t hki (by omega) (by omega) (fun j h1 h2 h3 => hex ⟨j, h1, h2, h3⟩) (fun j hj h => h) hr W.non e1 hx⟩
  · rcases W.last.2.2 with h | ⟨q, rfl, hqD, hq3⟩
    · omega
    · have hqn := hD.1 q hqD
      have hne : i ≠ q := by rintro rfl; omega
      have hno : ∀ w, D w → reach all w w i = false := fun w hw => by
        cases h : reach all w w i with
        | false => rfl
        | true => exact absurd (down_reach hD hw h) hi.2.1
      have hmem := t.os_ok ho hk2 (i := q) (by omega) (by omega) fun w h1 h2 h3 => hno w (wr_down t hD q hqD hq3 w h2 h3)
      obtain ⟨o2, ho2, _, hst2⟩ := t.kinds hqn
      have : ∀ p ∈ (tr q).s.os, reach all q q p.1 = false → p ∈ (tr (q + 1)).s.os ∧ ReadsAs P F all base (tr q).s.ns p.1 p.2.1 p.2.2.1 p.2.2.2 (tr (q + 1)).s.h := by
        rcases hst2 with ⟨k, _⟩ | ⟨k, _⟩ | ⟨k, _⟩ | ⟨k, _, _, _, _, _, _, h⟩ | ⟨k, _⟩
        · omega
        · omega
        · omega
        · exact h
        · omega
      obtain ⟨h0, h', e1, e2⟩ := (this _ hmem (hno q hqD)).2
      refine ⟨h0, h', e2, hc, fun b x hx => sub_heap t (Nat.le_refl _) (by omega) (m := q) (by omega) (fun j h1 h2 => by omega) (fun j hj h => ?_) hr W.non e1 hx⟩
      rcases Nat.lt_or_ge q j with h' | h'
      · exact h'
      · have : j = q := by omega
        subst this; omega
end
end Go.Ev
namespace Go.Ev
open Go
open Classical
section
variable {P : Program} {F : CallF} {all : List Oper} {base : Nat} {tr : Nat → Rec} {ξ : Nat → Value} {D : Nat → Prop} {k i : Nat} {G0 : Gh} {f0 : Fm} {w0 : World}
theorem same_of (t : Tr P F all base tr) (hD : Down all D) (hi : Rdy all D i) {o : Oper} (ho : all[i]? = some o) {x : Operand} (hx : x ∈ o.op.operands.toList) : SameAt (tmAt all tr D all.length) (tr i).T x := fun y hy =>
  agree t hD hi ho (by
    unfold looks
    rw [List.mem_append]
    exact .inl (List.mem_filterMap.2 ⟨x, hx, by rw [hy]⟩))
/-- what is next to run, when a writer is ready: all writers ahead of it are done, none behind it is -/
theorem wr_here (t : Tr P F all base tr) (hD : Down all D) (hi : Rdy all D i) (hk : (tr i).kind = 3) (hl : LastK all tr D k) : k ≤ i ∧ ∀ j, k ≤ j → j < i → (tr j).kind ≠ 3 := by
  have hki : k ≤ i := by
    rcases hl.2.2 with h | ⟨q, rfl, hq, hq3⟩
    · omega
    · rcases Nat.lt_trichotomy q i with h | h | h
      · exact h
      · subst h; exact absurd hq hi.2.1
      · exact absurd (wr_down t hD q hq hq3 i h hk) hi.2.1
  refine ⟨hki, fun j h1 h2 h3 => ?_⟩
  have := hl.2.1 j (by have := hi.1; omega) (rdy_wr t hD hi hk h2 h3) h3
  omega
theorem WInv.writer (t : Tr P F all base tr) (hF : CallOk P F) (hD : Down all D) (hi : Rdy all D i) {o : Oper} (ho : all[i]? = some o) {G : Gh} {a : Act} {w : World} (W : WInv P ξ all base tr G0 f0 w0 D k G a w) (h3 : (tr i).kind = 3)
    (next : Act → World → Prop) (Q : Exit → Act → World → Prop) (hn : ∀ (G' : Gh) (a' : Act) (w' : World), WInv P ξ all base tr G0 f0 w0 (fun j => D j ∨ j = i) (i + 1) G' a' w' → next a' w') : o.wp P a w next Q := by
  have hin : i < all.length := hi.1
  obtain ⟨o', ho', _, hst⟩ := t.kinds hi.1
  rw [ho] at ho'
  cases ho'
  obtain ⟨⟨h0, h1, hH, hev, hnx, hds, hget⟩, hsome⟩ : (∃ h0 h1, Hides all i base (tr i).s.ns (tr i).s.h h0 ∧ evR P F o.op (tr i).T h0 = .ok ((tr i).v, h1) ∧ (tr (i + 1)).s.h.next = h1.next ∧ (tr (i + 1)).s.h.ds = h1.ds ∧
      (∀ j, (tr (i + 1)).s.h.get j = if Hid all i base (tr i).s.ns j then (tr i).s.h.get j else h1.get j)) ∧ (∀ j, Hid all i base (tr i).s.ns j → ∃ x, (tr i).s.h.get j = some x) := by
    rcases hst with ⟨k, _⟩ | ⟨k, _⟩ | ⟨k, _⟩ | ⟨k, _, _, h1, h2, _⟩ | ⟨k, _⟩
    · omega
    · omega
    · omega
    · exact ⟨h1, h2⟩
    · omega
  obtain ⟨hki, hnw⟩ := wr_here t hD hi h3 W.last
  obtain ⟨f1, f2, f3, f4⟩ := t.flat hki (by omega) hnw
  have hns := t.ns_ok (i := i) (by omega)
  have hidI : ∀ j, (tr j).kind = 4 → (Hid all i base (tr i).s.ns (base + j) ↔ j < i ∧ reach all i i j = false) := fun j hk => by
    constructor
    · rintro ⟨n, q1, q2, q3⟩
      have : j = n := by omega
      subst this
      exact ⟨((hns j).1 q1).1, q2⟩
    · rintro ⟨q1, q2⟩
      exact ⟨j, (hns j).2 ⟨q1, hk⟩, q2, rfl⟩
  have hidL : ∀ b, Hid all i base (tr i).s.ns b → Laid all tr base b := by
    rintro b ⟨n, q1, q2, q3⟩
    have := (hns n).1 q1
    exact ⟨n, by omega, this.2, q3⟩
  have far : ∀ j, i ≤ j → j < all.length → (tr j).kind = 4 → (tr i).s.h.get (base + j) = none := fun j hj hjn hk => by
    rw [f4 (base + j) (fun j' h1 h2 h3 => by omega)]
    exact W.non j (by omega) hjn hk
  -- the blocks that the writer does not see
  obtain ⟨Z, hZd⟩ : ∃ Z : Nat → Prop, ∀ b, Z b ↔ ∃ j, j < all.length ∧ (tr j).kind = 4 ∧ b = base + j ∧ reach all i i j = false := ⟨_, fun _ => Iff.rfl⟩
  have hZr : ∀ j, (Z (base + j) ↔ j < all.length ∧ (tr j).kind = 4 ∧ reach all i i j = false) := fun j => by
    rw [hZd]
    constructor
    · rintro ⟨n, q1, q2, q3, q4⟩
      have : j = n := by omega
      subst this
      exact ⟨q1, q2, q4⟩
    · rintro ⟨q1, q2, q3⟩; exact ⟨j, q1, q2, rfl, q3⟩
  have hz : ∀ b, h0.get b = if Z b then none else heapD all tr base D k b := by
    intro b
    rw [hH.2.2]
    by_cases hb : Laid all tr base b
    · obtain ⟨j, hj, hk, rfl⟩ := hb
      cases hr : reach all i i j with
      | true =>
        have hZn : ¬ Z (base + j) := fun hz => by rw [hZr] at hz; rw [hr] at hz; cases hz.2.2
        have hji : j < i := reach_lt t.ok hr
        rw [if_neg (fun hh => by rw [hidI j hk] at hh; rw [hr] at hh; cases hh.2), if_neg hZn, heapD_laid hj hk, if_pos (rdy_reach hD hi hr)]
        by_cases hjk : j < k
        · rw [if_pos hjk]
          exact f4 _ fun j' q1 q2 q3 => by omega
        · rw [if_neg hjk]
          exact f3 j (by omega) hji hk
      | false =>
        have hZp : Z (base + j) := (hZr j).2 ⟨hj, hk, hr⟩
        rw [if_pos hZp]
        by_cases hji : j < i
        · rw [if_pos ((hidI j hk).2 ⟨hji, hr⟩)]
        · rw [if_neg (fun hh => hji ((hidI j hk).1 hh).1)]
          exact far j (by omega) hj hk
    · have hZn : ¬ Z b := fun h => (by obtain ⟨j, q1, q2, q3, _⟩ := (hZd b).1 h; exact hb ⟨j, q1, q2, q3⟩)
      rw [if_neg (fun hh => hb (hidL b hh)), if_neg hZn, heapD_un hb]
      exact f4 _ fun j' q1 q2 q3 e => hb ⟨j', by omega, q3, e⟩
  have hZ : ∀ b, Z b → (∃ x, heapD all tr base D k b = some x) ∨ G[b]? = some none := by
    intro b hZb
    obtain ⟨j, hj, hk, rfl, hr⟩ := (hZd b).1 hZb
    by_cases hd : D j
    · refine .inl ?_
      rw [heapD_laid hj hk, if_pos hd]
      by_cases hjk : j < k
      · rw [if_pos hjk]
        obtain ⟨x, hx⟩ := hsome (base + j) ((hidI j hk).2 ⟨by omega, hr⟩)
        exact ⟨x, by rw [← f4 (base + j) fun j' q1 q2 q3 => by omega]; exact hx⟩
      · rw [if_neg hjk]; exact ⟨_, rfl⟩
    · exact .inr (W.free j hj hk hd)
  have hsub : ∀ b x, h0.get b = some x → heapD all tr base D k b = some x := fun b x hx => by
    rw [hz] at hx
    split at hx
    · cases hx
    · exact hx
  have hnx0 : h0.next = (tr k).s.h.next := hH.1.trans f1
  have hR0 : Rep P ξ G h0 w := ⟨W.rep.len.trans hnx0.symm, W.rep.lt, fun b x hx => W.rep.blk b x (hsub b x hx), fun b b' x x' g g' q1 q2 => W.rep.inj b b' x x' g g' (hsub _ _ q1) (hsub _ _ q2)⟩
  have hD0 : DsDen ξ G h0.ds a.defers := by rw [hH.2.1, f2]; exact W.ds
  have hev' : evOp P F o.op (tmAt all tr D all.length) h0 (fun v h => R.ok (v, h)) = .ok ((tr i).v, h1) := (evOp_same fun x hx => same_of t hD hi ho hx).trans hev
  obtain ⟨v, h', e, hdoes⟩ := op_ok hF hev'
  cases e
  refine hdoes ξ G a w hR0 W.tm hD0 next Q fun G' x w' ds hx R1 S hds' => hn G' _ w' ?_
  obtain ⟨none1, R2, S2⟩ := hide_step W.rep hz R1 S hZ
  have hfe : heapD all tr base (fun j => D j ∨ j = i) (i + 1) = (fun b => if Z b then heapD all tr base D k b else h1.get b) := by
    funext b
    by_cases hb : Laid all tr base b
    · obtain ⟨j, hj, hk, rfl⟩ := hb
      have hji : j ≠ i := by rintro rfl; omega
      rw [heapD_laid hj hk]
      cases hr : reach all i i j with
      | true =>
        have hZn : ¬ Z (base + j) := fun hz => by rw [hZr] at hz; rw [hr] at hz; cases hz.2.2
        have hji : j < i := reach_lt t.ok hr
        rw [if_neg hZn, if_pos (.inl (rdy_reach hD hi hr)), if_pos (by omega), hget, if_neg (fun hh => by rw [hidI j hk] at hh; rw [hr] at hh; cases hh.2)]
      | false =>
        have hZp : Z (base + j) := (hZr j).2 ⟨hj, hk, hr⟩
        rw [if_pos hZp, heapD_laid hj hk]
        by_cases hd : D j
        · rw [if_pos hd, if_pos (.inl hd)]
          by_cases hlt : j < i
          · rw [if_pos (by omega), hget, if_pos ((hidI j hk).2 ⟨hlt, hr⟩)]
            by_cases hjk : j < k
            · rw [if_pos hjk]
              exact f4 _ fun j' q1 q2 q3 => by omega
            · rw [if_neg hjk]
              exact f3 j (by omega) hlt hk
          · rw [if_neg (by omega), if_neg (by omega)]
        · rw [if_neg hd, if_neg (by rintro (h | h); exact hd h; exact hji h)]
    · have hZn : ¬ Z b := fun h => (by obtain ⟨j, q1, q2, q3, _⟩ := (hZd b).1 h; exact hb ⟨j, q1, q2, q3⟩)
      rw [heapD_un hb, if_neg hZn, hget, if_neg (fun hh => hb (hidL b hh))]
  refine ⟨⟨by omega, fun j hj hd hk => ?_, .inr ⟨i, rfl, .inr rfl, h3⟩⟩, ?_, ?_, fun j hj hk hd => ?_, fun j hj hjn hk => ?_, put_tm t hD hi ho W.tm S.le hx ds, ?_⟩
  · rcases hd with hd | rfl
    · have := W.last.2.1 j hj hd hk; omega
    · omega
  · rw [hfe, hnx]; exact R2
  · rw [hfe]; exact W.step.trans S2
  · obtain ⟨E, rfl⟩ := S.pre
    have := W.free j hj hk fun h => hd (.inl h)
    rw [List.getElem?_append_left (List.getElem?_eq_some_iff.1 this).1]
    exact this
  · have hr : reach all i i j = false := by
      cases hr : reach all i i j with
      | false => rfl
      | true => have := reach_lt t.ok hr; omega
    rw [hget, if_neg (fun hh => by have := ((hidI j hk).1 hh).1; omega)]
    exact none1 _ ((hZr j).2 ⟨hjn, hk, hr⟩)
  · rw [put_defers, hds]; exact hds'
theorem WInv.layer (t : Tr P F all base tr) (hD : Down all D) (hi : Rdy all D i) {o : Oper} (ho : all[i]? = some o) {G : Gh} {a : Act} {w : World} (W : WInv P ξ all base tr G0 f0 w0 D k G a w) (h4 : (tr i).kind = 4) (hb0 : G0.length ≤ base)
    (next : Act → World → Prop) (Q : Exit → Act → World → Prop) (hn : ∀ (G' : Gh) (a' : Act) (w' : World), WInv P ξ all base tr G0 f0 w0 (fun j => D j ∨ j = i) k G' a' w' → next a' w') : o.wp P a w next Q := by
  have hin : i < all.length := hi.1
  obtain ⟨o', ho', _, hst⟩ := t.kinds hi.1
  rw [ho] at ho'
  cases ho'
  obtain ⟨hev, hv⟩ : evAR P o.op (tr i).T = .ok ((tr i).x, (tr i).mkv) ∧ (tr i).v = (tr i).mkv (base + i) := by
    rcases hst with ⟨k, _⟩ | ⟨k, _⟩ | ⟨k, _⟩ | ⟨k, _⟩ | ⟨k, _, _, h1, h2, _⟩
    · omega
    · omega
    · omega
    · omega
    · exact ⟨h1, h2⟩
  have hev' : evA P o.op (tmAt all tr D all.length) (fun x mk => R.ok (x, mk)) = .ok ((tr i).x, (tr i).mkv) := (evA_same fun x hx => same_of t hD hi ho hx).trans hev
  obtain ⟨blk, mk, e, hlays⟩ := lays_ok hev'
  cases e
  obtain ⟨x, obj, g, d, hrun, hg, hB, hden⟩ := hlays ξ G a w W.tm
  obtain ⟨hle, hgi, hR, hS⟩ := fill_step (d := d) W.rep W.step (W.free i hin h4 hi.2.1) (by omega) hg hB
  have hfe : heapD all tr base (fun j => D j ∨ j = i) k = (fun b => if b = base + i then some (tr i).x else heapD all tr base D k b) := by
    funext b
    by_cases hb : b = base + i
    · subst hb
      rw [if_pos rfl, heapD_laid hin h4, if_pos (.inr rfl)]
      by_cases hik : i < k
      · rw [if_pos hik]
        refine t.stays h4 W.last.1 hik fun w' q1 q2 q3 => ?_
        cases hr : reach all w' w' i with
        | false => rfl
        | true =>
          rcases W.last.2.2 with h | ⟨q, rfl, hq, hq3⟩
          · omega
          · have hw' : D w' := by
              rcases Nat.lt_or_ge w' q with h | h
              · exact wr_down t hD q hq hq3 w' h q3
              · have : w' = q := by omega
                subst this; exact hq
            exact absurd (down_reach hD hw' hr) hi.2.1
      · rw [if_neg hik]
    · rw [if_neg hb]
      by_cases hbl : Laid all tr base b
      · obtain ⟨j, hj, hk, rfl⟩ := hbl
        have hji : j ≠ i := by rintro rfl; exact hb rfl
        rw [heapD_laid hj hk, heapD_laid hj hk]
        by_cases hd : D j
        · rw [if_pos hd, if_pos (.inl hd)]
        · rw [if_neg hd, if_neg (by rintro (h | h); exact hd h; exact hji h)]
      · rw [heapD_un hbl, heapD_un hbl]
  have hx : Den ξ (G.set (base + i) (some g)) (tr i).v x := by rw [hv]; exact hden _ _ hle hgi
  unfold Oper.wp
  rw [hrun]
  refine hn (G.set (base + i) (some g)) _ _ ⟨?_, ?_, ?_, fun j hj hk hd => ?_, W.non, put_tm t hD hi ho W.tm hle hx a.defers, ?_⟩
  · exact last_same (by omega) W.last
  · rw [hfe]; exact hR
  · rw [hfe]; exact hS
  · have := W.free j hj hk fun h => hd (.inl h)
    rw [List.getElem?_set, if_neg (fun e => hd (.inr (by omega)))]
    exact this
  · rw [put_defers]; exact W.ds.mono hle
/-- one more -/
theorem WInv.one (t : Tr P F all base tr) (hF : CallOk P F) (hD : Down all D) (hi : Rdy all D i) {o : Oper} (ho : all[i]? = some o) {G : Gh} {a : Act} {w : World} (W : WInv P ξ all base tr G0 f0 w0 D k G a w) (hb0 : (tr i).kind = 4 → G0.length ≤ base)
    (Q : Exit → Act → World → Prop) (next : Act → World → Prop) (hn : ∀ (k' : Nat) (G' : Gh) (a' : Act) (w' : World), WInv P ξ all base tr G0 f0 w0 (fun j => D j ∨ j = i) k' G' a' w' → next a' w') : wpOp P all.toArray Q i next a w := by
  have hin : i < all.length := hi.1
  obtain ⟨o', ho', _, hst⟩ := t.kinds hi.1
  rw [ho] at ho'
  cases ho'
  have hi' : all.toArray[i]? = some o := by simpa using ho
  have hguard : ∀ (b : Bool), wantB all o (tr i).T = .ok b → Region.wanted o (yielded all.toArray a.tmps) = b := by
    intro b hb
    have hb' : wantK all o (tmAt all tr D all.length) (R.ok true) (R.ok false) = .ok b := by
      have e : wantK all o (tmAt all tr D all.length) (R.ok true) (R.ok false) = wantK all o (tr i).T (R.ok true) (R.ok false) := wantK_same fun g j p d h1 h2 h3 => agree t hD hi ho (by
        unfold looks
        rw [h1]
        dsimp only
        rw [h2]
        simp [h3])
      exact e.trans hb
    rcases wantK_ok (P := P) hb' with ⟨h1, h2⟩ | ⟨h1, h2⟩
    · cases h1; exact h2 _ _ _ W.tm
    · cases h1; exact h2 _ _ _ W.tm
  unfold wpOp
  simp only [hi']
  rcases hst with ⟨hk, hw, hv, _⟩ | ⟨hk, hw, hc, ⟨h', hev⟩, _⟩ | ⟨hk, hw, _⟩ | ⟨hk, hw, _⟩ | ⟨hk, hw, _⟩
  · rw [hguard _ hw, if_neg (by simp)]
    exact hn k G _ w (W.plain t hD hi ho (by omega) (by omega) (by rw [hv]; exact den_undef))
  · rw [hguard _ hw, if_pos rfl]
    refine .inl ?_
    have hev' : evOp P F o.op (tmAt all tr D all.length) (tr i).s.h (fun v h => R.ok (v, h)) = .ok ((tr i).v, h') := (evOp_same fun x hx => same_of t hD hi ho hx).trans hev
    obtain ⟨v, e, hp⟩ := pure_ok hc hev'
    cases e
    obtain ⟨x, h1, h2⟩ := hp ξ G a w W.tm
    unfold Oper.wp
    rw [h1]
    exact hn k G _ w (W.plain t hD hi ho (by omega) (by omega) h2)
  · rw [hguard _ hw, if_pos rfl]
    refine .inl ?_
    obtain ⟨h0, h', hev, hc, hsub⟩ := reader_at t hD hi ho hk W
    have hev' : evOp P F o.op (tmAt all tr D all.length) h0 (fun v h => R.ok (v, h)) = .ok ((tr i).v, h') := (evOp_same fun x hx => same_of t hD hi ho hx).trans hev
    obtain ⟨v, e, hp⟩ := reads_ok hc hev'
    cases e
    obtain ⟨x, h1, h2⟩ := hp ξ G a w (W.rep.fits hsub) W.tm
    unfold Oper.wp
    rw [h1]
    exact hn k G _ w (W.plain t hD hi ho (by omega) (by omega) h2)
  · rw [hguard _ hw, if_pos rfl]
    exact .inl (W.writer t hF hD hi ho hk next Q fun G' a' w' h => hn _ G' a' w' h)
  · rw [hguard _ hw, if_pos rfl]
    exact .inl (W.layer t hD hi ho hk (hb0 hk) next Q fun G' a' w' h => hn _ G' a' w' h)
end
end Go.Ev
namespace Go.Ev
open Go
open Classical
section
variable {P : Program} {F : CallF} {all : List Oper} {base : Nat} {tr : Nat → Rec} {ξ : Nat → Value} {D : Nat → Prop} {k i : Nat} {G0 : Gh} {f0 : Fm} {w0 : World}
theorem bindsAny_eq (e : Edge) : Region.binds .any e = bindsAny e := by
  unfold Region.binds bindsAny
  cases e.ground <;> rfl
theorem nodup_le : ∀ (n : Nat) (S : List Nat), S.Nodup → (∀ j ∈ S, j < n) → S.length ≤ n
  | 0, S, _, h => by
    cases S with
    | nil => exact Nat.le_refl _
    | cons x l => exact absurd (h x (by simp)) (Nat.not_lt_zero _)
  | n + 1, S, hn, h => by
    by_cases hm : n ∈ S
    · have h1 := nodup_le n (S.erase n) (hn.erase n) fun j hj => by
        have := (List.Nodup.mem_erase_iff hn).1 hj
        have := h j this.2
        omega
      rw [List.length_erase_of_mem hm] at h1
      omega
    · have := nodup_le n S hn fun j hj => by
        have h1 := h j hj
        have : j ≠ n := by rintro rfl; exact hm hj
        omega
      omega
theorem ready_iff {ops : Array Oper} {listed : Array Bool} (hs : listed.size = ops.size) (hD : ∀ j, D j ↔ listed.getD j false = true) : i ∈ Region.ready .any ops listed ↔ Rdy ops.toList D i := by
  unfold Region.ready Rdy
  rw [List.mem_filter, List.mem_range]
  have hlen : ops.toList.length = ops.size := by simp
  rw [hlen]
  by_cases hi : i < ops.size
  · have ho : ops[i]? = some ops[i] := by simp [hi]
    have ho' : ops.toList[i]? = some ops[i] := by simp [hi]
    have e1 : listed.getD i true = listed.getD i false := by simp [Array.getD, hs, hi]
    simp only [hi, true_and]
    rw [e1, ho, Bool.and_eq_true, hD i]
    simp only [Option.map_some, Option.getD_some]
    constructor
    · rintro ⟨h1, h2⟩
      refine ⟨fun h => by simp [h] at h1, fun o hoo e he hb => ?_⟩
      rw [ho'] at hoo
      cases hoo
      rw [Array.all_eq_true'] at h2
      have := h2 e (by simpa using he)
      rw [bindsAny_eq, hb] at this
      exact (hD _).2 (by simpa using this)
    · rintro ⟨h1, h2⟩
      refine ⟨by simpa using h1, ?_⟩
      rw [Array.all_eq_true']
      intro e he
      rw [bindsAny_eq]
      cases hb : bindsAny e with
      | false => rfl
      | true => simpa using (hD _).1 (h2 _ ho' e (by simpa using he) hb)
  · simp [hi]
theorem down_add (hD : Down all D) (hi : Rdy all D i) : Down all (fun j => D j ∨ j = i) :=
  ⟨fun j hj => hj.elim (hD.1 j) (by rintro rfl; exact hi.1), fun j o hj ho e he hb => by
    rcases hj with hj | rfl
    · exact .inl (hD.2 j o hj ho e he hb)
    · exact .inl (hi.2.2 o ho e he hb)⟩
theorem all_done (hok : regOk all = true) (hn : ∀ i, ¬ Rdy all D i) : ∀ j, j < all.length → D j := by
  intro j
  induction j using Nat.strongRecOn with
  | ind j ih =>
    intro hj
    apply Classical.byContradiction
    intro hnd
    refine hn j ⟨hj, hnd, fun o ho e he hb => ?_⟩
    have h1 := (regOk_spec hok ho).1 e he hb
    exact ih _ h1 (by omega)
theorem any_ok {ops : Array Oper} (t : Tr P F ops.toList base tr) (hF : CallOk P F) (hb0 : ∀ i, i < ops.size → (tr i).kind = 4 → G0.length ≤ base) {Q : Exit → Act → World → Prop}
    (hQ : ∀ (D : Nat → Prop) (k : Nat) (G : Gh) (a : Act) (w : World), (∀ j, j < ops.size → D j) → WInv P ξ ops.toList base tr G0 f0 w0 D k G a w → Q .normal a w) :
    ∀ (fuel : Nat) (listed : Array Bool) (D : Nat → Prop) (k : Nat) (G : Gh) (a : Act) (w : World), listed.size = ops.size → (∀ j, D j ↔ listed.getD j false = true) → Down ops.toList D → WInv P ξ ops.toList base tr G0 f0 w0 D k G a w →
      (∀ S : List Nat, S.Nodup → (∀ j ∈ S, j < ops.size ∧ ¬ D j) → S.length ≤ fuel) → wpAny P .any ops Q fuel listed a w := by
  have hlen : ops.toList.length = ops.size := by simp
  have hfin : ∀ (listed : Array Bool) (D : Nat → Prop) (k : Nat) (G : Gh) (a : Act) (w : World), listed.size = ops.size → (∀ j, D j ↔ listed.getD j false = true) → WInv P ξ ops.toList base tr G0 f0 w0 D k G a w → Region.ready .any ops listed = [] → Q .normal a w := by
    intro listed D k G a w hs hD W hr
    refine hQ D k G a w (fun j hj => all_done t.ok (fun i hi => ?_) j (by omega)) W
    have := (ready_iff (i := i) hs hD).2 hi
    rw [hr] at this
    cases this
  intro fuel
  induction fuel with
  | zero =>
    intro listed D k G a w hs hD hdown W hf
    have hr : Region.ready .any ops listed = [] := by
      cases hr : Region.ready .any ops listed with
      | nil => rfl
      | cons i l =>
        have hi := (ready_iff (i := i) hs hD).1 (by rw [hr]; simp)
        have hin := hi.1
        have := hf [i] (by simp) (by intro j hj; simp at hj; subst hj; exact ⟨by omega, hi.2.1⟩)
        simp at this
    exact ⟨hr, hfin listed D k G a w hs hD W hr⟩
  | succ fuel ih =>
    intro listed D k G a w hs hD hdown W hf
    refine ⟨hfin listed D k G a w hs hD W, fun i hi => ?_⟩
    have hi := (ready_iff (i := i) hs hD).1 hi
    have hin := hi.1
    obtain ⟨o, ho⟩ : ∃ o, ops.toList[i]? = some o := ⟨ops.toList[i], by simp⟩
    have := W.one t hF hdown hi ho (hb0 i (by omega)) Q (wpAny P .any ops Q fuel (listed.setIfInBounds i true)) fun k' G' a' w' W' => ih _ _ k' G' a' w' (by simp [hs]) (fun j => ?_) (down_add hdown hi) W' fun S hS hSD => ?_
    · exact this
    · simp only [Array.getD_eq_getD_getElem?, Array.getElem?_setIfInBounds]
      by_cases hj : i = j
      · subst hj
        have hin' : i < ops.size := by omega
        simp [hs, hin']
      · rw [if_neg hj, ← Array.getD_eq_getD_getElem?, ← hD j]
        exact ⟨fun h => h.resolve_right fun e => hj e.symm, .inl⟩
    · have := hf (i :: S) (List.nodup_cons.2 ⟨fun h => (hSD i h).2 (.inr rfl), hS⟩) (by
        intro j hj
        simp at hj
        rcases hj with rfl | hj
        · exact ⟨by omega, hi.2.1⟩
        · exact ⟨(hSD j hj).1, fun h => (hSD j hj).2 (.inl h)⟩)
      simp at this
      omega
/-- all done: the interpreter's end -/
theorem WInv.done (t : Tr P F all base tr) {G : Gh} {a : Act} {w : World} (hall : ∀ j, j < all.length → D j) (W : WInv P ξ all base tr G0 f0 w0 D k G a w) :
    RepF P ξ G (tr all.length).s.h.next (tr all.length).s.h.get w ∧ StepF G0 f0 w0 G (tr all.length).s.h.get w ∧ TDen P ξ G (tr all.length).T a ∧ DsDen ξ G (tr all.length).s.h.ds a.defers := by
  have hkn := W.last.1
  obtain ⟨f1, f2, f3, f4⟩ := t.flat (s := k) (s' := all.length) hkn (Nat.le_refl _) fun j h1 h2 h3 => by
    have := W.last.2.1 j h2 (hall j h2) h3; omega
  have hf : heapD all tr base D k = (tr all.length).s.h.get := by
    funext b
    by_cases hb : Laid all tr base b
    · obtain ⟨j, hj, hk, rfl⟩ := hb
      rw [heapD_laid hj hk, if_pos (hall j hj)]
      by_cases hjk : j < k
      · rw [if_pos hjk]
        exact (f4 _ fun j' q1 q2 q3 => by omega).symm
      · rw [if_neg hjk]
        exact (f3 j (by omega) hj hk).symm
    · rw [heapD_un hb]
      exact (f4 _ fun j' q1 q2 q3 e => hb ⟨j', by omega, q3, e⟩).symm
  refine ⟨by rw [← hf, f1]; exact W.rep, by rw [← hf]; exact W.step, ⟨fun y v hv => W.tm.tmp y v ?_, W.tm.glob⟩, by rw [f2]; exact W.ds⟩
  rw [t.tm_all (Nat.le_refl _)] at hv
  rw [← hv]
  exact tmAt_congr fun j hj _ => ⟨fun _ => trivial, fun _ => hall j hj⟩
/-- a region whose order is drawn -/
theorem draw_any {ops : Array Oper} (hm : P.follows .mixedOrders = true) (t : Tr P F ops.toList base tr) (hF : CallOk P F) {h : H} {G : Gh} {E : List (Option GB)} {a : Act} {w : World} {id : Nat} {Q : Exit → Act → World → Prop} (R : Rep P ξ G h w) (hT : TDen P ξ G (tr 0).T a) (hD : DsDen ξ G h.ds a.defers)
    (hE : ∀ e ∈ E, e = none) (hlen : (G ++ E).length = (tr 0).s.h.next) (hds : (tr 0).s.h.ds = h.ds) (hsub : ∀ b x, (tr 0).s.h.get b = some x → h.get b = some x)
    (hC : ∀ j, j < ops.size → (tr j).kind = 4 → (G ++ E)[base + j]? = some none ∧ (tr 0).s.h.get (base + j) = none ∧ G.length ≤ base)
    (hQ : ∀ a' w', After P ξ G h w (tr ops.size).T (tr ops.size).s.h a' w' → Q .normal a' w') : (Code.region id ops true).wp P Q a w := by
  have hl : ops.toList.length = ops.size := by simp
  have hle : Le G (G ++ E) := Le.append _ _
  refine wp_region_any hm ?_
  have hsub' : ∀ b x, heapD ops.toList tr base (fun _ => False) 0 b = some x → h.get b = some x := fun b x hx => by
    by_cases hb : Laid ops.toList tr base b
    · obtain ⟨j, hj, hk, rfl⟩ := hb
      rw [heapD_laid hj hk, if_neg (fun h => h)] at hx
      cases hx
    · rw [heapD_un hb] at hx
      exact hsub b x hx
  have hgg : ∀ b x g, h.get b = some x → (G ++ E)[b]? = some (some g) → G[b]? = some (some g) := fun b x g hx hg => by
    obtain ⟨g', o, q1, _⟩ := R.blk b x hx
    rw [le_get hle q1 hg]; exact q1
  have hW : WInv P ξ ops.toList base tr G h.get w (fun _ => False) 0 (G ++ E) a { w with drawn := w.drawn + 1 } := by
    refine ⟨⟨Nat.zero_le _, fun j _ h => h.elim, .inl rfl⟩, ⟨hlen, fun b g hg => ?_, fun b x hx => ?_, fun b b' x x' g g' h1 h2 h3 h4 h5 => ?_⟩, ⟨rfl, rfl, rfl, Nat.le_refl _, fun _ _ _ => rfl, fun r hr hw => ?_, fun r hr hw => ?_, E, rfl⟩, fun j hj hk _ => (hC j (by omega) hk).1, fun j _ hj hk => (hC j (by omega) hk).2.1, ?_, ?_⟩
    · rcases Nat.lt_or_ge b G.length with hb | hb
      · rw [List.getElem?_append_left hb] at hg
        exact R.lt b g hg
      · rw [List.getElem?_append_right hb] at hg
        have := hE _ (List.mem_of_getElem? hg)
        cases this
    · obtain ⟨g, o, q1, q2, q3⟩ := R.blk b x (hsub' b x hx)
      exact ⟨g, o, hle.2 _ _ q1, q2, q3.mono hle⟩
    · have e1 := hsub' _ _ h1
      have e2 := hsub' _ _ h2
      exact R.inj b b' x x' g g' e1 e2 (hgg _ _ _ e1 h3) (hgg _ _ _ e2 h4) h5
    · obtain ⟨b, x, g, q1, q2, q3, q4⟩ := hw
      exact ⟨b, x, g, hsub' _ _ q1, q2, hgg _ _ _ (hsub' _ _ q1) q3, q4⟩
    · obtain ⟨b, x, g, q1, q3, q4⟩ := hw
      exact ⟨b, x, g, hsub' _ _ q1, hgg _ _ _ (hsub' _ _ q1) q3, q4⟩
    · refine ⟨fun y v hv => (hT.mono hle).tmp y v ?_, (hT.mono hle).glob⟩
      rw [← hv]
      exact t.tm_all (Nat.zero_le _) |>.trans (by
        show tgetP (tmAt ops.toList tr (fun _ => True) 0) y = _
        rw [tmAt_stop (D := fun _ => False) (i := 0) (fun j _ h => h) (Nat.zero_le _)]
        rfl)
    · rw [hds]; exact hD.mono hle
  refine any_ok t hF (fun i hi hk => (hC i hi hk).2.2) (fun D k G' a' w' hall W => ?_) ops.size _ _ 0 _ a _ (by simp) (fun j => ?_) ⟨fun _ h => h.elim, fun _ _ h => h.elim⟩ hW fun S hS hSD => nodup_le _ S hS fun j hj => (hSD j hj).1
  · obtain ⟨q1, q2, q3, q4⟩ := W.done t (fun j hj => hall j (by omega))
    rw [hl] at q1 q2 q3 q4
    exact hQ a' w' ⟨G', q1.rep fun _ => rfl, q3, q4, q2.step⟩
  · simp only [Array.getD_eq_getD_getElem?, Array.getElem?_replicate]
    split <;> simp
theorem draw_ok (hm : P.follows .mixedOrders = true) (hF : CallOk P F) : DrawOk P F := by
  intro ops id T h x T' h' h0
  have hl : ops.toList.length = ops.size := by simp
  unfold drawRun at h0
  obtain ⟨hok, h1⟩ := cond_ok h0
  cases ha : ops.toList.any (lays (P := P)) with
  | true =>
    rw [ha] at h1
    have h1' : forceNat h.next (fun base => llen ops.toList fun n => hres n h (fun h => drawOps P F ops.toList base ops.toList T ⟨0, h, [], [], []⟩ fun T h => .ok (.normal, T, h)) (.no 109)) = .ok (x, T', h') := h1
    rw [forceNat_eq, llen_eq] at h1'
    obtain ⟨h2, p1, p2, p3, p4⟩ := hres_ok h1'
    obtain ⟨tr, q1, q2, q3, q4⟩ := draw_trace (P := P) (i := 0) (by simp) rfl .nil (fun p hp => by cases hp) p1
    rw [Nat.zero_add] at q4
    cases q4
    have t : Tr P F ops.toList h.next tr := ⟨fun j hj => q3 j (by omega) (by omega), by rw [q2], by rw [q2], hok⟩
    refine ⟨rfl, fun ξ G a w Q R hT hD hQ => ?_⟩
    rw [hl] at hQ
    refine draw_any (E := List.replicate ops.size none) hm t hF R (by rw [q1]; exact hT) hD (fun e he => (List.mem_replicate.1 he).2) (by rw [q2]; simp [R.len, p2]) (by rw [q2]; exact p3) (fun b x hx => ?_) (fun j hj hk => ⟨?_, ?_, by rw [R.len]; exact Nat.le_refl _⟩) hQ
    · rw [q2] at hx
      rw [p4] at hx
      split at hx
      · cases hx
      · exact hx
    · rw [List.getElem?_append_right (by rw [R.len]; omega), R.len, List.getElem?_replicate, if_pos (by omega)]
    · rw [q2]
      show h2.get (h.next + j) = none
      rw [p4, if_pos (by omega)]
  | false =>
    rw [ha] at h1
    have h1' : drawOps P F ops.toList 0 ops.toList T ⟨0, h, [], [], []⟩ (fun T h => .ok (.normal, T, h)) = .ok (x, T', h') := h1
    obtain ⟨tr, q1, q2, q3, q4⟩ := draw_trace (P := P) (i := 0) (by simp) rfl .nil (fun p hp => by cases hp) h1'
    rw [Nat.zero_add] at q4
    cases q4
    have t : Tr P F ops.toList 0 tr := ⟨fun j hj => q3 j (by omega) (by omega), by rw [q2], by rw [q2], hok⟩
    refine ⟨rfl, fun ξ G a w Q R hT hD hQ => ?_⟩
    rw [hl] at hQ
    refine draw_any (E := []) hm t hF R (by rw [q1]; exact hT) hD (fun e he => by cases he) (by rw [q2]; simp [R.len]) (by rw [q2]) (fun b x hx => by rw [q2] at hx; exact hx) (fun j hj hk => ?_) hQ
    obtain ⟨o, ho, _, hst⟩ := t.kinds (i := j) (by omega)
    rcases hst with ⟨k, _⟩ | ⟨k, _⟩ | ⟨k, _⟩ | ⟨k, _⟩ | ⟨_, _, hc, _⟩
    · omega
    · omega
    · omega
    · omega
    · have : lays (P := P) o = true := by unfold lays; rw [hc]; rfl
      rw [List.any_eq_false] at ha
      exact absurd this (ha o (List.mem_of_getElem? ho))
end
end Go.Ev
namespace Go.Ev
open Go
section
variable {P : Program}
/-- a function without a body -/
def Ext (P : Program) (f : FuncId) (e : Array Value → Sem Value) : Prop :=
  ∃ fn, P.funcs[f]? = some fn ∧ (fn.name == "runtime.NumGoroutine") = false ∧ fn.body.isNone = true ∧ Extern.findNext fn = none ∧ Extern.find fn = some e
theorem callW_ext {f : FuncId} {e : Array Value → Sem Value} (hE : Ext P f e) {args : Array Value} {v : Value} {w w' : World} {R : Value → World → Prop} (hr : (e args).run P w = .ok v w') (hR : R v w') : CallW P f args w R := by
  intro o a next Q hN
  obtain ⟨fn, h1, h2, h3, h4, h5⟩ := hE
  rw [run_callFunc_extern h1 h2 h3 h4 h5, hr]
  exact hN _ _ hR
/-- an answer that leaves memory as it was -/
theorem post_same {ξ : Nat → Value} {G : Gh} {h : H} {w : World} {v : V} {x : Value} (rp : Rep P ξ G h w) (hd : Den ξ G v x) : Post P ξ G h w v h x w := ⟨G, hd, rp, Step.refl _ _ _⟩
theorem u8_eq {a b : Nat} (ha : a < 256) (hb : b < 256) : (UInt8.ofNat a == UInt8.ofNat b) = Nat.beq a b := by
  rw [Bool.eq_iff_iff]
  constructor
  · intro h
    have := congrArg UInt8.toNat (beq_iff_eq.1 h)
    rw [ofNat_toNat ha, ofNat_toNat hb] at this
    subst this
    exact Nat.beq_refl _
  · intro h
    cases Nat.eq_of_beq_eq_true h
    exact beq_self_eq_true _
theorem find_loop (n c b : Nat) (hb : b < 256) {β : Type} (K : Nat → β) (no : β) : ∀ (m i : Nat), i + m = n →
    Nat.rec (motive := fun _ => Nat → β) (fun _ => no) (fun _ ih i => cond (Nat.beq (lowB n c i) b) (K i) (ih (Nat.succ i))) m i =
      if Lib.indexByte (digs m c) (UInt8.ofNat b) = -1 then no else K (i + (Lib.indexByte (digs m c) (UInt8.ofNat b)).toNat)
  | 0, i, _ => by
    exact (if_pos (by simp [digs, Lib.indexByte])).symm
  | m + 1, i, h => by
    have ih := find_loop n c b hb K no m (i + 1) (by omega)
    show cond (Nat.beq (lowB n c i) b) (K i) _ = _
    have e : lowB n c i = c / 256 ^ m % 256 := by
      unfold lowB
      have : n - i - 1 = m := by omega
      show c / 256 ^ (n - i - 1) % 256 = _
      rw [this]
    simp only [digs, Lib.indexByte]
    rw [u8_eq (Nat.mod_lt _ (by decide)) hb, ← e]
    cases hq : Nat.beq (lowB n c i) b with
    | true => simp
    | false =>
      have hge := Lib.indexByte_ge (digs m c) (UInt8.ofNat b)
      show Nat.rec (motive := fun _ => Nat → β) (fun _ => no) (fun _ ih i => cond (Nat.beq (lowB n c i) b) (K i) (ih (Nat.succ i))) m (i + 1) = _
      rw [ih]
      by_cases hm : Lib.indexByte (digs m c) (UInt8.ofNat b) = -1
      · simp [hm]
      · have hm' : (Lib.indexByte (digs m c) (UInt8.ofNat b) == -1) = false := by simpa using hm
        have hne : ¬ Lib.indexByte (digs m c) (UInt8.ofNat b) + 1 = -1 := by omega
        simp only [hm', Bool.false_eq_true, if_false, hm, hne]
        congr 1
        omega
/-- where a byte stands in a text -/
noncomputable def hIdx : Hook := fun l h => match l with
  | [.str n c, .int .u8 (.ofNat b)] => cond (Nat.ble b 255) (findB n c b (fun i => .ok (.int .i64 (.ofNat i), h)) (.ok (.int .i64 (.negSucc 0), h))) (.no 301)
  | _ => .no 301
theorem idx_ok {f : Nat} (hE : Ext P f Extern.BytealgIndexByte.indexByte) : CallOk1 P f hIdx := by
  intro l h v h' h0
  unfold hIdx at h0
  split at h0
  case h_2 => cases h0
  rename_i n c b
  cases hb : Nat.ble b 255 with
  | false => rw [hb] at h0; cases h0
  | true =>
    rw [hb] at h0
    have hb' : b < 256 := by have := Nat.le_of_ble_eq_true hb; omega
    have h1 : findB n c b (fun i => (R.ok (V.int .i64 (.ofNat i), h) : R (V × H))) (.ok (.int .i64 (.negSucc 0), h)) = .ok (v, h') := h0
    unfold findB at h1
    rw [find_loop n c b hb' _ _ n 0 (by omega)] at h1
    have hv : v = .int .i64 (Lib.indexByte (digs n c) (UInt8.ofNat b)) ∧ h' = h := by
      have hge := Lib.indexByte_ge (digs n c) (UInt8.ofNat b)
      split at h1
      · rename_i hm
        cases h1
        exact ⟨by rw [hm]; rfl, rfl⟩
      · rename_i hm
        cases h1
        refine ⟨?_, rfl⟩
        congr 1
        rw [Nat.zero_add]
        show ((Lib.indexByte (digs n c) (UInt8.ofNat b)).toNat : Int) = _
        omega
    obtain ⟨rfl, rfl⟩ := hv
    refine ⟨rfl, fun ξ G args w rp hG hd => ?_⟩
    simp only [DenL, Den] at hd
    obtain ⟨x, xs, e1, ⟨_, e2⟩, y, ys, e3, e4, e5⟩ := hd
    have ea : args = #[.string ⟨(digs n c).toArray⟩, .int .u8 (b : Int)] := by
      apply Array.toList_inj.1
      rw [e1, e2, e3, e4, e5]
      rfl
    subst ea
    refine callW_ext hE (Lib.run_indexByteString _ _ w) (post_same rp ?_)
    simp [Den]
/-- a text's bytes, those that are this one -/
theorem isTrue_ok {r : R (V × H)} (h : isTrue r = true) : ∃ h', r = .ok (.bool true, h') := by
  unfold isTrue at h
  split at h
  · exact ⟨_, rfl⟩
  · cases h
theorem callBody_calls (hN : NoCount P) {F D : CallF} (hF : CallOk P F) (hDr : DrawOk P F) (hD : DefOk P D) {cf f : Nat} {l : List V} {h : H} {v : V} {h' : H} (h0 : callBody P F (defersK D) cf f l h = .ok (v, h')) :
    ∀ (ξ : Nat → Value) (G : Gh) (args : Array Value) (w : World), Rep P ξ G h w → GlobOk P G → DenL ξ G l args.toList → Calls P f args w (Answers P ξ G h w v h') := by
  obtain ⟨fn, c, x, T', h1, hf, hb, hx, he, hgo⟩ := body_ok hF hDr h0
  have he' : defersK D h1.ds ⟨h1.next, h1.t, []⟩ (fun h2 => resK P fn.results.toList T' h2 fun l => (R.ok (oneV l, ⟨h2.next, h2.t, h.ds⟩) : R (V × H))) = .ok (v, h') := he
  obtain ⟨h2, h3, e1, h4⟩ := defers_ok hD he'
  obtain ⟨e2, h5⟩ := end_ok h3
  refine fun ξ G args w rp hG hd => calls_of_wp_defers hf hb (hgo ξ G args w _ rp hG hd fun a' w' ⟨G1, q1, q2, q3, q4⟩ => ?_)
  have key : Leaves P fn a'.tmps (Answers P ξ G h w v h') a'.defers .returning w' := by
    refine h4 ξ G1 w' a'.defers fn a'.tmps _ (q1.ds []) q2.glob q3 fun G2 w2 k1 k2 => ?_
    obtain ⟨y, p1, p2⟩ := h5 ξ G G2 h h1 w w' w2 a' rfl ((q2.mono k2.le)) k1 (q4.trans (k2.ds h1.ds h2.ds) |>.ds [] h2.ds)
    exact ⟨y, p1, y, rfl, p2⟩
  rcases hx with rfl | rfl
  · exact key
  · exact key
/-- the interpreter's closed call, of a function with a body -/
noncomputable def runTop (P : Program) (hooks dhooks : List (Nat × Hook)) (cf fuel f : Nat) (l : List V) (h : H) : R (V × H) :=
  callBody P (runCall P hooks dhooks cf fuel) (defersK (defF P dhooks (runCall P hooks dhooks cf fuel) cf)) cf f l h
/-- what it answers is what the call answers -/
theorem runTop_calls (hN : NoCount P) (hm : P.follows .mixedOrders = true) {hooks dhooks : List (Nat × Hook)} (hh : ∀ p ∈ hooks, CallOk1 P p.1 p.2) (hd : ∀ p ∈ dhooks, DefOk1 P p.1 p.2) {cf fuel f : Nat} {l : List V} {h : H} {v : V} {h' : H}
    (h0 : runTop P hooks dhooks cf fuel f l h = .ok (v, h')) : ∀ (ξ : Nat → Value) (G : Gh) (args : Array Value) (w : World), Rep P ξ G h w → GlobOk P G → DenL ξ G l args.toList → Calls P f args w (Answers P ξ G h w v h') := by
  have ih := run_ok hN (fun F hF => draw_ok hm hF) hh hd cf fuel
  have hD : DefOk P (defF P dhooks (runCall P hooks dhooks cf fuel) cf) := by
    intro f l h v h' h0
    rcases findH_ok h0 with ⟨k, hk, h1⟩ | h1
    · exact hd _ hk l h v h' h1
    · exact callDef_ok hN ih (draw_ok hm ih) l h v h' h1
  exact callBody_calls hN ih (draw_ok hm ih) hD h0
/-- a heap of which nothing is written -/
def RoH (h : H) : Prop := ∀ b x, h.get b = some x → ¬ x.wr
theorem Step.below {G G' : Gh} {h h' : H} {w w' : World} (s : Step G h w G' h' w') (hr : RoH h) : RowKit.Below w.heap.size w w' :=
  ⟨s.os, s.tape, s.output, s.size, fun k hk => s.keep k hk (fun ⟨b, x, g, h1, h2, _⟩ => hr b x h1 h2)⟩
/-- a closed call that answers true -/
theorem true_calls (hN : NoCount P) (hm : P.follows .mixedOrders = true) {hooks dhooks : List (Nat × Hook)} (hh : ∀ p ∈ hooks, CallOk1 P p.1 p.2) (hd : ∀ p ∈ dhooks, DefOk1 P p.1 p.2) {cf fuel f : Nat} {h : H}
    (h0 : isTrue (runTop P hooks dhooks cf fuel f [] h) = true) (hr : RoH h) {G : Gh} {w : World} (rp : Rep P (fun _ => undef) G h w) (hG : GlobOk P G) :
    Calls P f #[] w fun e w' => e = .returned (.bool true) ∧ RowKit.Below w.heap.size w w' := by
  obtain ⟨h', h1⟩ := isTrue_ok h0
  refine (runTop_calls hN hm hh hd h1 _ G #[] w rp hG (by simp [DenL])).mono fun e w' ⟨x, he, G', q1, q2, q3⟩ => ?_
  simp only [Den] at q1
  subst q1
  exact ⟨he, q3.below hr⟩
/-- a heap of which nothing is known -/
theorem h0_get (n b : Nat) : (h0 n).get b = none := by
  show ((((([[repl n [none]]] : List (List (List (Option Blk))))[b / 64]?).bind (·[b % 64 / 8]?)).bind (·[b % 8]?)).bind id) = none
  cases b / 64 with
  | zero =>
    cases b % 64 / 8 with
    | zero =>
      simp only [List.getElem?_cons_zero, Option.bind_some, repl_get]
      split <;> rfl
    | succ k => simp
  | succ k => simp
def vars (n : Nat) : Gh := (List.range n).map fun g => some ⟨g, 0, 0⟩
theorem vars_rep {n : Nat} {w : World} (hn : n ≤ w.heap.size) {ξ : Nat → Value} : Rep P ξ (vars n) (h0 n) w := by
  refine ⟨by simp [vars, h0], fun b g hb => ?_, fun b x hb => ?_, fun b b' x x' g g' hb => ?_⟩
  · simp only [vars, List.getElem?_map, Option.map_eq_some_iff] at hb
    obtain ⟨a, h1, h2⟩ := hb
    rw [List.getElem?_eq_some_iff] at h1
    obtain ⟨h1, h3⟩ := h1
    simp at h1 h3 h2
    subst h2
    show a < _
    omega
  · rw [h0_get] at hb; cases hb
  · rw [h0_get] at hb; cases hb
theorem vars_glob {n : Nat} (h : P.globals.size = n) : GlobOk P (vars n) := fun g hg => ⟨0, by
  rw [h] at hg
  simp [vars, hg]⟩
theorem vars_ro (n : Nat) : RoH (h0 n) := fun b x hb => by rw [h0_get] at hb; cases hb
/-- no function of the program is the runtime's count -/
def noCount (P : Program) : Bool := P.funcs.toList.all fun fn => fn.body.isNone || !(fn.name == "runtime.NumGoroutine")
theorem noCount_ok (h : noCount P = true) : NoCount P := by
  intro f fn hf hb
  have hm : fn ∈ P.funcs.toList := by
    rw [Array.getElem?_eq_some_iff] at hf
    obtain ⟨hl, rfl⟩ := hf
    simp
  have := (List.all_eq_true.1 h) fn hm
  cases hq : (fn.name == "runtime.NumGoroutine") with
  | false => rfl
  | true =>
    rw [hq] at this
    simp at this
    rw [this] at hb
    cases hb
end
end Go.Ev
namespace Go.Ev
open Go
section
variable {P : Program}
/-! functions without bodies: how often a byte stands in a text; two texts compared; a pointer handed on -/
theorem count_loop (c b : Nat) (hb : b < 256) {β : Type} (K : Nat → β) : ∀ (n k : Nat),
    Nat.rec (motive := fun _ => Nat → β) K (fun i ih k => cond (Nat.beq (Nat.mod (Nat.div c (Nat.pow 256 i)) 256) b) (ih (Nat.succ k)) (ih k)) n k = K (k + Lib.countByte (digs n c) (UInt8.ofNat b))
  | 0, k => by
    show K k = _
    simp [digs, Lib.countByte]
  | n + 1, k => by
    show cond (Nat.beq (c / 256 ^ n % 256) b) (Nat.rec (motive := fun _ => Nat → β) K (fun i ih k => cond (Nat.beq (Nat.mod (Nat.div c (Nat.pow 256 i)) 256) b) (ih (Nat.succ k)) (ih k)) n (k + 1)) (Nat.rec (motive := fun _ => Nat → β) K (fun i ih k => cond (Nat.beq (Nat.mod (Nat.div c (Nat.pow 256 i)) 256) b) (ih (Nat.succ k)) (ih k)) n k) = _
    rw [count_loop c b hb K n (k + 1), count_loop c b hb K n k]
    have e := u8_eq (a := c / 256 ^ n % 256) (b := b) (Nat.mod_lt _ (by decide)) hb
    unfold Lib.countByte
    simp only [digs, List.count_cons, e]
    cases Nat.beq (c / 256 ^ n % 256) b with
    | true => simp only [cond_true, if_true]; congr 1; omega
    | false => simp
noncomputable def hCnt : Hook := fun l h => match l with
  | [.str n c, .int .u8 (.ofNat b)] => cond (Nat.ble b 255) (Nat.rec (motive := fun _ => Nat → R (V × H)) (fun k => forceNat k fun k => .ok (.int .i64 (.ofNat k), h)) (fun i ih k => cond (Nat.beq (Nat.mod (Nat.div c (Nat.pow 256 i)) 256) b) (ih (Nat.succ k)) (ih k)) n 0) (.no 302)
  | _ => .no 302
theorem cnt_ok {f : Nat} (hE : Ext P f Extern.BytealgCount.count) : CallOk1 P f hCnt := by
  intro l h v h' h0
  unfold hCnt at h0
  split at h0
  case h_2 => cases h0
  rename_i n c b
  cases hb : Nat.ble b 255 with
  | false => rw [hb] at h0; cases h0
  | true =>
    rw [hb] at h0
    have hb' : b < 256 := by have := Nat.le_of_ble_eq_true hb; omega
    have h1 : Nat.rec (motive := fun _ => Nat → R (V × H)) (fun k => forceNat k fun k => .ok (.int .i64 (.ofNat k), h)) (fun i ih k => cond (Nat.beq (Nat.mod (Nat.div c (Nat.pow 256 i)) 256) b) (ih (Nat.succ k)) (ih k)) n 0 = R.ok (v, h') := h0
    rw [count_loop c b hb', forceNat_eq, Nat.zero_add] at h1
    cases h1
    refine ⟨rfl, fun ξ G args w rp hG hd => ?_⟩
    simp only [DenL, Den] at hd
    obtain ⟨x, xs, e1, ⟨_, e2⟩, y, ys, e3, e4, e5⟩ := hd
    have ea : args = #[.string ⟨(digs n c).toArray⟩, .int .u8 (b : Int)] := by
      apply Array.toList_inj.1
      rw [e1, e2, e3, e4, e5]
      rfl
    subst ea
    exact callW_ext hE (Lib.run_countString _ _ w) (post_same rp (by simp [Den]))
theorem compare_less : ∀ (a b : List UInt8), Lib.compareBytes a b = if Op.bytesLess a b then -1 else if (a == b) = true then 0 else 1
  | [], [] => rfl
  | [], _ :: _ => rfl
  | _ :: _, [] => rfl
  | x :: a, y :: b => by
    have ih := compare_less a b
    simp only [Lib.compareBytes, Op.bytesLess]
    by_cases hxy : x = y
    · subst hxy
      have hlt : ¬ x < x := UInt8.lt_irrefl x
      simp only [hlt, if_false, ih, beq_self_eq_true, Bool.true_and, decide_false, Bool.false_or]
      simp
    · by_cases hlt : x < y
      · simp [hlt]
      · have hyx : y < x := UInt8.lt_of_le_of_ne (UInt8.not_lt.1 hlt) (Ne.symm hxy)
        have hne : (x == y) = false := by simpa using hxy
        simp [hlt, hyx, hxy]
noncomputable def hCmpS : Hook := fun l h => match l with
  | [.str n a, .str m b] => cond (ltS n a m b) (.ok (.int .i64 (.negSucc 0), h)) (cond (eqS n a m b) (.ok (.int .i64 (.ofNat 0), h)) (.ok (.int .i64 (.ofNat 1), h)))
  | _ => .no 303
theorem cmpS_ok {f : Nat} (hE : Ext P f Extern.BytealgCompare.compare) : CallOk1 P f hCmpS := by
  intro l h v h' h0
  unfold hCmpS at h0
  split at h0
  case h_2 => cases h0
  rename_i n a m b
  have hds : h'.ds = h.ds := by
    cases hl : ltS n a m b <;> cases he : eqS n a m b <;> rw [hl] at h0 <;> try rw [he] at h0
    all_goals (cases h0; rfl)
  refine ⟨hds, fun ξ G args w rp hG hd => ?_⟩
  simp only [DenL, Den] at hd
  obtain ⟨x, xs, e1, ⟨q1, e2⟩, y, ys, e3, ⟨q2, e4⟩, e5⟩ := hd
  have ea : args = #[.string ⟨(digs n a).toArray⟩, .string ⟨(digs m b).toArray⟩] := by
    apply Array.toList_inj.1
    rw [e1, e2, e3, e4, e5]
  subst ea
  have hr := Lib.run_compareString (P := P) ⟨(digs n a).toArray⟩ ⟨(digs m b).toArray⟩ w
  rw [show (⟨(digs n a).toArray⟩ : ByteArray).data.toList = digs n a from rfl, show (⟨(digs m b).toArray⟩ : ByteArray).data.toList = digs m b from rfl, compare_less, ← ltS_eq q1 q2, ← eqS_eq q1 q2] at hr
  refine callW_ext hE hr ?_
  cases hl : ltS n a m b with
  | true =>
    rw [hl] at h0
    cases h0
    exact post_same rp (by simp [Den])
  | false =>
    rw [hl] at h0
    cases he : eqS n a m b with
    | true =>
      rw [he] at h0
      cases h0
      exact post_same rp (by simp [Den])
    | false =>
      rw [he] at h0
      cases h0
      exact post_same rp (by simp [Den])
noncomputable def hSame : Hook := fun l h => match l with
  | [x] => .ok (x, h)
  | _ => .no 304
theorem same_ok {f : Nat} (hE : Ext P f Extern.AbiNoEscape.same) : CallOk1 P f hSame := by
  intro l h v h' h0
  unfold hSame at h0
  split at h0
  case h_2 => cases h0
  cases h0
  refine ⟨rfl, fun ξ G args w rp hG hd => ?_⟩
  simp only [DenL] at hd
  obtain ⟨x, xs, e1, hx, e2⟩ := hd
  have ea : args = #[x] := by
    apply Array.toList_inj.1
    rw [e1, e2]
  subst ea
  exact callW_ext (v := x) (w' := w) hE rfl (post_same rp hx)
end
end Go.Ev
namespace Go.Ev
open Go
section
variable {P : Program}
/-! a region that draws its order: operations that do nothing to memory, one that lays a block, and a last one -/
def nice : Op → Bool
  | .move _ => true
  | .assign _ => true
  | .load .. => true
  | .convert .. => true
  | .binOp .. => true
  | .unOp .. => true
  | .index .. => true
  | .build .. => true
  | .alloc _ => true
  | .fieldAddr .. => true
  | .field .. => true
  | .indexAddr .. => true
  | .extract .. => true
  | _ => false
theorem execOp_same {ρ ρ' : Operand → Value} {o : Oper} (hn : nice o.op = true) (h : ∀ x ∈ o.op.operands.toList, ρ x = ρ' x) : execOp ρ o = execOp ρ' o := by
  unfold execOp
  cases ho : o.op with
  | build t ps =>
    rw [ho] at h
    have e : (ps.map fun (i, x) => (i, ρ x)) = ps.map fun (i, x) => (i, ρ' x) := by
      apply Array.map_congr_left
      rintro ⟨i, x⟩ hp
      have := h x (by simp only [Op.operands, List.mem_map]; exact ⟨(i, x), by simpa using hp, rfl⟩)
      simp only [this]
    dsimp only
    rw [e]
  | move x => rw [ho] at h; simp only [h x (by simp [Op.operands])]
  | assign x => rw [ho] at h; simp only [h x (by simp [Op.operands])]
  | load t x => rw [ho] at h; simp only [h x (by simp [Op.operands])]
  | convert s d x => rw [ho] at h; simp only [h x (by simp [Op.operands])]
  | binOp op t x y u => rw [ho] at h; simp only [h x (by simp [Op.operands]), h y (by simp [Op.operands])]
  | unOp op t x => rw [ho] at h; simp only [h x (by simp [Op.operands])]
  | index t x y => rw [ho] at h; simp only [h x (by simp [Op.operands]), h y (by simp [Op.operands])]
  | indexAddr t x y => rw [ho] at h; simp only [h x (by simp [Op.operands]), h y (by simp [Op.operands])]
  | fieldAddr t x y => rw [ho] at h; simp only [h x (by simp [Op.operands])]
  | field t x y => rw [ho] at h; simp only [h x (by simp [Op.operands])]
  | extract x y => rw [ho] at h; simp only [h x (by simp [Op.operands])]
  | alloc t => rfl
  | _ =>
    have hno : nice o.op = false := by rw [ho]; rfl
    exact Bool.noConfusion (hno.symm.trans hn)
def put1 (d : Option Nat) (v : Value) (T : Array Value) : Array Value := match d with
  | some d => T.setIfInBounds d v
  | none => T
def putAll : List Oper → List Value → Array Value → Array Value
  | o :: ops, v :: vs, T => putAll ops vs (put1 o.dst v T)
  | _, _, T => T
theorem put1_size (d : Option Nat) (v : Value) (T : Array Value) : (put1 d v T).size = T.size := by cases d <;> simp [put1]
theorem putAll_size : ∀ (ops : List Oper) (vs : List Value) (T : Array Value), (putAll ops vs T).size = T.size
  | [], _, _ => by simp [putAll]
  | _ :: _, [], _ => by simp [putAll]
  | o :: ops, v :: vs, T => by simp only [putAll]; rw [putAll_size ops vs, put1_size]
theorem put1_other {d : Option Nat} {t : Nat} (h : d ≠ some t) (v : Value) (T : Array Value) : (put1 d v T)[t]? = T[t]? := by
  cases d with
  | none => rfl
  | some d => simp only [put1]; rw [Array.getElem?_setIfInBounds, if_neg (fun e => h (by rw [e]))]
theorem putAll_other : ∀ {ops : List Oper} {vs : List Value} {T : Array Value} {t : Nat}, (∀ o ∈ ops.take vs.length, o.dst ≠ some t) → (putAll ops vs T)[t]? = T[t]?
  | [], _, _, _, _ => by simp [putAll]
  | _ :: _, [], _, _, _ => by simp [putAll]
  | o :: ops, v :: vs, T, t, h => by
    simp only [putAll]
    rw [putAll_other (fun p hp => h p (by simp [hp])), put1_other (h o (by simp))]
theorem putAll_at : ∀ {ops : List Oper} {vs : List Value} {T : Array Value} {i d : Nat} {o : Oper} {v : Value}, ops[i]? = some o → vs[i]? = some v → o.dst = some d → d < T.size → (∀ j p, ops[j]? = some p → j ≠ i → p.dst ≠ some d) → (putAll ops vs T)[d]? = some v
  | [], _, _, _, _, _, _, h, _, _, _, _ => by simp at h
  | _ :: _, [], _, _, _, _, _, _, h, _, _, _ => by simp at h
  | q :: ops, x :: vs, T, 0, d, o, v, h1, h2, h3, h4, h5 => by
    simp at h1 h2
    subst h1 h2
    simp only [putAll]
    rw [putAll_other, h3]
    · simp [put1, h4]
    · intro p hp
      obtain ⟨j, hj, rfl⟩ := List.mem_iff_getElem.1 (List.mem_of_mem_take hp)
      exact h5 (j + 1) _ (by simp [hj]) (by omega)
  | q :: ops, x :: vs, T, i + 1, d, o, v, h1, h2, h3, h4, h5 => by
    simp only [putAll]
    exact putAll_at (i := i) (by simpa using h1) (by simpa using h2) h3 (by rw [put1_size]; exact h4) fun j p hp hj => h5 (j + 1) p (by simpa using hp) (by omega)
/-- operation by operation: what it gives -/
def Steps (P : Program) (w : World) (T : Array Value) (ai : Nat) : List Oper → List Value → Nat → Prop
  | o :: ops, v :: vs, i => (i = ai ∨ (execOp (Act.eval ⟨T, []⟩) o).run P w = .ok (.value v) w) ∧ Steps P w T ai ops vs (i + 1)
  | _, _, _ => True
theorem Steps.get {w : World} {T : Array Value} {ai : Nat} : ∀ {ops : List Oper} {vs : List Value} {n i : Nat} {o : Oper} {v : Value}, Steps P w T ai ops vs n → ops[i]? = some o → vs[i]? = some v → n + i ≠ ai → (execOp (Act.eval ⟨T, []⟩) o).run P w = .ok (.value v) w
  | [], _, _, _, _, _, _, h, _, _ => by simp at h
  | _ :: _, [], _, _, _, _, _, _, h, _ => by simp at h
  | q :: ops, x :: vs, n, 0, o, v, hs, h1, h2, h3 => by
    simp at h1 h2
    subst h1 h2
    exact hs.1.resolve_left h3
  | q :: ops, x :: vs, n, i + 1, o, v, hs, h1, h2, h3 => Steps.get hs.2 (by simpa using h1) (by simpa using h2) (by omega)
/-- the region is of this kind (n: how many temporaries) -/
def okAll (ops : List Oper) (ai n : Nat) : Bool := regOk ops && (List.range ops.length).all fun i => match ops[i]? with
  | some o => o.guard.isNone && (looks ops o).all (fun t => (List.range ops.length).all fun j => match ops[j]? with
      | some p => (p.dst != some t) || Nat.ble (j + 1) i
      | none => true) && (Nat.beq (i + 1) ops.length || (nice o.op && (match o.dst with
      | some d => Nat.ble (d + 1) n && (List.range ops.length).all (fun j => Nat.beq j i || match ops[j]? with
        | some p => p.dst != some d
        | none => true)
      | none => false))) && (!Nat.beq (i + 1) ops.length || (List.range i).all (fun j => reach ops i i j))
  | none => false
structure OkAt (ops : List Oper) (n i : Nat) (o : Oper) : Prop where
  guard : o.guard = none
  looks : ∀ t ∈ looks ops o, ∀ j p, ops[j]? = some p → p.dst = some t → j < i
  mid : i + 1 < ops.length → nice o.op = true ∧ ∃ d, o.dst = some d ∧ d < n ∧ ∀ j p, ops[j]? = some p → j ≠ i → p.dst ≠ some d
  last : i + 1 = ops.length → ∀ j, j < i → reach ops i i j = true
theorem okAll_at {ops : List Oper} {ai n : Nat} (h : okAll ops ai n = true) {i : Nat} {o : Oper} (ho : ops[i]? = some o) : OkAt ops n i o := by
  unfold okAll at h
  have hi : i < ops.length := (List.getElem?_eq_some_iff.1 ho).1
  rw [Bool.and_eq_true] at h
  have h1 := List.all_eq_true.1 h.2 i (by simpa using hi)
  rw [ho] at h1
  simp only [Bool.and_eq_true] at h1
  obtain ⟨⟨⟨h1, h2⟩, h3⟩, h4⟩ := h1
  refine ⟨by simpa using h1, fun t ht j p hp hd => ?_, fun hl => ?_, fun hl j hj => ?_⟩
  · have := List.all_eq_true.1 (List.all_eq_true.1 h2 t ht) j (by simpa using (List.getElem?_eq_some_iff.1 hp).1)
    rw [hp] at this
    simp only [hd, bne_self_eq_false, Bool.false_or] at this
    exact Nat.lt_of_succ_le (Nat.le_of_ble_eq_true this)
  · have hb : Nat.beq (i + 1) ops.length = false := by
      cases hq : Nat.beq (i + 1) ops.length with
      | false => rfl
      | true => have := Nat.eq_of_beq_eq_true hq; omega
    rw [hb, Bool.false_or, Bool.and_eq_true] at h3
    refine ⟨h3.1, ?_⟩
    have h5 := h3.2
    split at h5
    · rename_i d hd
      rw [Bool.and_eq_true] at h5
      refine ⟨d, hd, Nat.lt_of_succ_le (Nat.le_of_ble_eq_true h5.1), fun j p hp hj => ?_⟩
      have := List.all_eq_true.1 h5.2 j (by simpa using (List.getElem?_eq_some_iff.1 hp).1)
      rw [hp, Bool.or_eq_true] at this
      rcases this with h | h
      · exact absurd (Nat.eq_of_beq_eq_true h) hj
      · simpa using h
    · cases h5
  · rw [hl] at h4
    rw [show Nat.beq ops.length ops.length = true from Nat.beq_refl _, Bool.not_true, Bool.false_or] at h4
    exact List.all_eq_true.1 h4 j (by simpa using hj)
open Classical in
/-- a region by an invariant over what is done -/
theorem any_inv {ops : Array Oper} (hok : regOk ops.toList = true) {Q : Exit → Act → World → Prop} {I : (Nat → Prop) → Act → World → Prop}
    (hs : ∀ (D : Nat → Prop) (i : Nat) (o : Oper) (a : Act) (w : World), Down ops.toList D → Rdy ops.toList D i → ops.toList[i]? = some o → I D a w → ∀ K : Act → World → Prop, (∀ a' w', I (fun j => D j ∨ j = i) a' w' → K a' w') → wpOp P ops Q i K a w)
    (hQ : ∀ (D : Nat → Prop) (a : Act) (w : World), (∀ j, j < ops.size → D j) → I D a w → Q .normal a w) :
    ∀ (fuel : Nat) (listed : Array Bool) (D : Nat → Prop) (a : Act) (w : World), listed.size = ops.size → (∀ j, D j ↔ listed.getD j false = true) → Down ops.toList D → I D a w →
      (∀ S : List Nat, S.Nodup → (∀ j ∈ S, j < ops.size ∧ ¬ D j) → S.length ≤ fuel) → wpAny P .any ops Q fuel listed a w := by
  have hlen : ops.toList.length = ops.size := by simp
  have hfin : ∀ (listed : Array Bool) (D : Nat → Prop) (a : Act) (w : World), listed.size = ops.size → (∀ j, D j ↔ listed.getD j false = true) → I D a w → Region.ready .any ops listed = [] → Q .normal a w := by
    intro listed D a w hs hD W hr
    refine hQ D a w (fun j hj => all_done hok (fun i hi => ?_) j (by omega)) W
    have := (ready_iff (i := i) hs hD).2 hi
    rw [hr] at this
    cases this
  intro fuel
  induction fuel with
  | zero =>
    intro listed D a w hs hD hdown W hf
    have hr : Region.ready .any ops listed = [] := by
      cases hr : Region.ready .any ops listed with
      | nil => rfl
      | cons i l =>
        have hi := (ready_iff (i := i) hs hD).1 (by rw [hr]; simp)
        have hin := hi.1
        have := hf [i] (by simp) (by intro j hj; simp at hj; subst hj; exact ⟨by omega, hi.2.1⟩)
        simp at this
    exact ⟨hr, hfin listed D a w hs hD W hr⟩
  | succ fuel ih =>
    intro listed D a w hsz hD hdown W hf
    refine ⟨hfin listed D a w hsz hD W, fun i hi => ?_⟩
    have hi := (ready_iff (i := i) hsz hD).1 hi
    have hin := hi.1
    obtain ⟨o, ho⟩ : ∃ o, ops.toList[i]? = some o := ⟨ops.toList[i], by simp⟩
    refine hs D i o a w hdown hi ho W (wpAny P .any ops Q fuel (listed.setIfInBounds i true)) fun a' w' W' => ih _ _ a' w' (by simp [hsz]) (fun j => ?_) (down_add hdown hi) W' fun S hS hSD => ?_
    · simp only [Array.getD_eq_getD_getElem?, Array.getElem?_setIfInBounds]
      by_cases hj : i = j
      · subst hj
        have hin' : i < ops.size := by omega
        simp [hsz, hin']
      · rw [if_neg hj, ← Array.getD_eq_getD_getElem?, ← hD j]
        exact ⟨fun h => h.resolve_right fun e => hj e.symm, .inl⟩
    · have := hf (i :: S) (List.nodup_cons.2 ⟨fun h => (hSD i h).2 (.inr rfl), hS⟩) (by
        intro j hj
        simp at hj
        rcases hj with rfl | hj
        · exact ⟨by omega, hi.2.1⟩
        · exact ⟨(hSD j hj).1, fun h => (hSD j hj).2 (.inl h)⟩)
      simp at this
      omega
open Classical in
theorem wp_region_steady {ops : List Oper} {id : Nat} {a : Act} {w : World} {Q : Exit → Act → World → Prop} (ai n : Nat) (z : Obj) (vals : List Value) (hm : P.follows .mixedOrders = true) (hok : okAll ops ai n = true) (hv : vals.length + 1 = ops.length) (hai : ai + 1 < ops.length) (hn : a.tmps.size = n)
    (hs : ∀ w', (w' = w.drew ∨ w' = w.drew.alloc z) → Steps P w' (putAll ops vals a.tmps) ai ops vals 0)
    (ha : ∀ o v, ops[ai]? = some o → vals[ai]? = some v → (execOp (Act.eval ⟨putAll ops vals a.tmps, []⟩) o).run P w.drew = .ok (.value v) (w.drew.alloc z))
    (hl : ∀ o, ops[vals.length]? = some o → o.wp P ⟨putAll ops vals a.tmps, a.defers⟩ (w.drew.alloc z) (fun a w => Q .normal a w) Q) : (Code.region id ops.toArray true).wp P Q a w := by
  refine wp_region_any hm ?_
  have hreg : regOk ops = true := by
    unfold okAll at hok
    rw [Bool.and_eq_true] at hok
    exact hok.1
  obtain ⟨L, hL⟩ : ∃ L, vals.length = L := ⟨_, rfl⟩
  obtain ⟨Tf, hTf⟩ : ∃ Tf, putAll ops vals a.tmps = Tf := ⟨_, rfl⟩
  rw [hTf] at ha hl
  simp only [hTf] at hs
  rw [hL] at hl
  have hTs : Tf.size = n := by rw [← hTf, putAll_size, hn]
  have hun : ∀ t, (∀ (j : Nat) (p : Oper), ops[j]? = some p → j < L → p.dst ≠ some t) → Tf[t]? = a.tmps[t]? := fun t ht => by
    rw [← hTf]
    refine putAll_other fun o ho => ?_
    obtain ⟨j, hj, rfl⟩ := List.mem_iff_getElem.1 ho
    simp only [List.length_take, hL] at hj
    refine ht j _ ?_ (by omega)
    rw [List.getElem?_eq_getElem (by omega)]
    simp
  have hat : ∀ (i : Nat) (o : Oper) (d : Nat) (v : Value), ops[i]? = some o → vals[i]? = some v → o.dst = some d → Tf[d]? = some v := fun i o d v h1 h2 h3 => by
    have hi : i < L := by rw [← hL]; exact (List.getElem?_eq_some_iff.1 h2).1
    obtain ⟨_, d', e1, e2, e3⟩ := (okAll_at hok h1).mid (by omega)
    rw [h3] at e1
    cases e1
    rw [← hTf]
    exact putAll_at h1 h2 h3 (by rw [hn]; exact e2) e3
  refine any_inv (P := P) (Q := Q) (ops := ops.toArray) hreg (I := fun D a' w' => (D L ∧ Q .normal a' w') ∨ (¬ D L ∧ a'.defers = a.defers ∧ a'.tmps.size = n ∧ (∀ (i : Nat) (o : Oper) (d : Nat), D i → ops[i]? = some o → o.dst = some d → a'.tmps[d]? = Tf[d]?) ∧ (∀ t, (∀ (i : Nat) (o : Oper), D i → ops[i]? = some o → o.dst ≠ some t) → a'.tmps[t]? = a.tmps[t]?) ∧ w' = if D ai then w.drew.alloc z else w.drew))
    ?_ ?_ _ _ (fun _ => False) a _ (by simp) (fun j => by rw [Array.getD_eq_getD_getElem?, Array.getElem?_replicate]; split <;> simp) ⟨fun _ h => h.elim, fun _ _ h => h.elim⟩ (.inr ⟨fun h => h, rfl, hn, fun _ _ _ h => h.elim, fun _ _ => rfl, by rw [if_neg (fun h => h)]; rfl⟩) ?_
  · intro D i o a' w' hD hi ho hI K hK
    have ho' : ops[i]? = some o := by simpa using ho
    have hop : ops.toArray[i]? = some o := by simpa using ho'
    have hA := okAll_at hok ho'
    have hil : i < ops.length := by simpa using hi.1
    rcases hI with ⟨hDL, _⟩ | ⟨hDL, hdef, hsz, hin, hout, hw⟩
    · exfalso
      obtain ⟨oL, hoL⟩ : ∃ p, ops[L]? = some p := ⟨ops[L]'(by omega), List.getElem?_eq_getElem _⟩
      have hiL : i < L := by
        rcases Nat.lt_trichotomy i L with h | h | h
        · exact h
        · subst h; exact absurd hDL hi.2.1
        · omega
      exact hi.2.1 (down_reach hD hDL ((okAll_at hok hoL).last (by omega) i hiL))
    have hwrit : ∀ t, (∀ (j : Nat) (p : Oper), ops[j]? = some p → p.dst = some t → j < i → D j) → (∀ (j : Nat) (p : Oper), ops[j]? = some p → p.dst = some t → j < i) → a'.tmps[t]? = Tf[t]? := fun t h1 h2 => by
      by_cases hex : ∃ (j : Nat) (p : Oper), ops[j]? = some p ∧ p.dst = some t
      · obtain ⟨j, p, hp, hd⟩ := hex
        exact hin j p t (h1 j p hp hd (h2 j p hp hd)) hp hd
      · rw [hout t (fun j p _ hp hd => hex ⟨j, p, hp, hd⟩), hun t (fun j p hp _ hd => hex ⟨j, p, hp, hd⟩)]
    have hev : ∀ x ∈ o.op.operands.toList, a'.eval x = Act.eval ⟨Tf, []⟩ x := fun x hx => by
      cases x with
      | tmp t =>
        have htl : t ∈ Ev.looks ops o := by
          unfold Ev.looks
          rw [List.mem_append]
          exact .inl (List.mem_filterMap.2 ⟨.tmp t, hx, rfl⟩)
        have hback := hA.looks t htl
        have e : a'.tmps[t]? = Tf[t]? := hwrit t (fun j p hp hd hji => by
          have hc : clash ops o p = true := by
            unfold clash hits
            rw [hd]
            simp only [List.any_eq_true, Bool.or_eq_true]
            exact .inl (.inr ⟨t, htl, Nat.beq_refl t⟩)
          exact rdy_reach hD hi ((regOk_spec hreg ho').2 j hji p hp hc)) hback
        simp only [Act.eval, Array.getD_eq_getD_getElem?, e]
      | const v => rfl
      | global g => rfl
      | func f => rfl
    have hwant : ∀ y, Region.wanted o y = true := fun y => by simp [Region.wanted, hA.guard]
    unfold wpOp
    rw [hop]
    simp only [hwant, if_true]
    left
    rcases Nat.lt_or_ge (i + 1) ops.length with hmid | hlast
    · obtain ⟨hnice, d, hd, hdn, huq⟩ := hA.mid hmid
      obtain ⟨v, hv'⟩ : ∃ v, vals[i]? = some v := ⟨vals[i]'(by omega), List.getElem?_eq_getElem _⟩
      have hrun : (execOp a'.eval o).run P w' = .ok (.value v) (if i = ai then w.drew.alloc z else w') := by
        rw [execOp_same hnice hev]
        by_cases hia : i = ai
        · subst hia
          rw [if_pos rfl, hw, if_neg hi.2.1]
          exact ha o v ho' hv'
        · rw [if_neg hia]
          exact (hs w' (by rw [hw]; split; exact .inr rfl; exact .inl rfl)).get ho' hv' (by omega)
      unfold Oper.wp
      rw [hrun]
      refine hK _ _ (.inr ⟨fun h => ?_, ?_, ?_, ?_, ?_, ?_⟩)
      · rcases h with h | h
        · exact hDL h
        · omega
      · rw [hd]; exact hdef
      · rw [hd]; simp only [Act.put, Array.size_setIfInBounds]; exact hsz
      · intro j p t hj hp hpt
        rw [hd]
        simp only [Act.put]
        by_cases hji : j = i
        · subst hji
          rw [ho'] at hp
          cases hp
          rw [hd] at hpt
          cases hpt
          rw [Array.getElem?_setIfInBounds, if_pos rfl, if_pos (show d < a'.tmps.size by rw [hsz]; exact hdn), hat _ _ _ _ ho' hv' hd]
        · have hne : d ≠ t := fun e => huq j p hp hji (by rw [e]; exact hpt)
          rw [Array.getElem?_setIfInBounds, if_neg hne]
          exact hin j p t (hj.resolve_right hji) hp hpt
      · intro t ht
        have hne : d ≠ t := fun e => ht i o (.inr rfl) ho' (by rw [hd, e])
        rw [hd]
        simp only [Act.put]
        rw [Array.getElem?_setIfInBounds, if_neg hne]
        exact hout t fun j p hj hp => ht j p (.inl hj) hp
      · by_cases hia : i = ai
        · subst hia
          rw [if_pos rfl, if_pos (.inr rfl)]
        · rw [if_neg hia, hw]
          by_cases hDa : D ai
          · rw [if_pos hDa, if_pos (.inl hDa)]
          · rw [if_neg hDa, if_neg (fun h => h.elim hDa (fun e => hia e.symm))]
    · have hiL : i = L := by omega
      have hall : ∀ j, j < i → D j := fun j hj => rdy_reach hD hi (hA.last (by omega) j hj)
      have hact : a' = ⟨Tf, a.defers⟩ := by
        have e : a'.tmps = Tf := by
          apply Array.ext_getElem?
          intro t
          by_cases hex : ∃ (j : Nat) (p : Oper), ops[j]? = some p ∧ p.dst = some t ∧ j < L
          · obtain ⟨j, p, hp, hpt, hj⟩ := hex
            exact hin j p t (hall j (by omega)) hp hpt
          · rw [hout t (fun j p hj hp hpt => ?_), hun t (fun j p hp hj hpt => hex ⟨j, p, hp, hpt, hj⟩)]
            have hjl : j < ops.length := by simpa using hD.1 j hj
            rcases Nat.lt_or_ge j L with h | h
            · exact hex ⟨j, p, hp, hpt, h⟩
            · have : j = i := by omega
              subst this
              exact hi.2.1 hj
        cases a'
        simp only at e hdef
        rw [e, hdef]
      rw [hact, hw, if_pos (hall ai (by omega))]
      refine Oper.wp_mono (fun a2 w2 h2 => hK _ _ (.inl ⟨.inr hiL.symm, h2⟩)) (hl o (by rw [← hiL]; exact ho'))
  · intro D a' w' hall hI
    rcases hI with ⟨_, h⟩ | ⟨h, _⟩
    · exact h
    · exact absurd (hall L (by simp; omega)) h
  · intro S hS hSD
    exact nodup_le _ S hS fun j hj => (hSD j hj).1
end
end Go.Ev
