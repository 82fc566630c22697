/- An interpreter of the model's code, run by the kernel at closed calls: readers and what lays blocks. No program in sight. -/
import Derived.Test.YtnblgomjmmnkaaaGreatDoorEvB
import Derived.Laws.Entries
import Derived.Laws.BytesString
set_option linter.unusedVariables false
set_option linter.unusedSimpArgs false
namespace Go.Ev
open Go
section
variable {P : Program} {γ : Type}
theorem beq_addr (g : GB) (o p : Nat) : ((⟨g.addr, g.off + o, none⟩ : Addr) == ⟨g.addr, g.off + p, none⟩) = Nat.beq o p := by
  rw [Bool.eq_iff_iff]
  simp only [beq_iff_eq, Addr.mk.injEq, true_and, and_true]
  constructor
  · intro h
    have : o = p := by omega
    subst this; exact Nat.beq_refl o
  · intro h; rw [Nat.eq_of_beq_eq_true h]
set_option maxHeartbeats 2000000 in
theorem eqK_ok {t : TypeId} {x y : V} {K : Bool → R γ} {c : Nat} {r : γ} (h : eqK (.no c) (tyK P t) x y K = .ok r) :
    ∃ b, K b = .ok r ∧ ∀ (ξ : Nat → Value) (G : Gh) (d : Nat) (xx yy : Value) (w : World), Den ξ G x xx → Den ξ G y yy → (Op.equalIn (d + 1) t xx yy).run P w = .ok b w := by
  have ht := tyK_of P t
  generalize tyK P t = tk at h ht
  unfold eqK at h
  split at h
  · rename_i a b
    cases ht with
    | bool hu =>
      refine ⟨_, h, fun ξ G d xx yy w hx hy => ?_⟩
      simp only [Den] at hx hy
      subst hx; subst hy
      simp only [Op.equalIn, Sem.run_bind, underlying_run hu, Result.andThen_ok, Sem.run_pure]
      cases a <;> cases b <;> rfl
  · rename_i q j a k b
    cases ht with
    | int kk hu =>
      obtain ⟨e, h2⟩ := cond_ok h
      cases eqJ_eq e
      rw [eqI_eq] at h2
      refine ⟨_, h2, fun ξ G d xx yy w hx hy => ?_⟩
      simp only [Den] at hx hy
      subst hx; subst hy
      simp only [Op.equalIn, Sem.run_bind, underlying_run hu, Result.andThen_ok, Sem.run_pure, if_true]
      rfl
  · rename_i n a m b
    cases ht with
    | str hu =>
      refine ⟨_, h, fun ξ G d xx yy w hx hy => ?_⟩
      simp only [Den] at hx hy
      obtain ⟨q1, rfl⟩ := hx
      obtain ⟨q2, rfl⟩ := hy
      simp only [Op.equalIn, Sem.run_bind, underlying_run hu, Result.andThen_ok, Sem.run_pure, beq_toListBytes, bytes_list, eqS_eq q1 q2]
  · cases ht with
    | ptr e i hu hi =>
      refine ⟨_, h, fun ξ G d xx yy w hx hy => ?_⟩
      simp only [Den] at hx hy
      subst hx; subst hy
      simp [Op.equalIn, underlying_run hu]
  · cases ht with
    | ptr e i hu hi =>
      refine ⟨_, h, fun ξ G d xx yy w hx hy => ?_⟩
      simp only [Den] at hx hy
      obtain ⟨g, _, rfl⟩ := hy
      subst hx
      simp [Op.equalIn, underlying_run hu]
  · cases ht with
    | ptr e i hu hi =>
      refine ⟨_, h, fun ξ G d xx yy w hx hy => ?_⟩
      simp only [Den] at hx hy
      obtain ⟨g, _, rfl⟩ := hx
      subst hy
      simp [Op.equalIn, underlying_run hu]
  · rename_i q s b o c p
    cases ht with
    | ptr e i hu hi =>
      obtain ⟨hs, h2⟩ := cond_no h
      obtain ⟨hb, h3⟩ := cond_ok h2
      cases Nat.eq_of_beq_eq_true hb
      refine ⟨_, h3, fun ξ G d xx yy w hx hy => ?_⟩
      simp only [Den] at hx hy
      obtain ⟨g, hg, rfl⟩ := hx
      obtain ⟨g', hg', rfl⟩ := hy
      rw [hg] at hg'
      simp at hg'
      subst hg'
      have hs' : i.size ≠ 0 := Nat.ne_of_beq_eq_false hs
      simp only [Op.equalIn, Sem.run_bind, underlying_run hu, Result.andThen_ok, sizeOf_run hi, ne_eq, hs', not_false_eq_true, if_true, sameAddr, beq_self_eq_true, Sem.run_pure]
      rw [beq_addr]
  · cases ht with
    | ifc ms hu =>
      refine ⟨_, h, fun ξ G d xx yy w hx hy => ?_⟩
      simp only [Den] at hx hy
      obtain ⟨z, rfl, _⟩ := hy
      subst hx
      simp [Op.equalIn, underlying_run hu]
  · cases ht with
    | ifc ms hu =>
      refine ⟨_, h, fun ξ G d xx yy w hx hy => ?_⟩
      simp only [Den] at hx hy
      obtain ⟨z, rfl, _⟩ := hx
      subst hy
      simp [Op.equalIn, underlying_run hu]
  · cases ht with
    | map k e hu =>
      refine ⟨_, h, fun ξ G d xx yy w hx hy => ?_⟩
      simp only [Den] at hx hy
      subst hx; subst hy
      simp [Op.equalIn, underlying_run hu]
  · cases ht with
    | map k e hu =>
      refine ⟨_, h, fun ξ G d xx yy w hx hy => ?_⟩
      simp only [Den] at hx hy
      obtain ⟨g, _, rfl⟩ := hy
      subst hx
      simp [Op.equalIn, underlying_run hu]
  · cases ht with
    | map k e hu =>
      refine ⟨_, h, fun ξ G d xx yy w hx hy => ?_⟩
      simp only [Den] at hx hy
      obtain ⟨g, _, rfl⟩ := hx
      subst hy
      simp [Op.equalIn, underlying_run hu]
  · cases ht with
    | slc e i hu hi =>
      refine ⟨_, h, fun ξ G d xx yy w hx hy => ?_⟩
      simp only [Den] at hx hy
      subst hx; subst hy
      simp [Op.equalIn, underlying_run hu]
  · cases ht with
    | slc e i hu hi =>
      refine ⟨_, h, fun ξ G d xx yy w hx hy => ?_⟩
      simp only [Den] at hx hy
      obtain ⟨g, _, rfl⟩ := hy
      subst hx
      simp [Op.equalIn, underlying_run hu]
  · cases ht with
    | slc e i hu hi =>
      refine ⟨_, h, fun ξ G d xx yy w hx hy => ?_⟩
      simp only [Den] at hx hy
      obtain ⟨g, _, rfl⟩ := hx
      subst hy
      simp [Op.equalIn, underlying_run hu]
  · cases ht with
    | slc e i hu hi =>
      refine ⟨_, h, fun ξ G d xx yy w hx hy => ?_⟩
      simp only [Den] at hx hy
      obtain ⟨g, _, _, _, rfl⟩ := hy
      subst hx
      simp [Op.equalIn, underlying_run hu]
  · cases ht with
    | slc e i hu hi =>
      refine ⟨_, h, fun ξ G d xx yy w hx hy => ?_⟩
      simp only [Den] at hx hy
      obtain ⟨g, _, _, _, rfl⟩ := hx
      subst hy
      simp [Op.equalIn, underlying_run hu]
  · cases ht with
    | slc e i hu hi =>
      refine ⟨_, h, fun ξ G d xx yy w hx hy => ?_⟩
      simp only [Den] at hx hy
      obtain ⟨g, _, _, rfl⟩ := hy
      subst hx
      simp [Op.equalIn, underlying_run hu]
  · cases ht with
    | slc e i hu hi =>
      refine ⟨_, h, fun ξ G d xx yy w hx hy => ?_⟩
      simp only [Den] at hx hy
      obtain ⟨g, _, _, rfl⟩ := hx
      subst hy
      simp [Op.equalIn, underlying_run hu]
  · cases ht with
    | fnc a b v hu =>
      refine ⟨_, h, fun ξ G d xx yy w hx hy => ?_⟩
      simp only [Den] at hx hy
      subst hx; subst hy
      simp [Op.equalIn, underlying_run hu]
  · cases ht with
    | fnc a b v hu =>
      refine ⟨_, h, fun ξ G d xx yy w hx hy => ?_⟩
      simp only [Den] at hx hy
      obtain ⟨_, _, rfl, _⟩ := hy
      subst hx
      simp [Op.equalIn, underlying_run hu]
  · cases ht with
    | fnc a b v hu =>
      refine ⟨_, h, fun ξ G d xx yy w hx hy => ?_⟩
      simp only [Den] at hx hy
      obtain ⟨_, _, rfl, _⟩ := hx
      subst hy
      simp [Op.equalIn, underlying_run hu]
  · cases h
theorem eqsK_ok {fs : List Field} {l : List (Nat × Nat × Nat)} {o : Nat} {A B : List V} {K : Bool → R γ} {c : Nat} {r : γ} (hl : fieldsK P fs = some l) (hn : ∀ f ∈ fs, f.name ≠ "_")
    (h : eqsK P (.no c) l o (A.drop o) (B.drop o) K = .ok r) :
    ∃ b, K b = .ok r ∧ ∀ (ξ : Nat → Value) (G : Gh) (d : Nat) (xs ys : Array Value) (w : World), DenL ξ G A xs.toList → DenL ξ G B ys.toList → (Op.eqFields (d + 1) xs ys fs).run P w = .ok b w := by
  induction fs generalizing l o with
  | nil =>
    simp [fieldsK] at hl; subst hl
    exact ⟨true, h, fun _ _ _ _ _ _ _ _ => rfl⟩
  | cons f fs ih =>
    simp only [fieldsK] at hl
    split at hl
    case h_2 => cases hl
    rename_i i hi
    split at hl
    case h_2 => cases hl
    rename_i l' hl'
    simp at hl; subst hl
    obtain ⟨ho, h⟩ := cond_ok h
    have ho' : f.offset = o := Nat.eq_of_beq_eq_true ho
    rcases isAgg_of h with ⟨_, h⟩ | ⟨ha, h⟩
    · cases h
    · cases hA : A.drop o with
      | nil => rw [hA] at h; cases h
      | cons x A' =>
        cases hB : B.drop o with
        | nil => rw [hA, hB] at h; cases h
        | cons y B' =>
          rw [hA, hB] at h
          obtain ⟨b, h1, h2⟩ := eqK_ok (t := f.type) (K := fun r => cond r (eqsK P (.no c) l' (Nat.succ o) A' B' K) (K false)) h
          have hx : A[o]? = some x := by have := congrArg (·[0]?) hA; simpa [List.getElem?_drop] using this
          have hy : B[o]? = some y := by have := congrArg (·[0]?) hB; simpa [List.getElem?_drop] using this
          have hA' : A' = A.drop (o + 1) := by rw [← List.drop_drop, hA]; rfl
          have hB' : B' = B.drop (o + 1) := by rw [← List.drop_drop, hB]; rfl
          have part : ∀ (ξ : Nat → Value) (G : Gh) (C : List V) (z : V) (zs : Array Value) (w : World), C[o]? = some z → DenL ξ G C zs.toList → ∃ u, (Go.part f.type zs f.offset).run P w = .ok u w ∧ Den ξ G z u := by
            intro ξ G C z zs w hz hd
            obtain ⟨u, hu, hdu⟩ := hd.get hz
            have hu' : zs[o]? = some u := by simpa using hu
            exact ⟨u, by simp [Go.part, ha, ho', hu'], hdu⟩
          have hname : f.name ≠ "_" := hn f (by simp)
          cases b with
          | false =>
            refine ⟨false, h1, fun ξ G d xs ys w hdx hdy => ?_⟩
            obtain ⟨u, hu, hdu⟩ := part ξ G A x xs w hx hdx
            obtain ⟨v, hv, hdv⟩ := part ξ G B y ys w hy hdy
            have := h2 ξ G d u v w hdu hdv
            simp [Op.eqFields, hname, hu, hv, this]
          | true =>
            rw [hA', hB'] at h1
            obtain ⟨b, h3, h4⟩ := ih hl' (fun g hg => hn g (by simp [hg])) h1
            refine ⟨b, h3, fun ξ G d xs ys w hdx hdy => ?_⟩
            obtain ⟨u, hu, hdu⟩ := part ξ G A x xs w hx hdx
            obtain ⟨v, hv, hdv⟩ := part ξ G B y ys w hy hdy
            have := h2 ξ G d u v w hdu hdv
            simp [Op.eqFields, hname, hu, hv, this, h4 ξ G d xs ys w hdx hdy]
    
theorem eqG_ok {t : TypeId} {a b : List V} {K : Bool → R γ} {c : Nat} {r : γ} (h : eqG P (.no c) t a b K = .ok r) :
    P.eqGuardType P.depth t = false ∧ ∃ z, K z = .ok r ∧ ∀ (ξ : Nat → Value) (G : Gh) (d : Nat) (xs ys : Array Value) (w : World), DenL ξ G a xs.toList → DenL ξ G b ys.toList → (Op.equalIn (d + 2) t (.agg xs) (.agg ys)).run P w = .ok z w := by
  obtain ⟨h1, h2⟩ := cond_ok h
  unfold eqTy at h1
  split at h1
  · rename_i fs hu
    simp only [Bool.and_eq_true, List.all_eq_true, Bool.not_eq_true', bne_iff_ne, ne_eq] at h1
    obtain ⟨⟨hn, hs⟩, hg⟩ := h1
    refine ⟨hg, ?_⟩
    have ht := tyK_of P t
    generalize tyK P t = tk at h2 ht
    cases ht with
    | agg fs' l hu' hl =>
      rw [hu] at hu'
      simp at hu'
      subst hu'
      obtain ⟨z, h3, h4⟩ := eqsK_ok (o := 0) (A := a) (B := b) hl (fun f hf => hn f hf) h2
      refine ⟨z, h3, fun ξ G d xs ys w hdx hdy => ?_⟩
      have hf : P.fieldsOf t = fs := by simp [Program.fieldsOf, hu]
      rw [run_equalIn_struct w (d + 1) t xs ys (by rw [hf]; exact hu) hs, hf]
      exact h4 ξ G d xs ys w hdx hdy
    | _ => cases h2
  · cases h1
end
end Go.Ev
namespace Go.Ev
open Go
section
variable {P : Program} {γ : Type}
theorem equalIn_ne {d : Nat} {t u v : TypeId} {ms : Array (String × TypeId)} (hu : P.underlying t = some (.interface ms)) (h : u ≠ v) (x y : Value) (w : World) :
    (Op.equalIn (d + 1) t (.iface u x) (.iface v y)).run P w = .ok false w := by
  simp only [Op.equalIn, Sem.run_bind, underlying_run hu, Result.andThen_ok, ne_eq, h, not_false_eq_true, if_true, Sem.run_pure]
theorem equalIn_like {d : Nat} {t u : TypeId} {ms : Array (String × TypeId)} {i : TypeInfo} (hu : P.underlying t = some (.interface ms)) (hi : P.info? u = some i) (hc : i.comparable = true) (x y : Value) (w : World) :
    (Op.equalIn (d + 1) t (.iface u x) (.iface u y)).run P w = (Op.equalIn d u x y).run P w := by
  simp only [Op.equalIn, Sem.run_bind, underlying_run hu, Result.andThen_ok, ne_eq, not_true_eq_false, if_false, typeInfo_run hi, hc, Bool.not_true, Bool.false_eq_true]
theorem equalIn_nils {d : Nat} {t : TypeId} {ms : Array (String × TypeId)} (hu : P.underlying t = some (.interface ms)) (w : World) :
    (Op.equalIn (d + 1) t .nilIface .nilIface).run P w = .ok true w := by
  simp only [Op.equalIn, Sem.run_bind, underlying_run hu, Result.andThen_ok, Sem.run_pure]
/-- neither a number nor a text -/
def NoNum : Value → Prop
  | .int .. | .float .. | .complex .. | .string .. => False
  | _ => True
theorem binOp_eql_of {t : TypeId} {xx yy : Value} {b : Bool} {w : World} (hn : NoNum xx) (h : (Op.equal t xx yy).run P w = .ok b w) : (binOp .eql t xx yy).run P w = .ok (.bool b) w := by
  have : binOp .eql t xx yy = (do pure (.bool (← Op.equal t xx yy)) : Sem Value) := by
    cases xx <;> first | exact hn.elim | (cases yy <;> rfl)
  rw [this]; simp [h]
theorem binOp_neq_of {t : TypeId} {xx yy : Value} {b : Bool} {w : World} (hn : NoNum xx) (h : (Op.equal t xx yy).run P w = .ok b w) : (binOp .neq t xx yy).run P w = .ok (.bool !b) w := by
  have : binOp .neq t xx yy = (do pure (.bool (!(← Op.equal t xx yy))) : Sem Value) := by
    cases xx <;> first | exact hn.elim | (cases yy <;> rfl)
  rw [this]; simp [h]
/-- == at whole values -/
theorem eqT_ok {t : TypeId} {q : Bool} {x y : V} {K : Bool → R γ} {c : Nat} {r : γ} (n1 : ∀ (k : IntKind) (a : Int) (j : IntKind) (b : Int), x = .int k a → y = .int j b → False) (n2 : ∀ (n a m b : Nat), x = .str n a → y = .str m b → False) (h : eqT P (.no c) t q x y K = .ok r) :
    ∃ b, K b = .ok r ∧ ∀ (ξ : Nat → Value) (G : Gh) (xx yy : Value) (w : World), Den ξ G x xx → Den ξ G y yy →
      (Op.equal t xx yy).run P w = .ok b w ∧ NoNum xx ∧ ∀ (op : BinOp) (u v : Operand), (q = true → isC u = true ∨ isC v = true) → (eqGuard op t u v xx yy).run P w = .ok () w := by
  have guard1 : ∀ (op : BinOp) (u v : Operand) (xx yy : Value) (w : World), (¬ (xx = .nilIface ∧ yy = .nilIface)) → (∀ a, xx ≠ .agg a) → (eqGuard op t u v xx yy).run P w = .ok () w := by
    intro op u v xx yy w h1 h2
    cases op <;> try rfl
    all_goals
      cases xx <;> try rfl
      · cases yy <;> first | rfl | exact absurd ⟨rfl, rfl⟩ h1
      · exact absurd rfl (h2 _)
  have fromK : ∀ (hx : ∀ (ξ : Nat → Value) (G : Gh) (xx yy : Value), Den ξ G x xx → Den ξ G y yy → ¬ (xx = .nilIface ∧ yy = .nilIface) ∧ (∀ a, xx ≠ .agg a) ∧ NoNum xx), eqK (.no c) (tyK P t) x y K = .ok r →
      ∃ b, K b = .ok r ∧ ∀ (ξ : Nat → Value) (G : Gh) (xx yy : Value) (w : World), Den ξ G x xx → Den ξ G y yy →
        (Op.equal t xx yy).run P w = .ok b w ∧ NoNum xx ∧ ∀ (op : BinOp) (u v : Operand), (q = true → isC u = true ∨ isC v = true) → (eqGuard op t u v xx yy).run P w = .ok () w := by
    intro hx hk
    obtain ⟨b, h1, h2⟩ := eqK_ok hk
    refine ⟨b, h1, fun ξ G xx yy w dx dy => ?_⟩
    obtain ⟨m1, m2, m3⟩ := hx ξ G xx yy dx dy
    exact ⟨h2 ξ G 9999 xx yy w dx dy, m3, fun op u v _ => guard1 op u v xx yy w m1 m2⟩
  unfold eqT at h
  split at h
  · rename_i a b
    obtain ⟨hg, z, h1, h2⟩ := eqG_ok h
    refine ⟨z, h1, fun ξ G xx yy w dx dy => ?_⟩
    simp only [Den] at dx dy
    obtain ⟨xs, rfl, dx⟩ := dx
    obtain ⟨ys, rfl, dy⟩ := dy
    exact ⟨h2 ξ G 9998 xs ys w dx dy, trivial, fun op u v _ => run_eqGuard_agg w op t u v xs ys hg⟩
  · obtain ⟨hq, h⟩ := cond_ok h
    have ht := tyK_of P t
    generalize tyK P t = tk at h ht
    cases ht with
    | ifc ms hu =>
      refine ⟨true, h, fun ξ G xx yy w dx dy => ?_⟩
      simp only [Den] at dx dy
      subst dx; subst dy
      refine ⟨?_, trivial, fun op u v huv => ?_⟩
      · exact equalIn_nils (d := 9999) hu w
      · rcases huv hq with h | h
        · cases u with
          | const z => rw [eqGuard_nil_constL]; rfl
          | _ => cases h
        · cases v with
          | const z => rw [eqGuard_nil_constR]; rfl
          | _ => cases h
    | _ => cases h
  · rename_i u x v y
    have ht := tyK_of P t
    generalize tyK P t = tk at h ht
    cases ht with
    | ifc ms hu =>
      have gd : ∀ (op : BinOp) (uo vo : Operand) (xx yy : Value) (w : World), (eqGuard op t uo vo (.iface u xx) yy).run P w = .ok () w := fun op uo vo xx yy w => by rw [eqGuard_at_iface]; rfl
      cases hb : Nat.beq u v with
      | false =>
        rw [hb] at h
        refine ⟨false, h, fun ξ G xx yy w dx dy => ?_⟩
        simp only [Den] at dx dy
        obtain ⟨xx, rfl, dx⟩ := dx
        obtain ⟨yy, rfl, dy⟩ := dy
        exact ⟨equalIn_ne (d := 9999) hu (Nat.ne_of_beq_eq_false hb) xx yy w, trivial, fun op uo vo _ => gd op uo vo xx _ w⟩
      | true =>
        cases Nat.eq_of_beq_eq_true hb
        rw [hb] at h
        obtain ⟨hcmp, h⟩ := cond_ok h
        unfold cmpb at hcmp
        split at hcmp
        case h_2 => cases hcmp
        rename_i i hi
        have eqIf2 : ∀ (xx yy : Value) (w : World), (Op.equal t (.iface u xx) (.iface u yy)).run P w = (Op.equalIn 9999 u xx yy).run P w :=
          fun xx yy w => equalIn_like (d := 9999) hu hi hcmp xx yy w
        split at h
        · obtain ⟨hg, z, h1, h2⟩ := eqG_ok h
          refine ⟨z, h1, fun ξ G xx yy w dx dy => ?_⟩
          simp only [Den] at dx dy
          obtain ⟨_, rfl, xs, rfl, dx⟩ := dx
          obtain ⟨_, rfl, ys, rfl, dy⟩ := dy
          exact ⟨by rw [eqIf2]; exact h2 ξ G 9997 xs ys w dx dy, trivial, fun op uo vo _ => gd op uo vo _ _ w⟩
        · obtain ⟨z, h1, h2⟩ := eqK_ok h
          refine ⟨z, h1, fun ξ G xx yy w dx dy => ?_⟩
          simp only [Den] at dx dy
          obtain ⟨xx, rfl, dx⟩ := dx
          obtain ⟨yy, rfl, dy⟩ := dy
          exact ⟨by rw [eqIf2]; exact h2 ξ G 9998 xx yy w dx dy, trivial, fun op uo vo _ => gd op uo vo _ _ w⟩
    | _ => cases h
  · rename_i m1 m2 m3
    refine fromK ?_ h
    -- eqK takes nothing else that is an interface's nil twice, of many cells, or a number
    clear fromK guard1
    unfold eqK at h
    split at h
    all_goals first
      | exact (n1 _ _ _ _ rfl rfl).elim
      | exact (n2 _ _ _ _ rfl rfl).elim
      | (intro ξ G xx yy dx dy; simp only [Den] at dx dy; first
          | (subst dx; refine ⟨?_, by simp, trivial⟩; rintro ⟨_, h⟩; obtain ⟨_, h2, _⟩ := dy; rw [h] at h2; cases h2)
          | (subst dx; subst dy; exact ⟨by simp, by simp, trivial⟩)
          | (obtain ⟨_, rfl⟩ := dx; exact ⟨by simp, by simp, trivial⟩)
          | (obtain ⟨_, _, rfl⟩ := dx; exact ⟨by simp, by simp, trivial⟩)
          | (obtain ⟨_, rfl, _⟩ := dx; exact ⟨by simp, by simp, trivial⟩)
          | (obtain ⟨_, _, rfl, _⟩ := dx; exact ⟨by simp, by simp, trivial⟩)
          | (obtain ⟨_, _, _, _, rfl⟩ := dx; exact ⟨by simp, by simp, trivial⟩)
          | (obtain ⟨_, _, _, rfl⟩ := dx; exact ⟨by simp, by simp, trivial⟩)
          | (subst dx; exact ⟨by rintro ⟨h, _⟩; cases h, by simp, trivial⟩))
      | (exact absurd h (by simp))
theorem opBinOp_ok {o : Oper} {op : BinOp} {t : TypeId} {x y : Operand} {yt : TypeId} {T : Tm} {h : H} {K : V → H → R γ} {r : γ} (ho : o.op = .binOp op t x y yt) (h0 : opBinOp P op t x y T h K = .ok r) : PureK P o T h K r := by
  obtain ⟨v, hv, h1⟩ := ev_ok h0
  obtain ⟨u, hu, h2⟩ := ev_ok h1
  have hex : ∀ (a : Act) (w : World), (execOp a.eval o).run P w = (((eqGuard op t x y (a.eval x) (a.eval y)).run P w).andThen fun _ w => (binOp op t (a.eval x) (a.eval y)).run P w).andThen fun z w => .ok (.value z) w := by
    intro a w
    unfold execOp; rw [ho]
    simp only [Sem.run_bind]
    rfl
  unfold binop at h2
  split at h2
  · rename_i k a j b
    obtain ⟨z, zz, h3, h4, h5⟩ := binI_ok (P := P) h2
    refine ⟨z, h3, fun ξ G ac w hT => ⟨zz, ?_, h4 ξ G⟩⟩
    have e1 := evP_den hT hv
    have e2 := evP_den hT hu
    simp only [Den] at e1 e2
    rw [hex, e1, e2, eqGuard_at_int]
    simp only [Sem.run_pure, Result.andThen_ok, h5]
  · rename_i n a m b
    obtain ⟨z, zz, h3, h4⟩ := binStr_ok (P := P) h2
    refine ⟨z, h3, fun ξ G ac w hT => ?_⟩
    have e1 := evP_den hT hv
    have e2 := evP_den hT hu
    simp only [Den] at e1 e2
    obtain ⟨q1, e1⟩ := e1
    obtain ⟨q2, e2⟩ := e2
    obtain ⟨h5, h6⟩ := h4 q1 q2
    refine ⟨zz, ?_, h5 ξ G⟩
    rw [hex, e1, e2, eqGuard_at_string]
    simp only [Sem.run_pure, Result.andThen_ok, h6]
  · rename_i n1 n2
    have hc : ∀ (_ : cond (isC x) true (isC y) = true), isC x = true ∨ isC y = true := fun h => by
      cases hx : isC x with
      | true => exact .inl rfl
      | false => rw [hx] at h; exact .inr h
    split at h2
    · obtain ⟨b, h3, h4⟩ := eqT_ok n1 n2 h2
      refine ⟨.bool b, (boolK_eq _ _).symm.trans h3, fun ξ G ac w hT => ⟨.bool b, ?_, by simp only [Den]⟩⟩
      obtain ⟨h5, h7, h6⟩ := h4 ξ G _ _ w (evP_den hT hv) (evP_den hT hu)
      rw [hex, h6 .eql x y hc]
      simp only [Result.andThen_ok]
      rw [binOp_eql_of h7 h5]
      rfl
    · obtain ⟨b, h3, h4⟩ := eqT_ok n1 n2 h2
      refine ⟨.bool !b, (nboolK_eq _ _).symm.trans h3, fun ξ G ac w hT => ⟨.bool !b, ?_, by simp only [Den]⟩⟩
      obtain ⟨h5, h7, h6⟩ := h4 ξ G _ _ w (evP_den hT hv) (evP_den hT hu)
      rw [hex, h6 .neq x y hc]
      simp only [Result.andThen_ok]
      rw [binOp_neq_of h7 h5]
      rfl
    · cases h2
end
end Go.Ev
namespace Go.Ev
open Go
section
variable {P : Program} {γ : Type}
theorem least_some : ∀ (l : List String), l ≠ [] → ∃ m, Instr.least l = some m
  | [], h => absurd rfl h
  | s :: r, _ => ⟨_, rfl⟩
theorem missing_of {want : Array (String × TypeId)} {got : Array Method} :
    (hasAll want got = true → Instr.missingMethod want got = none) ∧ (hasAll want got = false → ∃ m, Instr.missingMethod want got = some m) := by
  have e : hasAll want got = ((want.toList.filter fun (name, sig) => !got.any fun m => m.name == name && m.sig == sig) == []) := by
    unfold hasAll
    rw [Bool.eq_iff_iff]
    simp only [List.all_eq_true, beq_iff_eq, List.filter_eq_nil_iff, Bool.not_eq_true', Bool.not_eq_false]
  constructor
  · intro h
    rw [e] at h
    have h' := eq_of_beq h
    simp only [Instr.missingMethod, h', List.map_nil]
    rfl
  · intro h
    rw [e] at h
    simp only [Instr.missingMethod]
    generalize hl : (want.toList.filter fun (name, sig) => !got.any fun m => m.name == name && m.sig == sig) = l at h
    have hne : l ≠ [] := by intro h0; rw [h0] at h; cases h
    cases l with
    | nil => exact absurd rfl hne
    | cons x l =>
      rw [List.partition_eq_filter_filter]
      dsimp only
      cases hc : x.1.contains (Char.ofNat 46) with
      | false =>
        have : (List.map (·.1) (x :: l)).filter (not ∘ (·.contains (Char.ofNat 46))) ≠ [] := by
          rw [List.map_cons, List.filter_cons, if_pos (by first | exact hc | (simp only [Function.comp, hc, Bool.not_false]))]
          simp
        obtain ⟨m, hm⟩ := least_some _ this
        exact ⟨m, by rw [hm]; rfl⟩
      | true =>
        have : (List.map (·.1) (x :: l)).filter (·.contains (Char.ofNat 46)) ≠ [] := by
          rw [List.map_cons, List.filter_cons, if_pos (by first | exact hc | (simp only [Function.comp, hc, Bool.not_false]))]
          simp
        have h2 : ((List.map (·.1) (x :: l)).filter (·.contains (Char.ofNat 46))).map (fun id => (id.splitOn ".").getLastD id) ≠ [] := by simpa using this
        obtain ⟨m, hm⟩ := least_some _ h2
        rw [hm]
        cases Instr.least ((List.map (·.1) (x :: l)).filter (not ∘ (·.contains (Char.ofNat 46)))) with
        | none => exact ⟨m, rfl⟩
        | some m' => exact ⟨m', rfl⟩
theorem opAssert_ok {o : Oper} {x : Operand} {xt t : TypeId} {ok : Bool} {T : Tm} {h : H} {K : V → H → R γ} {r : γ} (ho : o.op = .typeAssert x xt t ok) (h0 : opAssert P x t ok T h K = .ok r) : PureK P o T h K r := by
  obtain ⟨v, hv, h1⟩ := ev_ok h0
  have hex : ∀ (a : Act) (w : World), (execOp a.eval o).run P w = ((Instr.typeAssert (a.eval x) xt t ok).run P w).andThen fun z w => .ok (.value z) w := by
    intro a w
    unfold execOp; rw [ho]
    simp only [Sem.run_bind]
    rfl
  -- it holds: the value itself, with ok beside it
  have yes : ∀ (u : V), okK ok u h K = .ok r → (∀ (ξ : Nat → Value) (G : Gh) (a : Act) (w : World), TDen P ξ G T a → ∃ z, Den ξ G u z ∧ (Instr.typeAssert (a.eval x) xt t ok).run P w = .ok (if ok then .tuple #[z, .bool true] else z) w) → PureK P o T h K r := by
    intro u hk hr
    cases ok with
    | true =>
      refine ⟨_, hk, fun ξ G a w hT => ?_⟩
      obtain ⟨z, hz, hrun⟩ := hr ξ G a w hT
      refine ⟨.tuple #[z, .bool true], by rw [hex, hrun]; rfl, ?_⟩
      simp only [Den]
      exact ⟨_, rfl, .cons hz (.one (by simp only [Den]))⟩
    | false =>
      refine ⟨_, hk, fun ξ G a w hT => ?_⟩
      obtain ⟨z, hz, hrun⟩ := hr ξ G a w hT
      exact ⟨z, by rw [hex, hrun]; rfl, hz⟩
  -- it does not: zero, and false
  have no : noK P ok t h K = .ok r → (∀ (ξ : Nat → Value) (G : Gh) (a : Act) (w : World), TDen P ξ G T a → ok = true → ∀ z, (∀ w, (zeroValue t).run P w = .ok z w) → (Instr.typeAssert (a.eval x) xt t ok).run P w = .ok (.tuple #[z, .bool false]) w) → PureK P o T h K r := by
    intro hk hr
    obtain ⟨hok, hk⟩ := cond_ok hk
    obtain ⟨u, z, h2, h3, h4⟩ := zeroK_ok hk
    refine ⟨_, h2, fun ξ G a w hT => ⟨.tuple #[z, .bool false], by rw [hex, hr ξ G a w hT hok z h4]; rfl, ?_⟩⟩
    simp only [Den]
    exact ⟨_, rfl, .cons (ofVal_den h3) (.one (by simp only [Den]))⟩
  split at h1
  · split at h1
    · rename_i d hu
      refine no h1 fun ξ G a w hT hok z hz => ?_
      have e := evP_den hT hv
      simp only [Den] at e
      rw [e]
      subst hok
      simp only [Instr.typeAssert, Sem.run_bind, underlying_run hu, Result.andThen_ok]
      cases d <;> simp [hz]
    · cases h1
  · rename_i u y
    split at h1
    · rename_i want hu
      split at h1
      · rename_i i hi
        cases hb : hasAll want i.methods with
        | true =>
          rw [hb] at h1
          refine yes _ h1 fun ξ G a w hT => ?_
          have e := evP_den hT hv
          refine ⟨_, e, ?_⟩
          simp only [Den] at e
          obtain ⟨z, e, _⟩ := e
          rw [e]
          simp only [Instr.typeAssert, Sem.run_bind, underlying_run hu, Result.andThen_ok, typeInfo_run hi, missing_of.1 hb, Sem.run_pure]
        | false =>
          rw [hb] at h1
          obtain ⟨m, hm⟩ := missing_of.2 hb
          refine no h1 fun ξ G a w hT hok z hz => ?_
          have e := evP_den hT hv
          simp only [Den] at e
          obtain ⟨q, e, _⟩ := e
          rw [e]
          subst hok
          simp only [Instr.typeAssert, Sem.run_bind, underlying_run hu, Result.andThen_ok, typeInfo_run hi, hm, Sem.run_pure, if_true, hz]
      · cases h1
    · rename_i d hd hu
      have hni : ∀ ms, d ≠ .interface ms := fun ms e => hd ms (by rw [e])
      cases hb : Nat.beq u t with
      | true =>
        cases Nat.eq_of_beq_eq_true hb
        rw [hb] at h1
        refine yes _ h1 fun ξ G a w hT => ?_
        have e := evP_den hT hv
        simp only [Den] at e
        obtain ⟨z, e, hz⟩ := e
        refine ⟨z, hz, ?_⟩
        rw [e]
        simp only [Instr.typeAssert, Sem.run_bind, underlying_run hu, Result.andThen_ok]
        cases d with
        | interface ms => exact absurd rfl (hni ms)
        | _ => simp
      | false =>
        rw [hb] at h1
        have hne : u ≠ t := Nat.ne_of_beq_eq_false hb
        refine no h1 fun ξ G a w hT hok z hz => ?_
        have e := evP_den hT hv
        simp only [Den] at e
        obtain ⟨q, e, _⟩ := e
        rw [e]
        subst hok
        simp only [Instr.typeAssert, Sem.run_bind, underlying_run hu, Result.andThen_ok]
        cases d with
        | interface ms => exact absurd rfl (hni ms)
        | _ => simp [hne, hz]
    · cases h1
  · cases h1
/-! built-in functions that only look at their operands -/
theorem builtin_run {o : Oper} {b : Builtin} {as : Array Operand} {ts : Array TypeId} (ho : o.op = .call { callee := .builtin b, args := as, argTypes := ts }) (a : Act) :
    execOp a.eval o = builtin b ts o.type (as.map fun | .const _ => true | _ => false) (as.map a.eval) := by
  unfold execOp
  rw [ho]
  rfl
theorem den_one {ξ : Nat → Value} {G : Gh} {v : V} {xs : List Value} (h : DenL ξ G [v] xs) : ∃ x, xs = [x] ∧ Den ξ G v x := by
  simp only [DenL] at h
  obtain ⟨x, _, rfl, hd, rfl⟩ := h
  exact ⟨x, rfl, hd⟩
theorem arr_of_list {α : Type} {a : Array α} {l : List α} (h : a.toList = l) : a = l.toArray := by rw [← h]
theorem bLen_ok {o : Oper} {as : Array Operand} {ts : Array TypeId} {T : Tm} {h : H} {K : V → H → R γ} {r : γ} (ho : o.op = .call { callee := .builtin .len, args := as, argTypes := ts })
    {l : List V} (hl : ∀ {ξ : Nat → Value} {G : Gh} {a : Act}, TDen P ξ G T a → DenL ξ G l (as.toList.map a.eval)) (h0 : bLen P ts.toList l h K = .ok r) : PureK P o T h K r := by
  unfold bLen at h0
  split at h0
  case h_2 => cases h0
  rename_i t rest x hts
  have ht0 : ts[0]? = some t := by rw [← Array.getElem?_toList, hts]; rfl
  have fin : ∀ (n : Nat), K (.int .i64 (.ofNat n)) h = .ok r → (∀ (ξ : Nat → Value) (G : Gh) (xx : Value) (w : World), Den ξ G x xx → (Builtin.len_ ts o.type #[xx]).run P w = .ok (goInt n) w) → PureK P o T h K r := by
    intro n hk hr
    refine ⟨_, hk, fun ξ G a w hT => ?_⟩
    obtain ⟨xx, e, hd⟩ := den_one (hl hT)
    have e' : as.map a.eval = #[xx] := arr_of_list (by simpa using e)
    refine ⟨goInt n, ?_, by simp only [Den]; rfl⟩
    rw [builtin_run ho, e']
    simp only [builtin, Sem.run_bind, hr ξ G xx w hd, Result.andThen_ok]
    rfl
  have ht := tyK_of P t
  generalize tyK P t = tk at h0 ht
  unfold bLenK at h0
  split at h0
  · rename_i n c
    cases ht with
    | str hu =>
      refine fin n h0 fun ξ G xx w hd => ?_
      simp only [Den] at hd
      obtain ⟨_, rfl⟩ := hd
      unfold Builtin.len_
      rw [ht0]
      simp only [show (#[Value.string ⟨(digs n c).toArray⟩] : Array Value)[0]? = some (.string ⟨(digs n c).toArray⟩) from rfl, Sem.run_bind, underlying_run hu, Result.andThen_ok, Sem.run_pure]
      rw [show (⟨(digs n c).toArray⟩ : ByteArray).size = n by simp [ByteArray.size, digs_length]]
  · cases ht with
    | slc e i hu hi =>
      refine fin _ h0 fun ξ G xx w hd => ?_
      simp only [Den] at hd
      obtain ⟨g, _, rfl⟩ := hd
      simp [Builtin.len_, ht0, underlying_run hu]
  · cases ht with
    | slc e i hu hi =>
      refine fin _ h0 fun ξ G xx w hd => ?_
      simp only [Den] at hd
      obtain ⟨g, _, _, _, rfl⟩ := hd
      simp [Builtin.len_, ht0, underlying_run hu]
  · cases ht with
    | slc e i hu hi =>
      refine fin 0 h0 fun ξ G xx w hd => ?_
      simp only [Den] at hd
      subst hd
      simp [Builtin.len_, ht0, underlying_run hu]
  · cases ht with
    | slc e i hu hi =>
      refine fin 0 h0 fun ξ G xx w hd => ?_
      simp only [Den] at hd
      obtain ⟨g, _, _, rfl⟩ := hd
      simp [Builtin.len_, ht0, underlying_run hu]
  · cases h0
theorem bCap_ok {o : Oper} {as : Array Operand} {ts : Array TypeId} {T : Tm} {h : H} {K : V → H → R γ} {r : γ} (ho : o.op = .call { callee := .builtin .cap, args := as, argTypes := ts })
    {l : List V} (hl : ∀ {ξ : Nat → Value} {G : Gh} {a : Act}, TDen P ξ G T a → DenL ξ G l (as.toList.map a.eval)) (h0 : bCap P ts.toList l h K = .ok r) : PureK P o T h K r := by
  unfold bCap at h0
  split at h0
  case h_2 => cases h0
  rename_i t rest x hts
  have ht0 : ts[0]? = some t := by rw [← Array.getElem?_toList, hts]; rfl
  have fin : ∀ (n : Nat), K (.int .i64 (.ofNat n)) h = .ok r → (∀ (ξ : Nat → Value) (G : Gh) (xx : Value) (w : World), Den ξ G x xx → (Builtin.cap_ ts o.type #[xx]).run P w = .ok (goInt n) w) → PureK P o T h K r := by
    intro n hk hr
    refine ⟨_, hk, fun ξ G a w hT => ?_⟩
    obtain ⟨xx, e, hd⟩ := den_one (hl hT)
    have e' : as.map a.eval = #[xx] := arr_of_list (by simpa using e)
    refine ⟨goInt n, ?_, by simp only [Den]; rfl⟩
    rw [builtin_run ho, e']
    simp only [builtin, Sem.run_bind, hr ξ G xx w hd, Result.andThen_ok]
    rfl
  have ht := tyK_of P t
  generalize tyK P t = tk at h0 ht
  unfold bCapK at h0
  split at h0
  · cases ht with
    | slc e i hu hi =>
      refine fin _ h0 fun ξ G xx w hd => ?_
      simp only [Den] at hd
      obtain ⟨g, _, rfl⟩ := hd
      simp [Builtin.cap_, ht0, underlying_run hu]
  · cases ht with
    | slc e i hu hi =>
      refine fin 0 h0 fun ξ G xx w hd => ?_
      simp only [Den] at hd
      subst hd
      simp [Builtin.cap_, ht0, underlying_run hu]
  · cases h0
theorem foldI_ok {less : Int → Int → Bool} {f : Value → Value → Sem Value} (hf : ∀ (k j : IntKind) (a b : Int) (w : World), (f (.int k a) (.int j b)).run P w = .ok (.int k (if less b a then b else a)) w)
    {l : List V} {k : IntKind} {n : Int} {K : V → R γ} {c : Nat} {r : γ} (h : foldI less (.no c) l k n K = .ok r) :
    ∃ m, K (.int k m) = .ok r ∧ ∀ (ξ : Nat → Value) (G : Gh) (xs : List Value) (w : World), DenL ξ G l xs → (xs.foldlM f (.int k n)).run P w = .ok (.int k m) w := by
  induction l generalizing n with
  | nil => exact ⟨n, h, fun ξ G xs w hd => by simp only [DenL] at hd; subst hd; rfl⟩
  | cons v l ih =>
    cases v with
    | int j b =>
      have h' : cond (less b n) (foldI less (.no c) l k b K) (foldI less (.no c) l k n K) = .ok r := h
      have h2 : foldI less (.no c) l k (if less b n then b else n) K = .ok r := by cases hb : less b n <;> simpa [hb] using h'
      obtain ⟨m, h3, h4⟩ := ih h2
      refine ⟨m, h3, fun ξ G xs w hd => ?_⟩
      simp only [DenL, Den] at hd
      obtain ⟨_, ys, rfl, rfl, hd⟩ := hd
      rw [List.foldlM_cons]
      simp only [Sem.run_bind, hf, Result.andThen_ok, h4 ξ G ys w hd]
    | _ => cases h
theorem bMM_ok {o : Oper} {b : Builtin} {as : Array Operand} {ts : Array TypeId} {T : Tm} {h : H} {K : V → H → R γ} {r : γ} (hb : b = .max ∨ b = .min) (ho : o.op = .call { callee := .builtin b, args := as, argTypes := ts })
    {l : List V} (hl : ∀ {ξ : Nat → Value} {G : Gh} {a : Act}, TDen P ξ G T a → DenL ξ G l (as.toList.map a.eval)) (h0 : (b = .max ∧ bMax l h K = .ok r) ∨ (b = .min ∧ bMin l h K = .ok r)) : PureK P o T h K r := by
  have hmax : ∀ (k j : IntKind) (a b : Int) (w : World), (Builtin.max2 (.int k a) (.int j b)).run P w = .ok (.int k (if gtI b a then b else a)) w := by
    intro k j a b w
    simp only [Builtin.max2, Sem.run_pure]
    congr 3
    unfold gtI
    rw [ltI_eq]
    simp
  have hmin : ∀ (k j : IntKind) (a b : Int) (w : World), (Builtin.min2 (.int k a) (.int j b)).run P w = .ok (.int k (if ltI b a then b else a)) w := by
    intro k j a b w
    simp only [Builtin.min2, Sem.run_pure]
    congr 3
    rw [ltI_eq]
    simp
  rcases h0 with ⟨rfl, h0⟩ | ⟨rfl, h0⟩
  · unfold bMax at h0
    split at h0
    · rename_i k n rest
      obtain ⟨m, h1, h2⟩ := foldI_ok hmax (K := fun v => K v h) h0
      refine ⟨_, h1, fun ξ G a w hT => ⟨.int k m, ?_, by simp only [Den]⟩⟩
      have hd := hl hT
      simp only [DenL, Den] at hd
      obtain ⟨_, ys, e, rfl, hd⟩ := hd
      have e' : as.map a.eval = (Value.int k n :: ys).toArray := arr_of_list (by simpa using e)
      rw [builtin_run ho, e']
      simp only [builtin, Builtin.max_, Sem.run_bind, h2 ξ G ys w hd, Result.andThen_ok]
      rfl
    · cases h0
  · unfold bMin at h0
    split at h0
    · rename_i k n rest
      obtain ⟨m, h1, h2⟩ := foldI_ok hmin (K := fun v => K v h) h0
      refine ⟨_, h1, fun ξ G a w hT => ⟨.int k m, ?_, by simp only [Den]⟩⟩
      have hd := hl hT
      simp only [DenL, Den] at hd
      obtain ⟨_, ys, e, rfl, hd⟩ := hd
      have e' : as.map a.eval = (Value.int k n :: ys).toArray := arr_of_list (by simpa using e)
      rw [builtin_run ho, e']
      simp only [builtin, Builtin.min_, Sem.run_bind, h2 ξ G ys w hd, Result.andThen_ok]
      rfl
    · cases h0
theorem sliceData_run {ts : Array TypeId} {ty : TypeId} {a : Addr} {l c : Nat} (hc : c ≠ 0) (w : World) : (Builtin.unsafeSliceData_ ts ty #[.slice (some a) l c]).run P w = .ok (.pointer (some a)) w := by
  show (if c ≠ 0 then (pure (.pointer (some a)) : Sem Value) else _).run P w = _
  rw [if_pos hc]
  rfl
theorem bSliceData_ok {o : Oper} {as : Array Operand} {ts : Array TypeId} {T : Tm} {h : H} {K : V → H → R γ} {r : γ} (ho : o.op = .call { callee := .builtin .unsafeSliceData, args := as, argTypes := ts })
    {l : List V} (hl : ∀ {ξ : Nat → Value} {G : Gh} {a : Act}, TDen P ξ G T a → DenL ξ G l (as.toList.map a.eval)) (h0 : bSliceData l h K = .ok r) : PureK P o T h K r := by
  unfold bSliceData at h0
  split at h0
  · refine ⟨_, h0, fun ξ G a w hT => ⟨.pointer none, ?_, by simp only [Den]⟩⟩
    obtain ⟨xx, e, hd⟩ := den_one (hl hT)
    simp only [Den] at hd
    subst hd
    have e' : as.map a.eval = #[.slice none 0 0] := arr_of_list (by simpa using e)
    rw [builtin_run ho, e']
    rfl
  · obtain ⟨hc, h1⟩ := cond_no h0
    refine ⟨_, h1, fun ξ G a w hT => ?_⟩
    obtain ⟨xx, e, hd⟩ := den_one (hl hT)
    simp only [Den] at hd
    obtain ⟨g, hg, rfl⟩ := hd
    have e' : as.map a.eval = #[_] := arr_of_list (by simpa using e)
    refine ⟨.pointer (some ⟨g.addr, g.off + _, none⟩), ?_, by simp only [Den]; exact ⟨g, hg, rfl⟩⟩
    rw [builtin_run ho, e']
    have := Nat.ne_of_beq_eq_false hc
    simp only [builtin, Sem.run_bind, sliceData_run this w, Result.andThen_ok]
    rfl
  · rename_i b off len c cut
    obtain ⟨hc, h1⟩ := cond_no h0
    refine ⟨_, h1, fun ξ G a w hT => ?_⟩
    obtain ⟨xx, e, hd⟩ := den_one (hl hT)
    simp only [Den] at hd
    obtain ⟨g, hg, hlb, _, rfl⟩ := hd
    have e' : as.map a.eval = #[_] := arr_of_list (by simpa using e)
    refine ⟨.pointer (some ⟨g.addr, g.off + _, none⟩), ?_, by simp only [Den]; exact ⟨g, hg, rfl⟩⟩
    rw [builtin_run ho, e']
    have := Nat.ne_of_beq_eq_false hc
    have hne : g.cap - cut ≠ 0 := by omega
    simp only [builtin, Sem.run_bind, sliceData_run hne w, Result.andThen_ok]
    rfl
  · cases h0
/-- conversions that do not look at the heap -/
theorem conv_run {o : Oper} {s d : TypeId} {x : Operand} (ho : o.op = .convert s d x) (a : Act) (w : World) : (execOp a.eval o).run P w = ((convert s d (a.eval x)).run P w).andThen fun z w => .ok (.value z) w := by
  unfold execOp; rw [ho]
  simp only [Sem.run_bind]
  rfl
theorem conv0_ok {o : Oper} {s d : TypeId} {x : Operand} {T : Tm} {h : H} {K : V → H → R γ} {r : γ} (ho : o.op = .convert s d x) (hc : clsV (tyK P d) (tyK P s) = 0) (h0 : opConvert P s d x T h K = .ok r) : PureK P o T h K r := by
  obtain ⟨v, hv, h1⟩ := ev_ok h0
  have hs := tyK_of P s
  have hd := tyK_of P d
  generalize tyK P s = ks at h1 hs hc
  generalize tyK P d = kd at h1 hd hc
  have src : ks ≠ .bad → ∃ e, P.underlying s = some e := by
    intro hb
    cases hs <;> first | exact ⟨_, by assumption⟩ | exact absurd rfl hb
  cases hd with
  | int k hu =>
    dsimp only at h1
    unfold cvInt at h1
    split at h1
    · cases h1
    · rename_i q kk n hbad
      obtain ⟨e, he⟩ := src hbad
      rw [intK_eq] at h1
      refine ⟨_, h1, fun ξ G a w hT => ⟨.int k (k.wrap n), ?_, by simp only [Den]⟩⟩
      have e1 := evP_den hT hv
      simp only [Den] at e1
      rw [conv_run ho, e1]
      simp only [convert, Sem.run_bind, underlying_run he, underlying_run hu, Result.andThen_ok, Conv.intToInt, Sem.run_pure]
    · cases h1
  | str hu =>
    dsimp only at h1
    unfold cvStr at h1
    split at h1
    · cases h1
    · cases hc
    · rename_i q n c hbad hsl
      obtain ⟨e, he⟩ := src hbad
      refine ⟨_, h1, fun ξ G a w hT => ?_⟩
      have e1 := evP_den hT hv
      refine ⟨_, ?_, e1⟩
      simp only [Den] at e1
      obtain ⟨_, e1⟩ := e1
      rw [conv_run ho, e1]
      simp only [convert, Sem.run_bind, underlying_run he, underlying_run hu, Result.andThen_ok, Sem.run_pure]
    · rename_i q kk n hbad hsl
      obtain ⟨e, he⟩ := src hbad
      cases n with
      | negSucc n => cases h1
      | ofNat n =>
        obtain ⟨hb, h2⟩ := cond_ok h1
        have hn : n ≤ 127 := Nat.le_of_ble_eq_true hb
        refine ⟨_, h2, fun ξ G a w hT => ⟨.string ⟨(digs 1 n).toArray⟩, ?_, by simp only [Den, and_true]; omega⟩⟩
        have e1 := evP_den hT hv
        simp only [Den] at e1
        rw [conv_run ho, e1]
        simp only [convert, Sem.run_bind, underlying_run he, underlying_run hu, Result.andThen_ok, Conv.intToString, Sem.run_pure]
        have hval : Utf8.valid (Int.ofNat n) = true := by simp [Utf8.valid]; omega
        have : Utf8.encode (Int.ofNat n) = ⟨(digs 1 n).toArray⟩ := by
          unfold Utf8.encode
          rw [hval]
          simp only [if_true]
          rw [show (Int.ofNat n).toNat = n from rfl, if_pos (by omega)]
          simp only [digs, Nat.pow_zero, Nat.div_one]
          rw [Nat.mod_eq_of_lt (by omega)]
        rw [this]
    · cases h1
  | _ => cases ks <;> cases hc
/-- what neither reads nor writes -/
theorem pure_ok {callF : CallF} {o : Oper} {T : Tm} {h : H} {K : V → H → R γ} {r : γ} (hc : cls P o.op = 0) (h0 : evOp P callF o.op T h K = .ok r) : PureK P o T h K r := by
  cases ho : o.op with
  | move x => rw [ho] at h0; exact opMove_ok (.inl ho) h0
  | assign x => rw [ho] at h0; exact opMove_ok (.inr ho) h0
  | pick c a b => rw [ho] at h0; exact opPick_ok ho h0
  | build t ps => rw [ho] at h0; exact opBuild_ok ho h0
  | nilCheck x => rw [ho] at h0; exact opNilCheck_ok ho h0
  | binOp op t x y yt => rw [ho] at h0; exact opBinOp_ok ho h0
  | unOp op t x => rw [ho] at h0; exact opUnOp_ok ho h0
  | convert s d x => rw [ho] at h0 hc; exact conv0_ok ho hc h0
  | makeInterface t x => rw [ho] at h0; exact opIface_ok ho h0
  | makeFunc f a b => rw [ho] at h0; exact opFunc_ok ho h0
  | slice t x a b c => rw [ho] at h0; exact opSlice_ok ho h0
  | fieldAddr t x f => rw [ho] at h0; exact opFieldAddr_ok ho h0
  | field t x f => rw [ho] at h0; exact opField_ok ho h0
  | indexAddr t x i => rw [ho] at h0; exact opIndexAddr_ok ho h0
  | index t x i => rw [ho] at h0; exact opIndex_ok ho h0
  | typeAssert x t u ok => rw [ho] at h0; exact opAssert_ok ho h0
  | extract t i => rw [ho] at h0; exact opExtract_ok ho h0
  | call c =>
    rw [ho] at h0 hc
    obtain ⟨callee, as, ts⟩ := c
    obtain ⟨l, h1, hl⟩ := evs_ok h0
    cases callee with
    | value f => cases hc
    | invoke f m => cases hc
    | builtin b =>
      cases b with
      | len => exact bLen_ok ho hl h1
      | cap => exact bCap_ok ho hl h1
      | max => exact bMM_ok (.inl rfl) ho hl (.inl ⟨rfl, h1⟩)
      | min => exact bMM_ok (.inr rfl) ho hl (.inr ⟨rfl, h1⟩)
      | unsafeSliceData => exact bSliceData_ok ho hl h1
      | _ => cases hc
  | _ => rw [ho] at hc; cases hc
end
end Go.Ev
namespace Go.Ev
open Go
section
variable {P : Program} {γ : Type} {ξ : Nat → Value} {G : Gh}
/-- known blocks that live stand for the world's -/
def Fits (P : Program) (ξ : Nat → Value) (G : Gh) (h : H) (w : World) : Prop := ∀ (b : Nat) (g : GB) (x : Blk), G[b]? = some (some g) → h.get b = some x → ∃ o, w.heap[g.addr]? = some o ∧ BRep P ξ G g x o
theorem Rep.fits {h : H} {w : World} (R : Rep P ξ G h w) : Fits P ξ G h w := fun b g x hg hx => by
  obtain ⟨g', o, h1, h2, h3⟩ := R.blk b x hx
  rw [hg] at h1
  simp at h1
  subst h1
  exact ⟨o, h2, h3⟩
/-- what operation o reads -/
def Reads (P : Program) (o : Oper) (T : Tm) (h : H) (v : V) : Prop :=
  ∀ (ξ : Nat → Value) (G : Gh) (a : Act) (w : World), Fits P ξ G h w → TDen P ξ G T a → ∃ x, (execOp a.eval o).run P w = .ok (.value x) w ∧ Den ξ G v x
theorem cell_of {w : World} {b off : Nat} {arr : Array Value} {el : TypeId} {fr : Nat × Nat} (h : w.heap[b]? = some (.cells arr el fr)) (i : Nat) : w.cell? ((⟨b, off, none⟩ : Addr).add i) = arr[off + i]? := by
  rw [add_none]
  simp [World.cell?, h]
/-- cells from a place on -/
theorem cells_den {w : World} {g : GB} {cs : List V} {el : Nat} {k : BK} {fz off n : Nat} {o : Obj} (hh : w.heap[g.addr]? = some o) (hB : BRep P ξ G g (.cells cs el k fz) o) (hn : off + n ≤ cs.length) :
    ∃ xs : List Value, xs.length = n ∧ DenL ξ G ((cs.drop off).take n) xs ∧ ∀ j v, xs[j]? = some v → w.cell? ((⟨g.addr, g.off + off, none⟩ : Addr).add j) = some v := by
  obtain ⟨arr, lo, hi, rfl, hc, hs, hr⟩ := hB
  refine ⟨(arr.toList.drop (g.off + off)).take n, ?_, ?_, ?_⟩
  · simp; omega
  · refine .of_get (by simp; omega) fun i v hv => ?_
    rw [List.getElem?_take] at hv
    split at hv
    · rw [List.getElem?_drop] at hv
      obtain ⟨x, hx, hd⟩ := hc _ _ hv
      refine ⟨x, ?_, hd⟩
      rw [List.getElem?_take, if_pos (by assumption), List.getElem?_drop]
      simpa [Nat.add_assoc] using hx
    · cases hv
  · intro j v hv
    rw [cell_of hh]
    rw [List.getElem?_take] at hv
    split at hv
    · rw [List.getElem?_drop] at hv
      simpa using hv
    · cases hv
theorem loadK_ok {t : TypeId} {a : V} {h : H} {K : V → R γ} {c : Nat} {r : γ} (h0 : loadK P (.no c) t a h K = .ok r) :
    ∃ v b off, a = .ptr b off ∧ K v = .ok r ∧ ∀ (ξ : Nat → Value) (G : Gh) (w : World) (x : Value), Fits P ξ G h w → Den ξ G a x → ∃ ad z, x = .pointer (some ad) ∧ (loadVar t ad).run P w = .ok z w ∧ Den ξ G v z := by
  unfold loadK at h0
  split at h0
  · rename_i b off
    obtain ⟨x, hx, h1⟩ := hget_ok h0
    split at h1
    · rename_i cs el k fz
      obtain ⟨h2, h3⟩ := ldrop_ok h1
      rcases isAgg_of h3 with ⟨ha, h4⟩ | ⟨ha, h4⟩
      · obtain ⟨h5, h6⟩ := ltake_ok h4
        obtain ⟨i, hi⟩ := isAgg_info ha
        refine ⟨_, b, off, rfl, h6, fun ξ G w x hF hd => ?_⟩
        simp only [Den] at hd
        obtain ⟨g, hg, rfl⟩ := hd
        obtain ⟨o, ho, hB⟩ := hF b g _ hg hx
        rw [cellsOf_info hi] at h5 ⊢
        obtain ⟨xs, hl, hden, hcell⟩ := cells_den (off := off) (n := i.size) ho hB (by rw [List.length_drop] at h5; omega)
        refine ⟨_, .agg xs.toArray, rfl, ?_, by simp only [Den]; exact ⟨_, rfl, by simpa using hden⟩⟩
        have := run_loadCells_list (P := P) w _ xs hcell
        rw [hl] at this
        simp [loadVar, ha, sizeOf_run hi, this]
      · cases hl : cs.drop off with
        | nil => rw [hl] at h4; cases h4
        | cons v l =>
          rw [hl] at h4
          refine ⟨v, b, off, rfl, h4, fun ξ G w x hF hd => ?_⟩
          simp only [Den] at hd
          obtain ⟨g, hg, rfl⟩ := hd
          obtain ⟨o, ho, hB⟩ := hF b g _ hg hx
          have hlen : off + 1 ≤ cs.length := by
            have := congrArg List.length hl
            simp at this; omega
          obtain ⟨xs, hl2, hden, hcell⟩ := cells_den (off := off) (n := 1) ho hB hlen
          rw [hl] at hden
          obtain ⟨z, e, hz⟩ := den_one (by simpa using hden)
          subst e
          refine ⟨_, z, rfl, ?_, hz⟩
          have := hcell 0 z rfl
          simp only [Addr.add, if_true] at this
          simp [loadVar, ha, this]
    · cases h1
  · cases h0
theorem opLoad_ok {o : Oper} {t : TypeId} {x : Operand} {T : Tm} {h : H} {K : V → H → R γ} {r : γ} (ho : o.op = .load t x) (h0 : opLoad P t x T h K = .ok r) : ∃ v, K v h = .ok r ∧ Reads P o T h v := by
  obtain ⟨u, hu, h1⟩ := ev_ok h0
  obtain ⟨v, b, off, rfl, h2, h3⟩ := loadK_ok h1
  refine ⟨v, h2, fun ξ G a w hF hT => ?_⟩
  obtain ⟨ad, z, e, hz, hd⟩ := h3 ξ G w _ hF (evP_den hT hu)
  refine ⟨z, ?_, hd⟩
  unfold execOp; rw [ho]
  simp only [Instr.loadAt, Instr.sureAddr, e, Sem.run_bind, Sem.run_pure, Result.andThen_ok, hz]
/-! maps -/
theorem keyOk_ok {t : TypeId} {k : V} {K : R γ} {c : Nat} {r : γ} (h : keyOk (.no c) (tyK P t) k K = .ok r) :
    K = .ok r ∧ ∃ d, P.underlying t = some d ∧ ((∃ kk, d = .int kk) ∨ d = .string) ∧ ∀ (ξ : Nat → Value) (G : Gh) (x : Value) (e : Bool) (w : World), Den ξ G k x → (Instr.checkKey e 10000 t x).run P w = .ok () w := by
  have ht := tyK_of P t
  generalize tyK P t = tk at h ht
  unfold keyOk at h
  have chk : ∀ {d : TypeDesc} (_ : P.underlying t = some d) (_ : (∃ kk, d = .int kk) ∨ d = .string) (e : Bool) (n : Nat) (x : Value) (w : World), (Instr.checkKey e (n + 1) t x).run P w = .ok () w := by
    intro d hu hd e n x w
    simp only [Instr.checkKey, Sem.run_bind, underlying_run hu, Result.andThen_ok]
    rcases hd with ⟨kk, rfl⟩ | rfl <;> rfl
  split at h
  · cases ht with
    | int kk hu => exact ⟨h, _, hu, .inl ⟨_, rfl⟩, fun ξ G x e w _ => chk hu (.inl ⟨_, rfl⟩) e 9999 x w⟩
  · cases ht with
    | str hu => exact ⟨h, _, hu, .inr rfl, fun ξ G x e w _ => chk hu (.inr rfl) e 9999 x w⟩
  · cases h
theorem keyK_ok {t : TypeId} {k l : V} {K : Bool → R γ} {c : Nat} {r : γ} (h : keyK (.no c) (tyK P t) k l K = .ok r) :
    ∃ b, K b = .ok r ∧ ∀ (ξ : Nat → Value) (G : Gh) (x y : Value) (d : TypeDesc), P.underlying t = some d → Den ξ G k x → Den ξ G l y → Instr.sameNow d x y = some b ∧ (b = true → x = y) := by
  have ht := tyK_of P t
  generalize tyK P t = tk at h ht
  unfold keyK at h
  split at h
  · rename_i q i a j b
    obtain ⟨e, h2⟩ := cond_ok h
    cases eqJ_eq e
    cases ht with
    | int kk hu =>
      refine ⟨_, h2, fun ξ G x y d hd hx hy => ?_⟩
      rw [hu] at hd
      simp at hd
      subst hd
      simp only [Den] at hx hy
      subst hx; subst hy
      rw [eqI_eq]
      refine ⟨?_, fun h => by rw [of_decide_eq_true h]⟩
      simp only [Instr.sameNow, if_true]
      rfl
  · rename_i n a m b
    cases ht with
    | str hu =>
      refine ⟨_, h, fun ξ G x y d hd hx hy => ?_⟩
      rw [hu] at hd
      simp at hd
      subst hd
      simp only [Den] at hx hy
      obtain ⟨q1, rfl⟩ := hx
      obtain ⟨q2, rfl⟩ := hy
      rw [eqS_eq q1 q2]
      refine ⟨?_, fun h => by rw [eq_of_beq h]⟩
      simp only [Instr.sameNow, beq_toListBytes, bytes_list]
  · cases h
theorem Entries.cons {k v : V} {s : Nat} {es : List (V × V × Nat)} {xs : List MapEntry} (h : Entries ξ G ((k, v, s) :: es) xs) :
    ∃ e ys, xs = e :: ys ∧ Den ξ G k e.key ∧ Den ξ G v e.val ∧ e.born = s ∧ Entries ξ G es ys := by
  obtain ⟨hl, hg⟩ := h
  cases xs with
  | nil => simp at hl
  | cons e ys =>
    obtain ⟨e', he, h1, h2, h3⟩ := hg 0 k v s rfl
    simp at he
    subst he
    exact ⟨e, ys, rfl, h1, h2, h3, by simpa using hl, fun i k v s hi => by simpa using hg (i + 1) k v s (by simpa using hi)⟩
theorem findE_ok {t : TypeId} {k : V} {es : List (V × V × Nat)} {K : V → R γ} {no : R γ} {c : Nat} {r : γ} (h : List.rec (motive := fun _ => R γ) no (fun x _ ih => keyK (.no c) (tyK P t) k x.1 fun b => cond b (K x.2.1) ih) es = .ok r) :
    (∃ v, K v = .ok r ∧ ∀ (ξ : Nat → Value) (G : Gh) (x : Value) (d : TypeDesc) (xs : List MapEntry) (i : Nat), P.underlying t = some d → Den ξ G k x → Entries ξ G es xs → ∃ j z, Instr.findNow d x xs i = some (some (j, z)) ∧ Den ξ G v z) ∨
    (no = .ok r ∧ ∀ (ξ : Nat → Value) (G : Gh) (x : Value) (d : TypeDesc) (xs : List MapEntry) (i : Nat), P.underlying t = some d → Den ξ G k x → Entries ξ G es xs → Instr.findNow d x xs i = some none) := by
  induction es with
  | nil =>
    refine .inr ⟨h, fun ξ G x d xs i _ _ hE => ?_⟩
    have : xs = [] := List.length_eq_zero_iff.1 (by simpa using hE.1)
    subst this
    rfl
  | cons p es ih =>
    obtain ⟨k2, v2, s2⟩ := p
    obtain ⟨b, h1, h2⟩ := keyK_ok h
    cases b with
    | true =>
      refine .inl ⟨v2, h1, fun ξ G x d xs i hd hx hE => ?_⟩
      obtain ⟨e, ys, rfl, q1, q2, q3, q4⟩ := hE.cons
      exact ⟨i, e.val, by simp only [Instr.findNow, (h2 ξ G x e.key d hd hx q1).1], q2⟩
    | false =>
      rcases ih h1 with ⟨v, h3, h4⟩ | ⟨h3, h4⟩
      · refine .inl ⟨v, h3, fun ξ G x d xs i hd hx hE => ?_⟩
        obtain ⟨e, ys, rfl, q1, q2, q3, q4⟩ := hE.cons
        obtain ⟨j, z, q5, q6⟩ := h4 ξ G x d ys (i + 1) hd hx q4
        exact ⟨j, z, by simp only [Instr.findNow, (h2 ξ G x e.key d hd hx q1).1, q5], q6⟩
      · refine .inr ⟨h3, fun ξ G x d xs i hd hx hE => ?_⟩
        obtain ⟨e, ys, rfl, q1, q2, q3, q4⟩ := hE.cons
        simp only [Instr.findNow, (h2 ξ G x e.key d hd hx q1).1, h4 ξ G x d ys (i + 1) hd hx q4]
theorem opLookup_ok {o : Oper} {t : TypeId} {x i : Operand} {ok : Bool} {T : Tm} {h : H} {K : V → H → R γ} {r : γ} (ho : o.op = .lookup t x i ok) (h0 : opLookup P t x i ok T h K = .ok r) : ∃ v, K v h = .ok r ∧ Reads P o T h v := by
  obtain ⟨u, hu, h1⟩ := ev_ok h0
  obtain ⟨k, hk, h2⟩ := ev_ok h1
  split at h2
  case h_2 => cases h2
  rename_i b
  have ht := tyK_of P t
  generalize tyK P t = tk at h2 ht
  cases ht with
  | map key el hmu =>
    obtain ⟨y, hy, h3⟩ := hget_ok h2
    split at h3
    case h_2 => cases h3
    rename_i es cl
    obtain ⟨h4, d, hd, hform, hchk⟩ := keyOk_ok (P := P) (t := key) h3
    have fk : ∀ (x : Value) (xs : List MapEntry) (w : World) (q : Option (Nat × Value)), Instr.findNow d x xs 0 = some q → (Instr.findKey key x xs).run P w = .ok q w := by
      intro x xs w q hq
      simp only [Instr.findKey, Sem.run_bind, underlying_run hd, Result.andThen_ok, hq, Sem.run_pure]
    have base : ∀ (ξ : Nat → Value) (G : Gh) (a : Act) (w : World), Fits P ξ G h w → TDen P ξ G T a → ∃ (xs : Array MapEntry) (ad : Nat), Entries ξ G es xs.toList ∧ Den ξ G k (a.eval i) ∧ a.eval x = .map (some ad) ∧ (getObj ad).run P w = .ok (.map xs cl) w := by
      intro ξ G a w hF hT
      have e1 := evP_den hT hu
      simp only [Den] at e1
      obtain ⟨g, hg, e1⟩ := e1
      obtain ⟨ob, hob, hB⟩ := hF b g _ hg hy
      obtain ⟨xs, rfl, hE⟩ := hB
      exact ⟨xs, g.addr, hE, evP_den hT hk, e1, by simp [getObj, Sem.run, hob]⟩
    rcases findE_ok (P := P) (t := key) (k := k) (es := es) (c := 50) (K := fun v => okK ok v h K) (no := zeroK P (.no 50) el fun z => cond ok (K (.tup [z, .bool false]) h) (K z h)) h4 with ⟨v, h5, h6⟩ | ⟨h5, h6⟩
    · have h5' : K (if ok then .tup [v, .bool true] else v) h = .ok r := by cases ok <;> exact h5
      refine ⟨_, h5', fun ξ G a w hF hT => ?_⟩
      obtain ⟨xs, ad, hE, hkd, e1, hget⟩ := base ξ G a w hF hT
      obtain ⟨j, z, hf, hz⟩ := h6 ξ G _ d xs.toList 0 hd hkd hE
      refine ⟨if ok then .tuple #[z, .bool true] else z, ?_, ?_⟩
      · unfold execOp; rw [ho]
        simp only [Instr.lookup, Sem.run_bind, underlying_run hmu, Result.andThen_ok, e1, hget, hchk ξ G _ _ w hkd, Sem.run_pure, fk _ _ w _ hf]
      · cases ok with
        | true => simp only [if_true, Den]; exact ⟨_, rfl, .cons hz (.one (by simp only [Den]))⟩
        | false => exact hz
    · obtain ⟨v, z, h7, h8, h9⟩ : ∃ v z, K (if ok then .tup [v, .bool false] else v) h = .ok r ∧ ofVal z = some v ∧ ∀ w, (zeroValue el).run P w = .ok z w := by
        obtain ⟨v, z, q1, q2, q3⟩ := zeroK_ok h5
        exact ⟨v, z, by cases ok <;> exact q1, q2, q3⟩
      refine ⟨_, h7, fun ξ G a w hF hT => ?_⟩
      obtain ⟨xs, ad, hE, hkd, e1, hget⟩ := base ξ G a w hF hT
      have hf := h6 ξ G _ d xs.toList 0 hd hkd hE
      refine ⟨if ok then .tuple #[z, .bool false] else z, ?_, ?_⟩
      · unfold execOp; rw [ho]
        simp only [Instr.lookup, Sem.run_bind, underlying_run hmu, Result.andThen_ok, e1, hget, hchk ξ G _ _ w hkd, Sem.run_pure, fk _ _ w _ hf, h9 w]
      · cases ok with
        | true => simp only [if_true, Den]; exact ⟨_, rfl, .cons (ofVal_den h8) (.one (by simp only [Den]))⟩
        | false => exact ofVal_den h8
  | _ => cases h2
/-! bytes to a text -/
theorem byteK_ok {v : V} {K : Nat → R γ} {c : Nat} {r : γ} (h : byteK (.no c) v K = .ok r) : ∃ b, b ≤ 255 ∧ v = .int .u8 (Int.ofNat b) ∧ K b = .ok r := by
  unfold byteK at h
  split at h
  · obtain ⟨hb, h2⟩ := cond_ok h
    exact ⟨_, Nat.le_of_ble_eq_true hb, rfl, h2⟩
  · cases h
theorem bytesK_ok {cs : List V} {n : Nat} {K : Nat → R γ} {c : Nat} {r : γ} (h : bytesK (.no c) cs n K = .ok r) :
    ∃ d, K d = .ok r ∧ d < 256 ^ n ∧ n ≤ cs.length ∧ ∀ (ξ : Nat → Value) (G : Gh) (xs : List Value), DenL ξ G (cs.take n) xs → xs = (digs n d).map fun b => .int .u8 (Int.ofNat b.toNat) := by
  have key : ∀ (n : Nat) (cs : List V) (c0 m : Nat), c0 < 256 ^ m →
      Nat.rec (motive := fun _ => List V → Nat → R γ) (fun _ c => K c) (fun _ ih cs c' => List.rec (.no c) (fun v t _ => byteK (.no c) v fun b => forceNat (Nat.add (Nat.mul c' 256) b) fun c => ih t c) cs) n cs c0 = .ok r →
      ∃ d e, K d = .ok r ∧ e < 256 ^ n ∧ d = c0 * 256 ^ n + e ∧ n ≤ cs.length ∧ ∀ (ξ : Nat → Value) (G : Gh) (xs : List Value), DenL ξ G (cs.take n) xs → xs = (digs n e).map fun b => .int .u8 (Int.ofNat b.toNat) := by
    intro n
    induction n with
    | zero =>
      intro cs c0 m _ h
      exact ⟨c0, 0, h, by simp, by simp, by simp, fun ξ G xs hd => by simp only [List.take_zero, DenL] at hd; subst hd; rfl⟩
    | succ n ih =>
      intro cs c0 m hc0 h
      cases cs with
      | nil => cases h
      | cons v t =>
        have h' : byteK (.no c) v (fun b => forceNat (Nat.add (Nat.mul c0 256) b) fun c2 => Nat.rec (motive := fun _ => List V → Nat → R γ) (fun _ c => K c) (fun _ ih cs c' => List.rec (.no c) (fun v t _ => byteK (.no c) v fun b => forceNat (Nat.add (Nat.mul c' 256) b) fun c => ih t c) cs) n t c2) = .ok r := h
        obtain ⟨b, hb', rfl, h2⟩ := byteK_ok h'
        rw [forceNat_eq] at h2
        have hlt : Nat.add (Nat.mul c0 256) b < 256 ^ (m + 1) := by
          show c0 * 256 + b < _
          rw [Nat.pow_succ]
          have : (c0 + 1) * 256 ≤ 256 ^ m * 256 := Nat.mul_le_mul_right _ hc0
          rw [Nat.add_mul] at this
          omega
        obtain ⟨d, e, h3, h4, h5, h6, h7⟩ := ih t _ (m + 1) hlt h2
        refine ⟨d, b * 256 ^ n + e, h3, ?_, ?_, by simp; omega, fun ξ G xs hd => ?_⟩
        · rw [Nat.pow_succ]
          have : b * 256 ^ n ≤ 255 * 256 ^ n := Nat.mul_le_mul_right _ hb'
          omega
        · rw [h5]
          show (c0 * 256 + b) * 256 ^ n + e = _
          rw [Nat.add_mul, Nat.pow_succ', Nat.mul_assoc]
          omega
        · simp only [List.take_succ_cons, DenL, Den] at hd
          obtain ⟨_, ys, rfl, rfl, hd⟩ := hd
          simp only [digs, List.map_cons]
          congr 1
          · rw [Nat.add_comm, Nat.add_mul_div_right _ _ (pow_pos' n), Nat.div_eq_of_lt h4, Nat.zero_add, Nat.mod_eq_of_lt (by omega), ofNat_toNat (by omega)]
          · rw [digs_add]; exact h7 ξ G ys hd
  obtain ⟨d, e, h1, h2, h3, h4, h5⟩ := key n cs 0 0 (by decide) h
  have : d = e := by simpa using h3
  subst this
  exact ⟨d, h1, h2, h4, h5⟩
theorem foldl_push : ∀ (l : List UInt8) (s : ByteArray), l.foldl (fun r n => r.push n) s = s ++ ⟨l.toArray⟩
  | [], s => by apply ByteArray.ext; simp
  | b :: l, s => by
    rw [List.foldl_cons, foldl_push l]
    apply ByteArray.ext
    simp
theorem bytes_run {w : World} {a : Addr} {n cap d : Nat} (h : ∀ j v, ((digs n d).map fun b => Value.int .u8 (Int.ofNat b.toNat))[j]? = some v → w.cell? (a.add j) = some v) :
    (Conv.bytesToString (.slice (some a) n cap)).run P w = .ok (.string ⟨(digs n d).toArray⟩) w := by
  have h1 := run_loadCells_list (P := P) w a _ h
  simp only [List.length_map, digs_length] at h1
  have h2 := run_bytesToString (P := P) w a n cap ((digs n d).map fun b => Int.ofNat b.toNat) (by rw [h1, List.map_map]; rfl)
  rw [h2]
  congr 2
  rw [List.foldl_map]
  have : (fun (r : ByteArray) (n : UInt8) => r.push (UInt8.ofNat (Int.ofNat n.toNat).toNat)) = fun r n => r.push n := by
    funext r n
    congr 1
    show UInt8.ofNat n.toNat = n
    simp
  rw [this, foldl_push]
  apply ByteArray.ext
  simp
theorem convB_ok {o : Oper} {s d el : TypeId} {x : Operand} {v : V} {b off len : Nat} {T : Tm} {h : H} {K : V → H → R γ} {r : γ} (ho : o.op = .convert s d x) (hs : P.underlying s = some (.slice el)) (he : P.underlying el = some (.int .u8)) (hd : P.underlying d = some .string)
    (hv : evP P T x = some v) (hx : ∀ (ξ : Nat → Value) (G : Gh) (z : Value), Den ξ G v z → ∃ g c, G[b]? = some (some g) ∧ z = .slice (some ⟨g.addr, g.off + off, none⟩) len c) (h0 : convB b off len h K = .ok r) : ∃ v, K v h = .ok r ∧ Reads P o T h v := by
  obtain ⟨y, hy, h1⟩ := hget_ok h0
  split at h1
  case h_2 => cases h1
  rename_i cs e k fz
  obtain ⟨h2, h3⟩ := ldrop_ok h1
  obtain ⟨dd, h4, h5, h6, h7⟩ := bytesK_ok h3
  refine ⟨_, h4, fun ξ G a w hF hT => ?_⟩
  obtain ⟨g, c, hg, e1⟩ := hx ξ G _ (evP_den hT hv)
  obtain ⟨ob, hob, hB⟩ := hF b g _ hg hy
  obtain ⟨xs, hl, hden, hcell⟩ := cells_den (off := off) (n := len) hob hB (by rw [List.length_drop] at h6; omega)
  have hxs := h7 ξ G xs hden
  refine ⟨.string ⟨(digs len dd).toArray⟩, ?_, by simp only [Den]; exact ⟨h5, trivial⟩⟩
  rw [conv_run ho, e1, run_convert_bytes_string w s d el _ _ _ hs he hd, bytes_run (d := dd) (by rw [← hxs]; exact hcell)]
  rfl
theorem conv1_ok {o : Oper} {s d : TypeId} {x : Operand} {T : Tm} {h : H} {K : V → H → R γ} {r : γ} (ho : o.op = .convert s d x) (hc : clsV (tyK P d) (tyK P s) = 1) (h0 : opConvert P s d x T h K = .ok r) : ∃ v, K v h = .ok r ∧ Reads P o T h v := by
  obtain ⟨v, hv, h1⟩ := ev_ok h0
  have hs := tyK_of P s
  have hd := tyK_of P d
  generalize tyK P s = ks at h1 hs hc
  generalize tyK P d = kd at h1 hd hc
  cases hd with
  | str hu =>
    cases hs with
    | slc el i hus hi =>
      have h2 : cvByt (tyK P el) v h K = .ok r := h1
      have hel := tyK_of P el
      generalize tyK P el = ke at h2 hel
      have empty : K (.str 0 0) h = .ok r → P.underlying el = some (.int .u8) → (∀ (ξ : Nat → Value) (G : Gh) (z : Value), Den ξ G v z → ∃ a c, z = .slice a 0 c) → ∃ v, K v h = .ok r ∧ Reads P o T h v := by
        intro hk he hz
        refine ⟨_, hk, fun ξ G a w hF hT => ⟨.string ⟨(digs 0 0).toArray⟩, ?_, by simp [Den]⟩⟩
        obtain ⟨ad, c, e⟩ := hz ξ G _ (evP_den hT hv)
        rw [conv_run ho, e, run_convert_bytes_string w s d el _ _ _ hus he hu]
        cases ad with
        | none => rfl
        | some ad => rw [bytes_run (n := 0) (d := 0) (by intro j v h; simp [digs] at h)]; rfl
      unfold cvByt at h2
      split at h2
      · cases hel with
        | int k he => exact empty h2 he fun ξ G z hz => by simp only [Den] at hz; exact ⟨_, _, hz⟩
      · cases hel with
        | int k he => exact empty h2 he fun ξ G z hz => by simp only [Den] at hz; obtain ⟨g, _, _, hz⟩ := hz; exact ⟨_, _, hz⟩
      · cases hel with
        | int k he => exact convB_ok ho hus he hu hv (fun ξ G z hz => by simp only [Den] at hz; obtain ⟨g, hg, hz⟩ := hz; exact ⟨g, _, hg, hz⟩) h2
      · cases hel with
        | int k he => exact convB_ok ho hus he hu hv (fun ξ G z hz => by simp only [Den] at hz; obtain ⟨g, hg, _, _, hz⟩ := hz; exact ⟨g, _, hg, hz⟩) h2
      · cases h2
    | _ => cases hc
  | _ => cases ks <;> cases hc
/-- what reads -/
theorem reads_ok {callF : CallF} {o : Oper} {T : Tm} {h : H} {K : V → H → R γ} {r : γ} (hc : cls P o.op = 1) (h0 : evOp P callF o.op T h K = .ok r) : ∃ v, K v h = .ok r ∧ Reads P o T h v := by
  cases ho : o.op with
  | load t x => rw [ho] at h0; exact opLoad_ok ho h0
  | lookup t x i ok => rw [ho] at h0; exact opLookup_ok ho h0
  | convert s d x => rw [ho] at h0 hc; exact conv1_ok ho hc h0
  | call c =>
    rw [ho] at hc
    obtain ⟨callee, as, ts⟩ := c
    cases callee with
    | value f => cases hc
    | invoke f m => cases hc
    | builtin b => cases b <;> cases hc
  | _ => rw [ho] at hc; cases hc
end
end Go.Ev
namespace Go.Ev
open Go
section
variable {P : Program} {γ : Type}
/-- operation o lays a block, and that is all -/
def Lays (P : Program) (o : Oper) (T : Tm) (blk : Blk) (mk : Nat → V) : Prop :=
  ∀ (ξ : Nat → Value) (G : Gh) (a : Act) (w : World), TDen P ξ G T a → ∃ (x : Value) (obj : Obj) (g : GB) (d : Nat),
    (execOp a.eval o).run P w = .ok (.value x) { w with heap := w.heap.push obj, drawn := d } ∧ g.addr = w.heap.size ∧ BRep P ξ G g blk obj ∧ ∀ (G' : Gh) (b : Nat), Le G G' → G'[b]? = some (some g) → Den ξ G' (mk b) x
theorem flatten_get {α : Type} (z : List α) : ∀ (n i : Nat), ((List.replicate n z).flatten)[i]? = if i < n * z.length then z[i % z.length]? else none
  | 0, i => by simp
  | n + 1, i => by
    rw [List.replicate_succ, List.flatten_cons, List.getElem?_append]
    by_cases h : i < z.length
    · rw [if_pos h, if_pos (by rw [Nat.add_mul]; omega), Nat.mod_eq_of_lt h]
    · rw [if_neg h, flatten_get z n]
      have e : (n + 1) * z.length = n * z.length + z.length := by rw [Nat.add_mul]; omega
      by_cases h2 : i - z.length < n * z.length
      · rw [if_pos h2, if_pos (by omega)]
        congr 1
        conv => rhs; rw [show i = i - z.length + z.length by omega, Nat.add_mod_right]
      · rw [if_neg h2, if_neg (by omega)]
/-- zero, so many times -/
theorem zeros_den {ξ : Nat → Value} {G : Gh} {z : List V} {zs : Array Value} {s n : Nat} (hd : DenL ξ G z zs.toList) (hs : z.length = s) (m : Nat) (hm : m = n * s) :
    DenL ξ G (repl n z) ((Array.range m).map (zs[· % zs.size]!)).toList := by
  have hsz : zs.size = s := by have := hd.length; simpa [hs] using this
  rw [repl_eq]
  refine .of_get (by simp [hm, hs]) fun i v hv => ?_
  rw [flatten_get, hs] at hv
  split at hv
  · rename_i hlt
    obtain ⟨x, hx, hden⟩ := hd.get hv
    refine ⟨x, ?_, hden⟩
    rw [Array.getElem?_toList, Array.getElem?_map]
    rw [← hm] at hlt
    have : (Array.range m)[i]? = some i := by simp [hlt]
    rw [this, Option.map_some, hsz]
    have hx' : zs[i % s]? = some x := by simpa using hx
    obtain ⟨h1, h2⟩ := Array.getElem?_eq_some_iff.1 hx'
    rw [getElem!_pos zs _ h1, h2]
  · cases hv
/-- a new row of one's own -/
theorem brep_own {ξ : Nat → Value} {G : Gh} {cs : List V} {arr : Array Value} {el n : Nat} (hd : DenL ξ G cs arr.toList) : BRep P ξ G ⟨n, 0, 0⟩ (.cells cs el .own 0) (.cells arr el) := by
  have hl : arr.size = cs.length := by have := hd.length; simpa using this
  refine ⟨arr, 0, 0, rfl, fun i v hv => ?_, by simp [hl], rfl, hl, .inl (Nat.le_refl _)⟩
  obtain ⟨x, hx, hden⟩ := hd.get hv
  exact ⟨x, by simpa using hx, hden⟩
theorem den_ptr0 {ξ : Nat → Value} {G : Gh} {b n c : Nat} (h : G[b]? = some (some ⟨n, 0, c⟩)) : Den ξ G (.ptr b 0) (.pointer (some ⟨n, 0, none⟩)) := by
  simp only [Den]; exact ⟨_, h, rfl⟩
theorem aBox_ok {o : Oper} {t : TypeId} {x : Operand} {T : Tm} {K : Blk → (Nat → V) → R γ} {r : γ} (ho : o.op = .box t x) (h0 : aBox P t x T K = .ok r) : ∃ blk mk, K blk mk = .ok r ∧ Lays P o T blk mk := by
  obtain ⟨v, hv, h1⟩ := ev_ok h0
  rw [cellsK_cells] at h1
  refine ⟨_, _, h1, fun ξ G a w hT => ?_⟩
  refine ⟨.pointer (some ⟨w.heap.size, 0, none⟩), .cells (a.eval x).cells t, ⟨w.heap.size, 0, 0⟩, w.drawn, ?_, rfl, brep_own (den_cells (evP_den hT hv)), fun G' b _ hb => den_ptr0 hb⟩
  unfold execOp; rw [ho]
  simp [Instr.box, newVar, newRow]
theorem aAlloc_ok {o : Oper} {t : TypeId} {T : Tm} {K : Blk → (Nat → V) → R γ} {r : γ} (ho : o.op = .alloc t) (h0 : aAlloc P t T K = .ok r) : ∃ blk mk, K blk mk = .ok r ∧ Lays P o T blk mk := by
  obtain ⟨v, z, h1, h2, h3⟩ := zeroK_ok h0
  rw [cellsK_cells] at h1
  refine ⟨_, _, h1, fun ξ G a w hT => ?_⟩
  refine ⟨.pointer (some ⟨w.heap.size, 0, none⟩), .cells z.cells t, ⟨w.heap.size, 0, 0⟩, w.drawn, ?_, rfl, brep_own (den_cells (ofVal_den h2)), fun G' b _ hb => den_ptr0 hb⟩
  unfold execOp; rw [ho]
  simp [Instr.alloc, h3, newVar, newRow]
theorem aMakeMap_ok {o : Oper} {t : TypeId} {x : Option Operand} {T : Tm} {K : Blk → (Nat → V) → R γ} {r : γ} (ho : o.op = .makeMap t x) (h0 : aMakeMap x T K = .ok r) : ∃ blk mk, K blk mk = .ok r ∧ Lays P o T blk mk := by
  cases x with
  | some x => cases h0
  | none =>
    refine ⟨_, _, h0, fun ξ G a w hT => ?_⟩
    refine ⟨.map (some w.heap.size), .map #[] 0, ⟨w.heap.size, 0, 0⟩, w.drawn, ?_, rfl, ⟨#[], rfl, rfl, fun i k v s h => by simp at h⟩, fun G' b _ hb => by simp only [Den]; exact ⟨_, hb, rfl⟩⟩
    unfold execOp; rw [ho]
    simp [Instr.makeMap]
theorem aBuildSlice_ok {o : Oper} {t : TypeId} {n : Nat} {ps : Array (Nat × Operand)} {T : Tm} {K : Blk → (Nat → V) → R γ} {r : γ} (ho : o.op = .buildSlice t n ps) (h0 : aBuildSlice P t n ps T K = .ok r) : ∃ blk mk, K blk mk = .ok r ∧ Lays P o T blk mk := by
  have ht := tyK_of P t
  unfold aBuildSlice at h0
  generalize tyK P t = tk at h0 ht
  cases ht with
  | slc el i hu hi =>
    obtain ⟨v, z, h1, h2, h3⟩ := zeroK_ok h0
    rw [cellsK_cells, llen_eq] at h1
    obtain ⟨hs, h4⟩ := cond_ok h1
    obtain ⟨hb, h5⟩ := cond_ok h4
    have hs' : v.cells.length = i.size := Nat.eq_of_beq_eq_true hs
    have hb' : n * i.size ≤ 16777216 := Nat.le_of_ble_eq_true hb
    obtain ⟨cs', h6, h7, h8⟩ := partsK_ok (pl := fun i' => some (i' * i.size, i.size)) (fun i' k hk => ⟨_, _, rfl, hk⟩) h5
    refine ⟨_, _, h6, fun ξ G a w hT => ?_⟩
    have hz := zeros_den (ξ := ξ) (G := G) (n := n) (den_cells (ofVal_den h2)) hs' (n * i.size) rfl
    obtain ⟨ys, h9, h10⟩ := h8 hT hz
    refine ⟨.slice (some ⟨w.heap.size, 0, none⟩) n n, .cells ys el, ⟨w.heap.size, 0, 0⟩, w.drawn, ?_, rfl, brep_own h10, fun G' b _ hb => by simp only [Den]; exact ⟨_, hb, rfl⟩⟩
    unfold execOp; rw [ho]
    have hnb : ¬ (n * i.size > 2 ^ 24) := by omega
    have hps : (ps.map fun x => match x with | (i', x) => (i', a.eval x)).toList = ps.toList.map fun p => (p.1, a.eval p.2) := by simp
    simp only [Instr.buildSlice, Sem.run_bind, underlying_run hu, Result.andThen_ok, sizeOf_run hi, if_neg hnb, hps]
    by_cases hz0 : n * i.size = 0
    · simp only [hz0, if_true, Sem.run_bind, Sem.run_pure, Result.andThen_ok]
      have e0 : ((Array.range 0).map (fun x => (#[] : Array Value)[x % (#[] : Array Value).size]!)) = ((Array.range (n * i.size)).map (z.cells[· % z.cells.size]!)) := by rw [hz0]; simp
      rw [e0, h9]
      simp [newRow]
    · simp only [hz0, if_false, Sem.run_bind, h3 w, Result.andThen_ok, Sem.run_pure, h9]
      simp [newRow]
  | _ => cases h0
theorem aMakeSlice_ok {o : Oper} {t : TypeId} {l c : Operand} {T : Tm} {K : Blk → (Nat → V) → R γ} {r : γ} (ho : o.op = .makeSlice t l c) (h0 : aMakeSlice P t l c T K = .ok r) : ∃ blk mk, K blk mk = .ok r ∧ Lays P o T blk mk := by
  obtain ⟨vl, hvl, h1⟩ := ev_ok h0
  obtain ⟨vc, hvc, h2⟩ := ev_ok h1
  obtain ⟨kl, nl, rfl, h3⟩ := natK_ok h2
  obtain ⟨kc, nc, rfl, h4⟩ := natK_ok h3
  obtain ⟨hle, h5⟩ := cond_ok h4
  have hle' : nl ≤ nc := Nat.le_of_ble_eq_true hle
  have ht := tyK_of P t
  generalize tyK P t = tk at h5 ht
  cases ht with
  | slc el i hu hi =>
    obtain ⟨v, z, h6, h7, h8⟩ := zeroK_ok h5
    rw [cellsK_cells, llen_eq] at h6
    obtain ⟨hs, h9⟩ := cond_ok h6
    obtain ⟨hb1, h10⟩ := cond_ok h9
    obtain ⟨hb2, h11⟩ := cond_ok h10
    have hs' : v.cells.length = i.size := Nat.eq_of_beq_eq_true hs
    have hb1' : nc ≤ 281474976710656 := Nat.le_of_ble_eq_true hb1
    have hb2' : P.bytesOf el * nc ≤ 281474976710656 := Nat.le_of_ble_eq_true hb2
    rw [forceNat_eq, forceNat_eq, lapp_eq, List.append_nil] at h11
    refine ⟨_, _, h11, fun ξ G a w hT => ?_⟩
    have hz := zeros_den (ξ := ξ) (G := G) (n := nc) (den_cells (ofVal_den h7)) hs' (nc * i.size) rfl
    have e1 := evP_den hT hvl
    have e2 := evP_den hT hvc
    simp only [Den] at e1 e2
    refine ⟨.slice (some ⟨w.heap.size, 0, none⟩) nl nc, .cells ((Array.range (nc * i.size)).map (z.cells[· % z.cells.size]!)) el, ⟨w.heap.size, 0, 0⟩, w.drawn, ?_, rfl, brep_own hz, fun G' b _ hb => by simp only [Den]; exact ⟨_, hb, rfl⟩⟩
    have w1 : IntKind.i64.wrap (Int.ofNat nl) = Int.ofNat nl := by rw [IntKind.wrap_i64]; simp only [Int.ofNat_eq_natCast]; omega
    have w2 : IntKind.i64.wrap (Int.ofNat nc) = Int.ofNat nc := by rw [IntKind.wrap_i64]; simp only [Int.ofNat_eq_natCast]; omega
    have hby : P.bytesOf el = i.bytes := by simp [Program.bytesOf, hi]
    rw [hby] at hb2'
    have big : ¬ ((i.bytes : Int) * Int.ofNat nc > 2 ^ 48) := by
      have : ((i.bytes * nc : Nat) : Int) ≤ 281474976710656 := by omega
      rw [Int.natCast_mul] at this
      simp only [Int.ofNat_eq_natCast]
      omega
    unfold execOp; rw [ho]
    have c1 : ((decide ((Int.ofNat nc) < 0) || decide ((i.bytes : Int) * Int.ofNat nc > 2 ^ 48)) || decide ((Int.ofNat nl) < 0) || decide ((Int.ofNat nl) > Int.ofNat nc)) = false := by
      simp only [Bool.or_eq_false_iff, decide_eq_false_iff_not]
      refine ⟨⟨⟨by simp, big⟩, by simp⟩, by simp; omega⟩
    simp only [Instr.makeSlice, Sem.run_bind, underlying_run hu, Result.andThen_ok, e1, e2, asInt, asIntOf, Sem.run_pure, typeInfo_run hi, w1, w2, c1, Bool.false_eq_true, if_false, run_askRoom, sizeOf_run hi]
    rw [show (Int.ofNat nc).toNat = nc from rfl, show (Int.ofNat nl).toNat = nl from rfl]
    by_cases hz0 : nc * i.size = 0
    · simp only [hz0, if_true, Sem.run_bind, Sem.run_pure, Result.andThen_ok]
      have e0 : ∀ f g : Nat → Value, (Array.range 0).map f = (Array.range 0).map g := fun f g => by simp
      rw [e0 _ (z.cells[· % z.cells.size]!)]
      simp [newRow]
    · simp only [hz0, if_false, Sem.run_bind, h8 w, Result.andThen_ok, Sem.run_pure]
      simp [newRow]
  | _ => cases h5
theorem cellsK_dig {n c : Nat} {K : List V → R γ} : cellsK n c K = K ((digs n c).map fun b => .int .u8 (Int.ofNat b.toNat)) := by
  have key : ∀ (m : Nat) (K : List V → R γ), Nat.rec (motive := fun _ => (List V → R γ) → R γ) (fun k => k []) (fun m ih k => forceNat (Nat.mod (Nat.div c (Nat.pow 256 m)) 256) fun b => ih fun t => k (.int .u8 (.ofNat b) :: t)) m K = K ((digs m c).map fun b => .int .u8 (Int.ofNat b.toNat)) := by
    intro m
    induction m with
    | zero => intro K; rfl
    | succ m ih =>
      intro K
      show forceNat (Nat.mod (Nat.div c (Nat.pow 256 m)) 256) _ = _
      rw [forceNat_eq, ih]
      simp only [digs, List.map_cons]
      congr 2
      rw [ofNat_toNat (Nat.mod_lt _ (by decide))]
      rfl
  exact key n K
theorem modify_push {α : Type} (a : Array α) (x : α) (f : α → α) : (a.push x).modify a.size f = a.push (f x) := by
  apply Array.ext
  · simp
  · intro i h1 h2
    rw [Array.getElem_modify]
    by_cases hi : a.size = i
    · subst hi; simp
    · have : i < a.size := by simp at h2; omega
      rw [if_neg hi, Array.getElem_push_lt this, Array.getElem_push_lt this]
theorem aConvert_ok {o : Oper} {s d : TypeId} {x : Operand} {T : Tm} {K : Blk → (Nat → V) → R γ} {r : γ} (ho : o.op = .convert s d x) (h0 : aConvert P s d x T K = .ok r) : ∃ blk mk, K blk mk = .ok r ∧ Lays P o T blk mk := by
  obtain ⟨v, hv, h1⟩ := ev_ok h0
  have hs := tyK_of P s
  have hd := tyK_of P d
  generalize tyK P s = ks at h1 hs
  generalize tyK P d = kd at h1 hd
  split at h1
  case h_2 => cases h1
  rename_i el sz n c
  cases hd with
  | slc el i hud hi =>
  cases hs with
  | str hus =>
  unfold convS at h1
  have he := tyK_of P el
  generalize tyK P el = ke at h1 he
  split at h1
  case h_2 => cases h1
  cases he with
  | int k hue =>
  obtain ⟨h1c, h2⟩ := cond_ok h1
  have hc1 : P.cellsOf el = 1 := Nat.eq_of_beq_eq_true h1c
  rw [cellsK_dig] at h2
  refine ⟨_, _, h2, fun ξ G a w hT => ?_⟩
  have e1 := evP_den hT hv
  simp only [Den] at e1
  obtain ⟨hlt, e1⟩ := e1
  generalize hcap : (Question.appendCap n 0 el).cut (w.tape w.drawn (.appendCap n 0 el)) = cap
  have hge : n ≤ cap := by rw [← hcap]; simp [Question.cut]
  let arr : Array Value := (⟨(digs n c).toArray⟩ : ByteArray).data.map (fun b => Value.int .u8 b.toNat) ++ Array.replicate (cap - n) (.int .u8 0)
  have hsz : arr.size = cap := by simp [arr, digs_length]; omega
  refine ⟨.slice (some ⟨w.heap.size, 0, none⟩) n cap, .cells arr el (cap, cap + 1), ⟨w.heap.size, 0, cap⟩, w.drawn + 1, ?_, rfl, ?_, fun G' b _ hb => by simp only [Den]; exact ⟨_, hb, by simpa using hge, Nat.le_refl _, rfl⟩⟩
  · rw [conv_run ho, e1]
    have hbs : (⟨(digs n c).toArray⟩ : ByteArray).size = n := by simp [ByteArray.size, digs_length]
    simp only [convert, Sem.run_bind, underlying_run hus, underlying_run hud, underlying_run hue, Result.andThen_ok, Conv.stringToBytes, hbs, run_choose, Question.forced, Bool.false_eq_true, if_false, hcap, newRow, run_newObj, Sem.run_pure, markStringish, run_shape]
    have hshape : ({ w with heap := w.heap.push (.cells arr el), drawn := w.drawn + 1 } : World).shape? w.heap.size = some (el, cap) := by
      simp [World.shape?, hsz]
    rw [hshape]
    simp only [run_freeze, Result.andThen_ok]
    simp only [World.freeze, show ¬ ((1 : Nat) = 0) by decide, if_false]
    rw [modify_push]
    rfl
  · refine ⟨arr, cap, cap + 1, rfl, fun i v hv => ?_, by simp [hsz, digs_length]; exact hge, by simp [hc1, hsz], by simp [hsz]⟩
    rw [List.getElem?_map] at hv
    cases hdg : (digs n c)[i]? with
    | none => rw [hdg] at hv; cases hv
    | some b =>
      rw [hdg] at hv
      simp at hv
      subst hv
      have hi' : i < (digs n c).length := (List.getElem?_eq_some_iff.1 hdg).1
      refine ⟨.int .u8 (Int.ofNat b.toNat), ?_, by simp only [Den]; rfl⟩
      simp only [arr, Nat.zero_add]
      rw [Array.getElem?_append_left (by simpa using hi'), Array.getElem?_map]
      simp [hdg]
/-- what lays a block -/
theorem lays_ok {o : Oper} {T : Tm} {K : Blk → (Nat → V) → R γ} {r : γ} (h0 : evA P o.op T K = .ok r) : ∃ blk mk, K blk mk = .ok r ∧ Lays P o T blk mk := by
  cases ho : o.op with
  | alloc t => rw [ho] at h0; exact aAlloc_ok ho h0
  | box t x => rw [ho] at h0; exact aBox_ok ho h0
  | buildSlice t n ps => rw [ho] at h0; exact aBuildSlice_ok ho h0
  | makeSlice t l c => rw [ho] at h0; exact aMakeSlice_ok ho h0
  | makeMap t x => rw [ho] at h0; exact aMakeMap_ok ho h0
  | convert s d x => rw [ho] at h0; exact aConvert_ok ho h0
  | _ => rw [ho] at h0; cases h0
end
end Go.Ev
