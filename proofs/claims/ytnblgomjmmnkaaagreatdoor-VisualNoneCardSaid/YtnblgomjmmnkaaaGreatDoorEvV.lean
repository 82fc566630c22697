/- An interpreter of the model's code, run by the kernel at closed calls: calls, code, bodies, deferred calls. No program in sight. -/
import Derived.Test.YtnblgomjmmnkaaaGreatDoorEvN
import Derived.LoopN
import Derived.Defers
set_option linter.unusedVariables false
set_option linter.unusedSimpArgs false
namespace Go.Ev
open Go
section
variable {P : Program} {γ : Type}
/-- behind a call: its value, the heap -/
def Post (P : Program) (ξ : Nat → Value) (G : Gh) (h : H) (w : World) (v : V) (h' : H) : Value → World → Prop := fun x w' => ∃ G', Den ξ G' v x ∧ Rep P ξ G' h' w' ∧ Step G h w G' h' w'
/-- a call answers so, at whatever operation -/
def CallW (P : Program) (f : FuncId) (args : Array Value) (w : World) (R : Value → World → Prop) : Prop :=
  ∀ (o : Oper) (a : Act) (next : Act → World → Prop) (Q : Exit → Act → World → Prop), (∀ x w', R x w' → next (a.put o.dst x) w') → o.upon P a next Q ((callFunc f args).run P w)
/-- the package's variables are known -/
def GlobOk (P : Program) (G : Gh) : Prop := ∀ g : Nat, g < P.globals.size → ∃ c, G[g]? = some (some ⟨g, 0, c⟩)
def CallOk (P : Program) (F : CallF) : Prop := ∀ (f : Nat) (l : List V) (h : H) (v : V) (h' : H), F f l h = .ok (v, h') → h'.ds = h.ds ∧
  ∀ (ξ : Nat → Value) (G : Gh) (args : Array Value) (w : World), Rep P ξ G h w → GlobOk P G → DenL ξ G l args.toList → CallW P f args w (Post P ξ G h w v h')
theorem call_res {x : R (V × H)} {K : V → H → R γ} {r : γ} (h : R.rec (motive := fun _ => R γ) (fun r => Prod.rec K r) (fun n => .no n) x = .ok r) : ∃ v h', x = .ok (v, h') ∧ K v h' = .ok r := by
  cases x with
  | ok p => exact ⟨p.1, p.2, rfl, h⟩
  | no n => cases h
theorem callK_ok {F : CallF} {f : V} {l : List V} {h : H} {K : V → H → R γ} {r : γ} (h0 : callK F f l h K = .ok r) :
    ∃ v h' fn first cap, K v h' = .ok r ∧ f = .fn (.func fn) first cap ∧ F fn (first ++ (l ++ cap)) h = .ok (v, h') := by
  unfold callK at h0
  split at h0
  case h_2 => cases h0
  rename_i fn first cap
  split at h0
  case h_2 => cases h0
  rename_i fn
  rw [lapp_eq, lapp_eq] at h0
  obtain ⟨v, h', h1, h2⟩ := call_res h0
  exact ⟨v, h', fn, first, cap, h2, rfl, h1⟩
theorem opValue_ok {F : CallF} (hF : CallOk P F) {o : Oper} {f : Operand} {as : Array Operand} {ts : Array TypeId} {T : Tm} {h : H} {K : V → H → R γ} {r : γ} (ho : o.op = .call { callee := .value f, args := as, argTypes := ts })
    (h0 : opCall P F { callee := .value f, args := as, argTypes := ts } T h K = .ok r) : DoesK P o T h K r := by
  obtain ⟨l, h1, hl⟩ := evs_ok h0
  obtain ⟨vf, hf, h2⟩ := ev_ok h1
  obtain ⟨v, h', fn, first, cap, h3, rfl, h4⟩ := callK_ok h2
  obtain ⟨hds, hpost⟩ := hF fn _ h v h' h4
  refine ⟨v, h', h3, fun ξ G a w R hT hD next Q hn => ?_⟩
  have e1 := evP_den hT hf
  simp only [Den] at e1
  obtain ⟨x, y, e1, d1, d2⟩ := e1
  have d3 : DenL ξ G (first ++ (l ++ cap)) ((x ++ as.map a.eval) ++ y).toList := by
    simp only [Array.toList_append, List.append_assoc, Array.toList_map]
    exact d1.append ((hl hT).append d2)
  have := hpost ξ G _ w R hT.glob d3 o a next Q (fun z w' ⟨G', q1, q2, q3⟩ => hn G' z w' a.defers q1 q2 q3 (by rw [hds]; exact hD.mono q3.le))
  unfold Oper.wp
  have e : (execOp a.eval o).run P w = (callFunc fn ((x ++ as.map a.eval) ++ y)).run P w := by
    unfold execOp; rw [ho]
    simp only [resolve, e1, Deferred.ofValue, Sem.run_bind, Sem.run_pure, Result.andThen_ok, invoke]
  rw [e]
  exact this
theorem invokeK_ok {F : CallF} {rv : V} {name : String} {l : List V} {h : H} {K : V → H → R γ} {r : γ} (h0 : invokeK P F rv name l h K = .ok r) :
    ∃ t v z h' f, rv = .iface t v ∧ K z h' = .ok r ∧ F f (v :: l) h = .ok (z, h') ∧ ∀ (x : Value) (w : World), (method (P.types.size + Made.depth) t x name).run P w = .ok (f, x) w := by
  unfold invokeK at h0
  split at h0
  case h_2 => cases h0
  rename_i t v
  split at h0
  case h_2 => cases h0
  rename_i i hi
  split at h0
  case h_2 => cases h0
  rename_i m hm
  split at h0
  case h_2 => cases h0
  rename_i f ptr hp hf
  have ht := tyK_of P t
  generalize tyK P t = tk at h0 ht
  have fin : ∀ {d : TypeDesc}, P.underlying t = some d → (∀ (x : Value) (w : World) (q : Option String), (receiverAt t (.val x) ptr q).run P w = .ok x w) → (R.rec (motive := fun _ => R γ) (fun r => Prod.rec K r) (fun n => .no n) (F f (v :: l) h)) = .ok r →
      ∃ t' v' z h' f', V.iface t v = .iface t' v' ∧ K z h' = .ok r ∧ F f' (v' :: l) h = .ok (z, h') ∧ ∀ (x : Value) (w : World), (method (P.types.size + Made.depth) t' x name).run P w = .ok (f', x) w := by
    intro d hd hr hc
    obtain ⟨z, h', h1, h2⟩ := call_res hc
    refine ⟨t, v, z, h', f, rfl, h2, h1, fun x w => ?_⟩
    obtain ⟨n, hn⟩ : ∃ n, P.types.size + Made.depth = n + 1 := ⟨P.types.size + (Made.depth - 1), by
      have : 0 < Made.depth := by decide
      omega⟩
    rw [hn]
    simp only [method, Sem.run_bind, typeInfo_run hi, Result.andThen_ok, hm, hp, follow, Sem.run_pure, hf, hr]
  cases ht with
  | bad => cases h0
  | ptr e i' hu _ =>
    obtain ⟨hptr, h0⟩ := cond_ok h0
    subst hptr
    exact fin hu (fun x w q => by simp only [receiverAt, Sem.run_bind, underlying_run hu, Result.andThen_ok, Place.get, Sem.run_pure]) h0
  | agg fs l hu hl => obtain ⟨hptr, h0⟩ := cond_no h0; subst hptr; exact fin hu (fun x w q => by simp only [receiverAt, Sem.run_bind, underlying_run hu, Result.andThen_ok, Place.get, Sem.run_pure]) h0
  | arr n e i hu hi => obtain ⟨hptr, h0⟩ := cond_no h0; subst hptr; exact fin hu (fun x w q => by simp only [receiverAt, Sem.run_bind, underlying_run hu, Result.andThen_ok, Place.get, Sem.run_pure]) h0
  | slc e i hu hi => obtain ⟨hptr, h0⟩ := cond_no h0; subst hptr; exact fin hu (fun x w q => by simp only [receiverAt, Sem.run_bind, underlying_run hu, Result.andThen_ok, Place.get, Sem.run_pure]) h0
  | int k hu => obtain ⟨hptr, h0⟩ := cond_no h0; subst hptr; exact fin hu (fun x w q => by simp only [receiverAt, Sem.run_bind, underlying_run hu, Result.andThen_ok, Place.get, Sem.run_pure]) h0
  | bool hu => obtain ⟨hptr, h0⟩ := cond_no h0; subst hptr; exact fin hu (fun x w q => by simp only [receiverAt, Sem.run_bind, underlying_run hu, Result.andThen_ok, Place.get, Sem.run_pure]) h0
  | str hu => obtain ⟨hptr, h0⟩ := cond_no h0; subst hptr; exact fin hu (fun x w q => by simp only [receiverAt, Sem.run_bind, underlying_run hu, Result.andThen_ok, Place.get, Sem.run_pure]) h0
  | uns hu => obtain ⟨hptr, h0⟩ := cond_no h0; subst hptr; exact fin hu (fun x w q => by simp only [receiverAt, Sem.run_bind, underlying_run hu, Result.andThen_ok, Place.get, Sem.run_pure]) h0
  | ifc ms hu => obtain ⟨hptr, h0⟩ := cond_no h0; subst hptr; exact fin hu (fun x w q => by simp only [receiverAt, Sem.run_bind, underlying_run hu, Result.andThen_ok, Place.get, Sem.run_pure]) h0
  | fnc a b c hu => obtain ⟨hptr, h0⟩ := cond_no h0; subst hptr; exact fin hu (fun x w q => by simp only [receiverAt, Sem.run_bind, underlying_run hu, Result.andThen_ok, Place.get, Sem.run_pure]) h0
  | map k e hu => obtain ⟨hptr, h0⟩ := cond_no h0; subst hptr; exact fin hu (fun x w q => by simp only [receiverAt, Sem.run_bind, underlying_run hu, Result.andThen_ok, Place.get, Sem.run_pure]) h0
  | oth d hu h1 h2 h3 h4 =>
    obtain ⟨hptr, h0⟩ := cond_no h0
    subst hptr
    refine fin hu (fun x w q => ?_) h0
    cases d with
    | pointer e => exact absurd rfl (h4 e)
    | _ => simp only [receiverAt, Sem.run_bind, underlying_run hu, Result.andThen_ok, Place.get, Sem.run_pure]
theorem opInvoke_ok {F : CallF} (hF : CallOk P F) {o : Oper} {rc : Operand} {name : String} {as : Array Operand} {ts : Array TypeId} {T : Tm} {h : H} {K : V → H → R γ} {r : γ} (ho : o.op = .call { callee := .invoke rc name, args := as, argTypes := ts })
    (h0 : opCall P F { callee := .invoke rc name, args := as, argTypes := ts } T h K = .ok r) : DoesK P o T h K r := by
  obtain ⟨l, h1, hl⟩ := evs_ok h0
  obtain ⟨vr, hr, h2⟩ := ev_ok h1
  obtain ⟨t, v, z, h', f, rfl, h3, h4, hm⟩ := invokeK_ok h2
  obtain ⟨hds, hpost⟩ := hF f _ h z h' h4
  refine ⟨z, h', h3, fun ξ G a w R hT hD next Q hn => ?_⟩
  have e1 := evP_den hT hr
  simp only [Den] at e1
  obtain ⟨x, e1, d1⟩ := e1
  have d3 : DenL ξ G (v :: l) (#[x] ++ as.map a.eval).toList := by
    simp only [Array.toList_append, Array.toList_map]
    exact DenL.cons d1 (hl hT)
  have := hpost ξ G _ w R hT.glob d3 o a next Q (fun z w' ⟨G', q1, q2, q3⟩ => hn G' z w' a.defers q1 q2 q3 (by rw [hds]; exact hD.mono q3.le))
  unfold Oper.wp
  have ex : (#[Value.iface t x] ++ as.map a.eval).extract 1 (#[Value.iface t x] ++ as.map a.eval).size = as.map a.eval := by
    apply Array.ext'
    simp
    exact List.take_of_length_le (by simp)
  have e : (execOp a.eval o).run P w = (callFunc f (#[x] ++ as.map a.eval)).run P w := by
    unfold execOp; rw [ho]
    simp only [resolve, e1, Sem.run_bind, Sem.run_pure, Result.andThen_ok, invoke]
    have e0 : (#[Value.iface t x] ++ as.map a.eval)[0]? = some (Value.iface t x) := by rw [Array.getElem?_append_left (by show 0 < 1; decide)]; rfl
    rw [e0]
    simp only [ex, callMethod, Sem.run_bind, run_program, Result.andThen_ok, hm]
  rw [e]
  exact this
theorem opDefer_ok {o : Oper} {c : Call} {T : Tm} {h : H} {K : V → H → R γ} {r : γ} (ho : o.op = .defer c) (h0 : opDefer P c T h K = .ok r) : DoesK P o T h K r := by
  obtain ⟨callee, as, ts⟩ := c
  unfold opDefer at h0
  cases callee with
  | value f =>
    obtain ⟨vf, hf, h1⟩ := ev_ok h0
    obtain ⟨l, h2, hl⟩ := evs_ok h1
    split at h2
    case h_2 => cases h2
    rename_i fn first cap
    refine ⟨_, _, h2, fun ξ G a w R hT hD next Q hn => ?_⟩
    have e1 := evP_den hT hf
    simp only [Den] at e1
    obtain ⟨x, y, e1, d1, d2⟩ := e1
    unfold Oper.wp
    have e : (execOp a.eval o).run P w = .ok (.defer { target := .fn fn y, args := x ++ as.map a.eval }) w := by
      unfold execOp; rw [ho]
      simp only [resolve, e1, Deferred.ofValue, Sem.run_bind, Sem.run_pure, Result.andThen_ok]
    rw [e]
    refine hn G undef w ({ target := .fn fn y, args := x ++ as.map a.eval } :: a.defers) den_undef ⟨R.len, R.lt, R.blk, R.inj⟩ ⟨rfl, rfl, rfl, Nat.le_refl _, fun _ _ _ => rfl, fun _ _ h => h, fun _ _ h => h, [], by simp⟩ ?_
    exact ⟨_, _, rfl, ⟨fn, first, cap, l, rfl, x.toList, y.toList, as.toList.map a.eval, by simp, by simp, d1, d2, hl hT, rfl⟩, hD⟩
  | _ => cases h0
/-- each operation -/
theorem op_ok {F : CallF} (hF : CallOk P F) {o : Oper} {T : Tm} {h : H} {K : V → H → R γ} {r : γ} (h0 : evOp P F o.op T h K = .ok r) : DoesK P o T h K r := by
  by_cases c0 : cls P o.op = 0
  · obtain ⟨v, h1, h2⟩ := pure_ok c0 h0
    exact ⟨v, h, h1, does_pure h2⟩
  by_cases c1 : cls P o.op = 1
  · obtain ⟨v, h1, h2⟩ := reads_ok c1 h0
    exact ⟨v, h, h1, does_reads h2⟩
  cases ho : o.op with
  | alloc t => rw [ho] at h0; exact opA_ok (callF := F) (fun h => aAlloc_ok ho h) h0
  | box t x => rw [ho] at h0; exact opA_ok (callF := F) (fun h => aBox_ok ho h) h0
  | buildSlice t n ps => rw [ho] at h0; exact opA_ok (callF := F) (fun h => aBuildSlice_ok ho h) h0
  | makeSlice t l c => rw [ho] at h0; exact opA_ok (callF := F) (fun h => aMakeSlice_ok ho h) h0
  | makeMap t x => rw [ho] at h0; exact opA_ok (callF := F) (fun h => aMakeMap_ok ho h) h0
  | store t a x => rw [ho] at h0; exact opStore_ok ho h0
  | convert s d x => rw [ho] at h0; exact opConvert_ok (callF := F) ho h0
  | mapUpdate t m k x => rw [ho] at h0; exact opMapSet_ok (.inl ho) h0
  | insert t m k x => rw [ho] at h0; exact opMapSet_ok (.inr ho) h0
  | mapEntry t m k => rw [ho] at h0; exact opMapEntry_ok ho h0
  | entryStore t m s x => rw [ho] at h0; exact opEntryStore_ok ho h0
  | range t x => rw [ho] at h0; exact opRange_ok ho h0
  | next x s => rw [ho] at h0; exact opNext_ok ho h0
  | defer c => rw [ho] at h0; exact opDefer_ok ho h0
  | call c =>
    rw [ho] at h0 c0
    obtain ⟨callee, as, ts⟩ := c
    cases callee with
    | value f => exact opValue_ok hF ho h0
    | invoke f m => exact opInvoke_ok hF ho h0
    | builtin b =>
      obtain ⟨l, h1, hl⟩ := evs_ok h0
      cases b with
      | append => exact bAppend_ok ho hl h1
      | copy => exact bCopy_ok ho hl h1
      | clear => exact bClear_ok ho hl h1
      | unsafeString => exact bString_ok ho hl h1
      | len => exact absurd rfl c0
      | cap => exact absurd rfl c0
      | max => exact absurd rfl c0
      | min => exact absurd rfl c0
      | unsafeSliceData => exact absurd rfl c0
      | _ => cases h1
  | _ => first | (rw [ho] at c0; exact absurd rfl c0) | (rw [ho] at c1; exact absurd rfl c1) | (rw [ho] at h0; cases h0)
end
end Go.Ev
namespace Go.Ev
open Go
section
variable {P : Program}
def Ex.exit' : Ex → Exit
  | .normal => .normal
  | .exit n => .exit n
  | .ret => .ret
/-- what stands behind a piece of code -/
def After (P : Program) (ξ : Nat → Value) (G : Gh) (h : H) (w : World) (T' : Tm) (h' : H) : Act → World → Prop := fun a' w' => ∃ G', Rep P ξ G' h' w' ∧ TDen P ξ G' T' a' ∧ DsDen ξ G' h'.ds a'.defers ∧ Step G h w G' h' w'
theorem After.trans {ξ : Nat → Value} {G G1 : Gh} {h h1 h' : H} {w w1 : World} {T' : Tm} {a : Act} {w' : World} (s : Step G h w G1 h1 w1) (k : After P ξ G1 h1 w1 T' h' a w') : After P ξ G h w T' h' a w' := by
  obtain ⟨G', q1, q2, q3, q4⟩ := k
  exact ⟨G', q1, q2, q3, s.trans q4⟩
theorem wantK_ok {γ : Type} {all : List Oper} {o : Oper} {T : Tm} {yes no : R γ} {r : γ} (h0 : wantK all o T yes no = .ok r) :
    (yes = .ok r ∧ ∀ (ξ : Nat → Value) (G : Gh) (a : Act), TDen P ξ G T a → Region.wanted o (yielded all.toArray a.tmps) = true) ∨
    (no = .ok r ∧ ∀ (ξ : Nat → Value) (G : Gh) (a : Act), TDen P ξ G T a → Region.wanted o (yielded all.toArray a.tmps) = false) := by
  unfold wantK at h0
  cases hg : o.guard with
  | none =>
    rw [hg] at h0
    exact .inl ⟨h0, fun ξ G a hT => by simp only [Region.wanted, hg]⟩
  | some g =>
    obtain ⟨j, want⟩ := g
    rw [hg] at h0
    have h1 : wantG want (gdst all j) T yes no = .ok r := h0
    unfold wantG at h1
    unfold gdst at h1
    rw [lget_eq] at h1
    cases hj : all[j]? with
    | none => rw [hj] at h1; cases h1
    | some p =>
      rw [hj] at h1
      dsimp only at h1
      cases hd : p.dst with
      | none => rw [hd] at h1; cases h1
      | some d =>
        rw [hd] at h1
        obtain ⟨v, hv, h2⟩ := tget_ok h1
        have hy : ∀ (ξ : Nat → Value) (G : Gh) (a : Act), TDen P ξ G T a → ∃ x, Den ξ G v x ∧ yielded all.toArray a.tmps j = match x with | .bool b => some b | _ => none := by
          intro ξ G a hT
          obtain ⟨x, hx, hden⟩ := hT.tmp d v hv
          refine ⟨x, hden, ?_⟩
          have e1 : all.toArray[j]? = some p := by simpa using hj
          simp only [yielded, e1, Option.bind_some, hd, hx]
          cases x <;> rfl
        have notb : no = .ok r → (∀ (ξ : Nat → Value) (G : Gh) (x : Value), Den ξ G v x → ∀ b, x ≠ .bool b) → (no = .ok r ∧ ∀ (ξ : Nat → Value) (G : Gh) (a : Act), TDen P ξ G T a → Region.wanted o (yielded all.toArray a.tmps) = false) := by
          intro hno hnb
          refine ⟨hno, fun ξ G a hT => ?_⟩
          obtain ⟨x, hx, hyy⟩ := hy ξ G a hT
          have := hnb ξ G x hx
          simp only [Region.wanted, hg, hyy]
          cases x <;> first | exact absurd rfl (this _) | rfl
        split at h2
        · rename_i b
          cases hb : (cond b want (not want)) with
          | true =>
            rw [hb] at h2
            refine .inl ⟨h2, fun ξ G a hT => ?_⟩
            obtain ⟨x, hx, hyy⟩ := hy ξ G a hT
            simp only [Den] at hx
            subst hx
            simp only [Region.wanted, hg, hyy]
            cases b <;> cases want <;> first | rfl | cases hb
          | false =>
            rw [hb] at h2
            refine .inr ⟨h2, fun ξ G a hT => ?_⟩
            obtain ⟨x, hx, hyy⟩ := hy ξ G a hT
            simp only [Den] at hx
            subst hx
            simp only [Region.wanted, hg, hyy]
            cases b <;> cases want <;> first | rfl | cases hb
        · cases h2
        · rename_i hn1 hn2
          refine .inr (notb h2 fun ξ G x hx b hb => ?_)
          subst hb
          cases v with
          | bool c => exact absurd rfl (hn1 c)
          | opq i => exact absurd rfl (hn2 i)
          | _ =>
            simp only [Den] at hx
            first
              | exact absurd hx (by simp)
              | (obtain ⟨_, hx⟩ := hx; exact absurd hx (by simp))
              | (obtain ⟨_, hx, _⟩ := hx; exact absurd hx (by simp))
              | (obtain ⟨_, _, hx⟩ := hx; exact absurd hx (by simp))
              | (obtain ⟨_, _, hx, _⟩ := hx; exact absurd hx (by simp))
              | (obtain ⟨_, _, _, hx⟩ := hx; exact absurd hx (by simp))
              | (obtain ⟨_, _, _, _, hx⟩ := hx; exact absurd hx (by simp))
/-- operations in the order they stand in -/
theorem runOps_ok {γ : Type} {F : CallF} (hF : CallOk P F) {all : List Oper} {r : γ} : ∀ {ops : List Oper} {i : Nat} {T : Tm} {h : H} {K : Tm → H → R γ}, all.drop i = ops → runOps P F all ops T h K = .ok r →
    ∃ T' h', K T' h' = .ok r ∧ ∀ (ξ : Nat → Value) (G : Gh) (a : Act) (w : World), Rep P ξ G h w → TDen P ξ G T a → DsDen ξ G h.ds a.defers → ∀ (Q : Exit → Act → World → Prop), (∀ a' w', After P ξ G h w T' h' a' w' → Q .normal a' w') → wpOps P all.toArray Q (List.range' i ops.length) a w
  | [], i, T, h, K, _, h0 => ⟨T, h, h0, fun ξ G a w R hT hD Q hQ => hQ a w ⟨G, R, hT, hD, Step.refl _ _ _⟩⟩
  | o :: ops, i, T, h, K, hdrop, h0 => by
    have h1 : wantK all o T (evOp P F o.op T h fun v h => dstK o.dst v T fun T => runOps P F all ops T h K) (dstK o.dst (.tup []) T fun T => runOps P F all ops T h K) = .ok r := h0
    have hi : all[i]? = some o := by
      have := congrArg (·[0]?) hdrop
      simpa [List.getElem?_drop] using this
    have hnext : all.drop (i + 1) = ops := by
      have := congrArg List.tail hdrop
      simpa [List.tail_drop] using this
    have hi' : all.toArray[i]? = some o := by simpa using hi
    rcases wantK_ok (P := P) h1 with ⟨h2, hw⟩ | ⟨h2, hw⟩
    · obtain ⟨v, h', h3, hdoes⟩ := op_ok hF h2
      obtain ⟨T1, h4, hT1⟩ := dstK_ok (P := P) h3
      obtain ⟨T2, h2', h5, h6⟩ := runOps_ok hF hnext h4
      refine ⟨T2, h2', h5, fun ξ G a w R hT hD Q hQ => ?_⟩
      simp only [List.length_cons, List.range'_succ, wpOps, hi', hw ξ G a hT, if_true]
      refine .inl (hdoes ξ G a w R hT hD _ Q fun G' x w' ds q1 q2 q3 q4 => ?_)
      have hTm : TDen P ξ G' T ({ a with defers := ds } : Act) := ⟨(hT.mono q3.le).tmp, (hT.mono q3.le).glob⟩
      have hd' : (({ a with defers := ds } : Act).put o.dst x).defers = ds := by cases o.dst <;> rfl
      exact h6 ξ G' _ w' q2 (hT1 hTm q1) (by rw [hd']; exact q4) Q fun a' w'' k => hQ a' w'' (k.trans q3)
    · obtain ⟨T1, h4, hT1⟩ := dstK_ok (P := P) h2
      obtain ⟨T2, h2', h5, h6⟩ := runOps_ok hF hnext h4
      refine ⟨T2, h2', h5, fun ξ G a w R hT hD Q hQ => ?_⟩
      simp only [List.length_cons, List.range'_succ, wpOps, hi', hw ξ G a hT, Bool.false_eq_true, if_false]
      have hd' : (a.put o.dst undef).defers = a.defers := by cases o.dst <;> rfl
      exact h6 ξ G _ w R (hT1 hT den_undef) (by rw [hd']; exact hD) Q hQ
/-- a region whose order is drawn (to be shown) -/
def DrawOk (P : Program) (F : CallF) : Prop := ∀ (ops : Array Oper) (id : Nat) (T : Tm) (h : H) (x : Ex) (T' : Tm) (h' : H), drawRun P F ops.toList T h (fun T h => .ok (.normal, T, h)) = .ok (x, T', h') → x = .normal ∧
  ∀ (ξ : Nat → Value) (G : Gh) (a : Act) (w : World) (Q : Exit → Act → World → Prop), Rep P ξ G h w → TDen P ξ G T a → DsDen ξ G h.ds a.defers → (∀ a' w', After P ξ G h w T' h' a' w' → Q .normal a' w') → (Code.region id ops true).wp P Q a w
end
end Go.Ev
namespace Go.Ev
open Go
section
variable {P : Program}
/-- a piece of code goes so -/
def Goes (P : Program) (n : Nat) (c : Code) (T : Tm) (h : H) (x : Ex) (T' : Tm) (h' : H) : Prop :=
  ∀ (ξ : Nat → Value) (G : Gh) (a : Act) (w : World) (Q : Exit → Act → World → Prop), Rep P ξ G h w → TDen P ξ G T a → DsDen ξ G h.ds a.defers → (∀ a' w', After P ξ G h w T' h' a' w' → Q x.exit' a' w') → c.wp P Q a w ∧ ∀ b, c = .loop b → Code.rounds P b Q n a w
theorem res_ok {K : Ex → Tm × H → R (Ex × Tm × H)} {y : R (Ex × Tm × H)} {r : Ex × Tm × H} (h : R.rec (motive := fun _ => R (Ex × Tm × H)) (fun r => Prod.rec K r) (fun n => .no n) y = .ok r) : ∃ x T h', y = .ok (x, T, h') ∧ K x (T, h') = .ok r := by
  cases y with
  | ok p => exact ⟨p.1, p.2.1, p.2.2, rfl, h⟩
  | no n => cases h
theorem code_ok {F : CallF} (hF : CallOk P F) (hDr : DrawOk P F) : ∀ (n : Nat) (c : Code) (T : Tm) (h : H) (x : Ex) (T' : Tm) (h' : H), runCode P F n c T h = .ok (x, T', h') → Goes P n c T h x T' h'
  | 0, c, T, h, x, T', h', h0 => by cases h0
  | n + 1, c, T, h, x, T', h', h0 => by
    have ih := code_ok hF hDr n
    have h1 : codeStep P F (runCode P F n) c T h = .ok (x, T', h') := h0
    intro ξ G a w Q rp hT hD hQ
    cases c with
    | skip =>
      have h2 : (R.ok (.normal, T, h) : R (Ex × Tm × H)) = .ok (x, T', h') := h1
      simp at h2
      obtain ⟨rfl, rfl, rfl⟩ := h2
      exact ⟨wp_skip (hQ a w ⟨G, rp, hT, hD, Step.refl _ _ _⟩), fun b hb => by cases hb⟩
    | exit id =>
      have h2 : (R.ok (.exit id, T, h) : R (Ex × Tm × H)) = .ok (x, T', h') := h1
      simp at h2
      obtain ⟨rfl, rfl, rfl⟩ := h2
      exact ⟨wp_exit (hQ a w ⟨G, rp, hT, hD, Step.refl _ _ _⟩), fun b hb => by cases hb⟩
    | ret =>
      have h2 : (R.ok (.ret, T, h) : R (Ex × Tm × H)) = .ok (x, T', h') := h1
      simp at h2
      obtain ⟨rfl, rfl, rfl⟩ := h2
      exact ⟨wp_ret (hQ a w ⟨G, rp, hT, hD, Step.refl _ _ _⟩), fun b hb => by cases hb⟩
    | region id ops draw =>
      refine ⟨?_, fun b hb => by cases hb⟩
      cases draw with
      | true =>
        have h2 : drawRun P F ops.toList T h (fun T h => .ok (.normal, T, h)) = .ok (x, T', h') := h1
        obtain ⟨rfl, h3⟩ := hDr ops id T h x T' h' h2
        exact h3 ξ G a w Q rp hT hD hQ
      | false =>
        have h2 : runOps P F ops.toList ops.toList T h (fun T h => (R.ok (Ex.normal, T, h) : R (Ex × Tm × H))) = .ok (x, T', h') := h1
        obtain ⟨T2, h2', h3, h4⟩ := runOps_ok hF (i := 0) (by simp) h2
        simp at h3
        obtain ⟨rfl, rfl, rfl⟩ := h3
        refine wp_region ?_
        have := h4 ξ G a w rp hT hD Q hQ
        rw [List.range_eq_range']
        simpa using this
    | seq u v =>
      refine ⟨?_, fun b hb => by cases hb⟩
      have h2 : cSeq (runCode P F n) u v T h = .ok (x, T', h') := h1
      unfold cSeq at h2
      obtain ⟨y, T1, h1', h3, h4⟩ := res_ok (K := fun x r => Ex.rec (Prod.rec (runCode P F n v) r) (fun n => .ok (.exit n, r)) (.ok (.ret, r)) x) h2
      refine wp_seq (ih u T h y T1 h1' h3 ξ G a w _ rp hT hD fun a' w' ⟨G', q1, q2, q3, q4⟩ => ?_).1
      cases y with
      | normal => exact (ih v T1 h1' x T' h' h4 ξ G' a' w' Q q1 q2 q3 fun a'' w'' k => hQ a'' w'' (k.trans q4)).1
      | exit m =>
        have h5 : (R.ok (.exit m, T1, h1') : R (Ex × Tm × H)) = .ok (x, T', h') := h4
        simp at h5
        obtain ⟨rfl, rfl, rfl⟩ := h5
        exact hQ a' w' ⟨G', q1, q2, q3, q4⟩
      | ret =>
        have h5 : (R.ok (.ret, T1, h1') : R (Ex × Tm × H)) = .ok (x, T', h') := h4
        simp at h5
        obtain ⟨rfl, rfl, rfl⟩ := h5
        exact hQ a' w' ⟨G', q1, q2, q3, q4⟩
    | cond o u v =>
      refine ⟨?_, fun b hb => by cases hb⟩
      obtain ⟨z, hz, h2⟩ := ev_ok (K := fun v' => match v' with | .bool c => cond c (runCode P F n u T h) (runCode P F n v T h) | _ => .no 93) h1
      split at h2
      case h_2 => cases h2
      rename_i b
      have e1 := evP_den hT hz
      simp only [Den] at e1
      cases b with
      | true => exact wp_cond_true e1 (ih u T h x T' h' h2 ξ G a w Q rp hT hD hQ).1
      | false => exact wp_cond_false e1 (ih v T h x T' h' h2 ξ G a w Q rp hT hD hQ).1
    | block id u =>
      refine ⟨?_, fun b hb => by cases hb⟩
      have h2 : cBlock (runCode P F n) id u T h = .ok (x, T', h') := h1
      unfold cBlock at h2
      obtain ⟨y, T1, h1', h3, h4⟩ := res_ok (K := fun x r => Ex.rec (.ok (.normal, r)) (fun n => cond (Nat.beq n id) (.ok (.normal, r)) (.ok (.exit n, r))) (.ok (.ret, r)) x) h2
      refine wp_block (ih u T h y T1 h1' h3 ξ G a w _ rp hT hD fun a' w' k => ?_).1
      cases y with
      | normal =>
        have h5 : (R.ok (.normal, T1, h1') : R (Ex × Tm × H)) = .ok (x, T', h') := h4
        simp at h5
        obtain ⟨rfl, rfl, rfl⟩ := h5
        exact hQ a' w' k
      | exit m =>
        have h5 : cond (Nat.beq m id) (R.ok (.normal, T1, h1') : R (Ex × Tm × H)) (.ok (.exit m, T1, h1')) = .ok (x, T', h') := h4
        cases hm : Nat.beq m id with
        | true =>
          rw [hm] at h5
          simp at h5
          obtain ⟨rfl, rfl, rfl⟩ := h5
          show (if m = id then Q .normal a' w' else Q (.exit m) a' w')
          rw [if_pos (Nat.eq_of_beq_eq_true hm)]
          exact hQ a' w' k
        | false =>
          rw [hm] at h5
          simp at h5
          obtain ⟨rfl, rfl, rfl⟩ := h5
          show (if m = id then Q .normal a' w' else Q (.exit m) a' w')
          rw [if_neg (Nat.ne_of_beq_eq_false hm)]
          exact hQ a' w' k
      | ret =>
        have h5 : (R.ok (.ret, T1, h1') : R (Ex × Tm × H)) = .ok (x, T', h') := h4
        simp at h5
        obtain ⟨rfl, rfl, rfl⟩ := h5
        exact hQ a' w' k
    | loop u =>
      have h2 : cLoop (runCode P F n) u T h = .ok (x, T', h') := h1
      unfold cLoop at h2
      obtain ⟨y, T1, h1', h3, h4⟩ := res_ok (K := fun x r => Ex.rec (Prod.rec (runCode P F n (.loop u)) r) (fun n => .ok (.exit n, r)) (.ok (.ret, r)) x) h2
      have hr : Code.rounds P u Q (n + 1) a w := by
        refine (ih u T h y T1 h1' h3 ξ G a w _ rp hT hD fun a' w' ⟨G', q1, q2, q3, q4⟩ => ?_).1
        cases y with
        | normal => exact (ih (.loop u) T1 h1' x T' h' h4 ξ G' a' w' Q q1 q2 q3 fun a'' w'' k => hQ a'' w'' (k.trans q4)).2 u rfl
        | exit m =>
          have h5 : (R.ok (.exit m, T1, h1') : R (Ex × Tm × H)) = .ok (x, T', h') := h4
          simp at h5
          obtain ⟨rfl, rfl, rfl⟩ := h5
          exact hQ a' w' ⟨G', q1, q2, q3, q4⟩
        | ret =>
          have h5 : (R.ok (.ret, T1, h1') : R (Ex × Tm × H)) = .ok (x, T', h') := h4
          simp at h5
          obtain ⟨rfl, rfl, rfl⟩ := h5
          exact hQ a' w' ⟨G', q1, q2, q3, q4⟩
      exact ⟨wp_loop_rounds (n + 1) hr, fun b hb => by cases hb; exact hr⟩
    | rangeFunc _ _ _ _ => cases h1
    | goto _ => cases h1
    | _ => cases h1
end
end Go.Ev
namespace Go.Ev
open Go
section
variable {P : Program}
theorem Rep.ds {ξ : Nat → Value} {G : Gh} {h : H} {w : World} (R : Rep P ξ G h w) (d : List (V × List V)) : Rep P ξ G ⟨h.next, h.t, d⟩ w := ⟨R.len, R.lt, R.blk, R.inj⟩
theorem Step.ds {G G' : Gh} {h h' : H} {w w' : World} (s : Step G h w G' h' w') (d d' : List (V × List V)) : Step G ⟨h.next, h.t, d⟩ w G' ⟨h'.next, h'.t, d'⟩ w' := ⟨s.os, s.tape, s.output, s.size, s.keep, s.wr, s.kn, s.pre⟩
theorem repl_get {α : Type} (x : α) : ∀ (n i : Nat), (repl n [x])[i]? = if i < n then some x else none
  | 0, i => by show ([] : List α)[i]? = _; simp
  | n + 1, i => by
    have : repl (n + 1) [x] = x :: repl n [x] := rfl
    rw [this]
    cases i with
    | zero => simp
    | succ i => rw [List.getElem?_cons_succ, repl_get x n i]; simp
theorem repl_len {α : Type} (x : α) : ∀ n : Nat, (repl n [x]).length = n
  | 0 => rfl
  | n + 1 => by
    have : repl (n + 1) [x] = x :: repl n [x] := rfl
    rw [this, List.length_cons, repl_len x n]
theorem rows_get (n t : Nat) : tgetP (rows n) t = if t < n then some (.tup []) else none := by
  have hm : n / 8 * 8 + n % 8 = n := by omega
  have hr : rows n = repl (n / 8) [repl 8 [V.tup []]] ++ [repl (n % 8) [V.tup []]] := rfl
  have ht : t / 8 * 8 + t % 8 = t := by omega
  have ht8 : t % 8 < 8 := Nat.mod_lt _ (by decide)
  unfold tgetP
  rw [hr, List.getElem?_append, repl_len]
  by_cases h1 : t / 8 < n / 8
  · rw [if_pos h1, repl_get, if_pos h1, Option.bind_some, repl_get, if_pos ht8, if_pos (by omega)]
  · rw [if_neg h1, List.getElem?_singleton]
    by_cases h2 : t / 8 - n / 8 = 0
    · rw [if_pos h2, Option.bind_some, repl_get]
      have : t / 8 = n / 8 := by omega
      by_cases h3 : t % 8 < n % 8
      · rw [if_pos h3, if_pos (by omega)]
      · rw [if_neg h3, if_neg (by omega)]
    · rw [if_neg h2, if_neg (by omega)]
      rfl
theorem putArgs_ok {γ : Type} {r : γ} : ∀ {l : List V} {i : Nat} {T : Tm} {K : Tm → R γ}, putArgs l i T K = .ok r →
    ∃ T', K T' = .ok r ∧ (∀ j, tgetP T' j = if i ≤ j ∧ j < i + l.length then l[j - i]? else tgetP T j) ∧ ∀ j, j < l.length → (tgetP T (i + j)).isSome
  | [], i, T, K, h => ⟨T, h, fun j => by rw [if_neg (by simp)], fun j hj => by simp at hj⟩
  | v :: l, i, T, K, h => by
    have h1 : tset T i v (fun T => putArgs l (Nat.succ i) T K) (.no 89) = .ok r := h
    obtain ⟨T1, h2, h3, h4⟩ := tset_ok h1
    obtain ⟨T2, h5, h6, h7⟩ := putArgs_ok h2
    refine ⟨T2, h5, fun j => ?_, fun j hj => ?_⟩
    · rw [h6, h3]
      simp only [List.length_cons]
      by_cases hj : j = i
      · subst hj
        rw [if_neg (by omega), if_pos rfl, if_pos (by omega), Nat.sub_self]
        rfl
      · by_cases hc : Nat.succ i ≤ j ∧ j < Nat.succ i + l.length
        · rw [if_pos hc, if_pos (by omega), show j - i = (j - Nat.succ i) + 1 by omega, List.getElem?_cons_succ]
        · rw [if_neg hc, if_neg hj, if_neg (by omega)]
    · cases j with
      | zero => exact h4
      | succ j =>
        have := h7 j (by simpa using hj)
        rw [h3] at this
        rw [show i + (j + 1) = Nat.succ i + j by omega]
        rwa [if_neg (by omega)] at this
/-- the temporaries of a call that begins -/
theorem args_den {ξ : Nat → Value} {G : Gh} {l : List V} {args : Array Value} {n : Nat} {T' : Tm} (hg : GlobOk P G) (hd : DenL ξ G l args.toList) (h1 : ∀ j, tgetP T' j = if 0 ≤ j ∧ j < 0 + l.length then l[j - 0]? else tgetP (rows n) j) (ds : List Deferred) :
    TDen P ξ G T' { tmps := args ++ Array.replicate (n - args.size) undef, defers := ds } := by
  have hl : args.size = l.length := by have := hd.length; simpa using this
  refine ⟨fun t v hv => ?_, hg⟩
  rw [h1] at hv
  show ∃ x, (args ++ Array.replicate (n - args.size) undef)[t]? = some x ∧ _
  by_cases ht : t < l.length
  · rw [if_pos (by omega), Nat.sub_zero] at hv
    obtain ⟨x, hx, hden⟩ := hd.get hv
    refine ⟨x, ?_, hden⟩
    rw [Array.getElem?_append_left (by omega)]
    simpa using hx
  · rw [if_neg (by omega), rows_get] at hv
    split at hv
    · rename_i hn
      simp at hv
      subst hv
      refine ⟨undef, ?_, den_undef⟩
      rw [Array.getElem?_append_right (by omega), Array.getElem?_replicate, if_pos (by omega)]
    · cases hv
/-- one result -/
def resF (tmps : Array Value) : ResultVar → Sem Value
  | .tmp t => pure (tmps.getD t undef)
  | .cell a t => do loadVar t (← asAddr (tmps.getD a undef))
theorem results_eq (fn : Func) (tmps : Array Value) : results fn tmps = (do
    let vs ← fn.results.mapM (resF tmps)
    pure (if h : vs.size = 1 then vs[0] else .tuple vs)) := by
  have : (fun r => match r with | .tmp t => pure (tmps.getD t undef) | .cell a t => do loadVar t (← asAddr (tmps.getD a undef)) : ResultVar → Sem Value) = resF tmps := by
    funext r; cases r <;> rfl
  rw [← this]
  rfl
theorem resK_ok {γ : Type} {T : Tm} {h : H} {r : γ} : ∀ {rs : List ResultVar} {K : List V → R γ}, resK P rs T h K = .ok r →
    ∃ l, K l = .ok r ∧ ∀ (ξ : Nat → Value) (G : Gh) (a : Act) (w : World), Fits P ξ G h w → TDen P ξ G T a → ∃ vs : List Value, (rs.mapM (resF a.tmps)).run P w = .ok vs w ∧ DenL ξ G l vs
  | [], K, h0 => ⟨[], h0, fun ξ G a w _ _ => ⟨[], rfl, .nil⟩⟩
  | .tmp t :: rs, K, h0 => by
    have h1 : tget T t (fun v => resK P rs T h fun l => K (v :: l)) (.no 98) = .ok r := h0
    obtain ⟨v, hv, h2⟩ := tget_ok h1
    obtain ⟨l, h3, h4⟩ := resK_ok h2
    refine ⟨v :: l, h3, fun ξ G a w hF hT => ?_⟩
    obtain ⟨vs, q1, q2⟩ := h4 ξ G a w hF hT
    obtain ⟨x, hx, hd⟩ := hT.tmp t v hv
    refine ⟨x :: vs, ?_, .cons hd q2⟩
    have e : a.tmps.getD t undef = x := by simp [Array.getD_eq_getD_getElem?, hx]
    simp only [List.mapM_cons, resF, Sem.run_bind, Sem.run_pure, Result.andThen_ok, q1, e]
  | .cell c t :: rs, K, h0 => by
    have h1 : tget T c (fun a => loadK P (.no 98) t a h fun v => resK P rs T h fun l => K (v :: l)) (.no 98) = .ok r := h0
    obtain ⟨u, hu, h2⟩ := tget_ok h1
    obtain ⟨v, b, off, _, h3, h5⟩ := loadK_ok h2
    obtain ⟨l, h3, h4⟩ := resK_ok h3
    refine ⟨v :: l, h3, fun ξ G a w hF hT => ?_⟩
    obtain ⟨vs, q1, q2⟩ := h4 ξ G a w hF hT
    obtain ⟨x, hx, hd⟩ := hT.tmp c u hu
    obtain ⟨ad, z, rfl, hz, hd2⟩ := h5 ξ G w x hF hd
    refine ⟨z :: vs, ?_, .cons hd2 q2⟩
    have e : a.tmps.getD c undef = .pointer (some ad) := by simp [Array.getD_eq_getD_getElem?, hx]
    simp only [List.mapM_cons, resF, Sem.run_bind, Sem.run_pure, Result.andThen_ok, q1, e, asAddr, hz]
theorem results_ok {ξ : Nat → Value} {G : Gh} {fn : Func} {tmps : Array Value} {w : World} {vs : List Value} {l : List V}
    (h : (fn.results.toList.mapM (resF tmps)).run P w = .ok vs w) (hd : DenL ξ G l vs) :
    ∃ x, (results fn tmps).run P w = .ok x w ∧ Den ξ G (oneV l) x := by
  have e : (results fn tmps).run P w = .ok (if h : vs.toArray.size = 1 then vs.toArray[0] else .tuple vs.toArray) w := by
    rw [results_eq, Array.mapM_eq_mapM_toList]
    simp only [Sem.run_bind, map_eq_pure_bind, bind_assoc, pure_bind]
    rw [h]
    rfl
  refine ⟨_, e, ?_⟩
  have hlen := hd.length
  match l, vs, hd with
  | [v], vs, hd =>
    obtain ⟨x, rfl, hx⟩ := den_one hd
    simpa [oneV] using hx
  | [], vs, hd =>
    simp only [DenL] at hd
    subst hd
    simp only [oneV, Den]
    exact ⟨#[], rfl, .nil⟩
  | u :: v :: l, vs, hd =>
    have hne : vs.length ≠ 1 := by rw [hd.length]; simp
    have : (if h : vs.toArray.size = 1 then vs.toArray[0] else Value.tuple vs.toArray) = .tuple vs.toArray := dif_neg (by simpa using hne)
    rw [this]
    simp only [oneV, Den]
    exact ⟨vs.toArray, rfl, by simpa using hd⟩
end
end Go.Ev
namespace Go.Ev
open Go
section
variable {P : Program}
/-- a call that answers: by Calls -/
def Answers (P : Program) (ξ : Nat → Value) (G : Gh) (h : H) (w : World) (v : V) (h' : H) : Ending → World → Prop := fun e w' => ∃ x, e = .returned x ∧ Post P ξ G h w v h' x w'
/-- a function that answers, called -/
def CallOk1 (P : Program) (f : Nat) (k : Hook) : Prop := ∀ (l : List V) (h : H) (v : V) (h' : H), k l h = .ok (v, h') → h'.ds = h.ds ∧
  ∀ (ξ : Nat → Value) (G : Gh) (args : Array Value) (w : World), Rep P ξ G h w → GlobOk P G → DenL ξ G l args.toList → CallW P f args w (Post P ξ G h w v h')
/-- a function that answers, deferred -/
def DefOk1 (P : Program) (f : Nat) (k : Hook) : Prop := ∀ (l : List V) (h : H) (v : V) (h' : H), k l h = .ok (v, h') → h'.ds = h.ds ∧
  ∀ (ξ : Nat → Value) (G : Gh) (args : Array Value) (w : World), Rep P ξ G h w → GlobOk P G → DenL ξ G l args.toList → (callFunc f args).run P w = .ok (.enter f args) w ∧
    CallsD P f args .returning w fun e u' w' => u' = .returning ∧ Answers P ξ G h w v h' e w'
def DefOk (P : Program) (D : CallF) : Prop := ∀ f, DefOk1 P f (D f)
theorem findH_ok {f : Nat} {yes : Hook → R (V × H)} {no : R (V × H)} {r : V × H} : ∀ {l : List (Nat × Hook)}, findH f l yes no = .ok r → (∃ k, (f, k) ∈ l ∧ yes k = .ok r) ∨ no = .ok r
  | [], h => .inr h
  | (g, k) :: l, h => by
    have h1 : cond (Nat.beq f g) (yes k) (findH f l yes no) = .ok r := h
    cases hb : Nat.beq f g with
    | true =>
      rw [hb] at h1
      have : f = g := Nat.eq_of_beq_eq_true hb
      subst this
      exact .inl ⟨k, by simp, h1⟩
    | false =>
      rw [hb] at h1
      rcases findH_ok h1 with ⟨k', h2, h3⟩ | h2
      · exact .inl ⟨k', by simp [h2], h3⟩
      · exact .inr h2
/-- only entered, then -/
def NoCount (P : Program) : Prop := ∀ (f : Nat) (fn : Func), P.funcs[f]? = some fn → fn.body.isSome → (fn.name == "runtime.NumGoroutine") = false
theorem callFunc_run (hN : NoCount P) {f : FuncId} {fn : Func} {c : Code} (hf : P.funcs[f]? = some fn) (hb : fn.body = some c) (args : Array Value) (w : World) : (callFunc f args).run P w = .ok (.enter f args) w := by
  have hn := hN f fn hf (by rw [hb]; rfl)
  simp only [callFunc, Sem.run_bind, run_program, Result.andThen_ok, hf, hn, hb, Option.isNone_some, Bool.false_eq_true, if_false, Sem.run_pure]
theorem callW_of_calls (hN : NoCount P) {f : FuncId} {fn : Func} {c : Code} (hf : P.funcs[f]? = some fn) (hb : fn.body = some c) {args : Array Value} {w : World} {R : Value → World → Prop} (h : Calls P f args w fun e w' => ∃ x, e = .returned x ∧ R x w') : CallW P f args w R := by
  intro o a next Q hn
  rw [callFunc_run hN hf hb, Oper.upon_enter]
  intro cs
  obtain ⟨e, w', fr, ⟨x, rfl, hx⟩, r1, r2, r3⟩ := h cs
  exact ⟨.returned x, w', fr, hn x w' hx, r1, r2, r3⟩
/-- a body's end -/
theorem body_ok {F : CallF} (hF : CallOk P F) (hDr : DrawOk P F) {dk : DefK} {cf f : Nat} {l : List V} {h : H} {v : V} {h' : H} (h0 : callBody P F dk cf f l h = .ok (v, h')) :
    ∃ fn c x T' h1, P.funcs[f]? = some fn ∧ fn.body = some c ∧ (x = Ex.normal ∨ x = .ret) ∧ endK P dk fn h.ds T' h1 = .ok (v, h') ∧
      ∀ (ξ : Nat → Value) (G : Gh) (args : Array Value) (w : World) (Q : Exit → Act → World → Prop), Rep P ξ G h w → GlobOk P G → DenL ξ G l args.toList →
        (∀ a' w', After P ξ G ⟨h.next, h.t, []⟩ w T' h1 a' w' → Q x.exit' a' w') → c.wp P Q { tmps := args ++ Array.replicate (fn.ntmps - args.size) undef, defers := [] } w := by
  unfold callBody at h0
  split at h0
  case h_2 => cases h0
  rename_i fn hf
  split at h0
  case h_2 => cases h0
  rename_i c hb
  obtain ⟨T1, h1, h2, _⟩ := putArgs_ok h0
  cases hr : runCode P F cf c T1 ⟨h.next, h.t, []⟩ with
  | no n => rw [hr] at h1; cases h1
  | ok r =>
    obtain ⟨x, T', h1'⟩ := r
    rw [hr] at h1
    have hg := code_ok hF hDr cf c T1 ⟨h.next, h.t, []⟩ x T' h1' hr
    have hx : (x = Ex.normal ∨ x = .ret) ∧ endK P dk fn h.ds T' h1' = .ok (v, h') := by
      cases x with
      | normal => exact ⟨.inl rfl, h1⟩
      | ret => exact ⟨.inr rfl, h1⟩
      | exit n => cases h1
    refine ⟨fn, c, x, T', h1', hf, hb, hx.1, hx.2, fun ξ G args w Q rp hG hd hQ => ?_⟩
    exact (hg ξ G _ w Q (rp.ds []) (args_den hG hd h2 []) rfl hQ).1
theorem GlobOk.mono {G G' : Gh} (h : GlobOk P G) (hl : Le G G') : GlobOk P G' := fun g hg => let ⟨c, hc⟩ := h g hg; ⟨c, hl.2 _ _ hc⟩
/-- the deferred calls, one by one -/
theorem defers_ok {D : CallF} (hD : DefOk P D) {r : V × H} : ∀ {ds : List (V × List V)} {h : H} {K : H → R (V × H)}, defersK D ds h K = .ok r →
    ∃ h', K h' = .ok r ∧ h'.ds = h.ds ∧ ∀ (ξ : Nat → Value) (G : Gh) (w : World) (dv : List Deferred) (fn : Func) (tmps : Array Value) (Rr : Ending → World → Prop), Rep P ξ G h w → GlobOk P G → DsDen ξ G ds dv →
      (∀ G' w', Rep P ξ G' h' w' → Step G h w G' h' w' → Leaves P fn tmps Rr [] .returning w') → Leaves P fn tmps Rr dv .returning w
  | [], h, K, h0 => ⟨h, h0, rfl, fun ξ G w dv fn tmps Rr rp hG hd hL => by
      have : dv = [] := hd
      subst this
      exact hL G w rp (Step.refl _ _ _)⟩
  | (f, l) :: ds, h, K, h0 => by
    have h1 : callK D f l h (fun _ h => defersK D ds h K) = .ok r := h0
    obtain ⟨v, h1', fn', first, cap, h2, rfl, h3⟩ := callK_ok h1
    obtain ⟨e1, h4⟩ := hD fn' _ h v h1' h3
    obtain ⟨h2', h5, e2, h6⟩ := defers_ok hD h2
    refine ⟨h2', h5, e2.trans e1, fun ξ G w dv fn tmps Rr rp hG hd hL => ?_⟩
    obtain ⟨d, ds', rfl, ⟨fn2, first2, cap2, as2, e3, a, b, c, q1, q2, d1, d2, d3, e4⟩, hd'⟩ := hd
    simp at e3
    obtain ⟨rfl, rfl, rfl⟩ := e3
    subst e4
    have hargs : DenL ξ G (first ++ (l ++ cap)) (((a ++ c).toArray ++ b.toArray) : Array Value).toList := by
      simp only [Array.toList_append, List.append_assoc]
      exact d1.append (d3.append d2)
    obtain ⟨hrun, hcall⟩ := h4 ξ G _ w rp hG hargs
    refine ⟨by simp, .func fn', b.toArray, fn', (a ++ c).toArray ++ b.toArray, q1, ?_, ?_⟩
    · rw [q1, q2]
      show (callFunc fn' ((a ++ c).toArray ++ b.toArray)).run P w = _
      exact hrun
    · refine hcall.mono fun e u' w' ⟨hu, x, he, G', p1, p2, p3⟩ => ?_
      subst hu
      subst he
      show Leaves P fn tmps Rr ds' (settle .returning) w'
      exact h6 ξ G' w' ds' fn tmps Rr p2 (hG.mono p3.le) (hd'.mono p3.le) fun G2 w2 k1 k2 => hL G2 w2 k1 (p3.trans k2)
end
end Go.Ev
namespace Go.Ev
open Go
section
variable {P : Program}
/-- the results, behind all -/
theorem end_ok {T' : Tm} {h2 : H} {ds : List (V × List V)} {fn : Func} {v : V} {h' : H} (h0 : resK P fn.results.toList T' h2 (fun l => (R.ok (oneV l, ⟨h2.next, h2.t, ds⟩) : R (V × H))) = .ok (v, h')) :
    h'.ds = ds ∧ ∀ (ξ : Nat → Value) (G G2 : Gh) (h h1 : H) (w w1 w2 : World) (a : Act), h.ds = ds → TDen P ξ G2 T' a → Rep P ξ G2 h2 w2 → Step G ⟨h.next, h.t, []⟩ w G2 h2 w2 → ∃ x, (results fn a.tmps).run P w2 = .ok x w2 ∧ Post P ξ G h w v h' x w2 := by
  obtain ⟨l, h3, h4⟩ := resK_ok h0
  simp at h3
  obtain ⟨rfl, rfl⟩ := h3
  refine ⟨rfl, fun ξ G G2 h h1 w w1 w2 a hds hT rp hs => ?_⟩
  obtain ⟨vs, q1, q2⟩ := h4 ξ G2 a w2 rp.fits hT
  obtain ⟨x, q3, q4⟩ := results_ok q1 q2
  exact ⟨x, q3, G2, q4, rp.ds _, hs.ds _ _⟩
theorem callBody_ok (hN : NoCount P) {F D : CallF} (hF : CallOk P F) (hDr : DrawOk P F) (hD : DefOk P D) {cf f : Nat} : CallOk1 P f (callBody P F (defersK D) cf f) := by
  intro l h v h' h0
  obtain ⟨fn, c, x, T', h1, hf, hb, hx, he, hgo⟩ := body_ok hF hDr h0
  have he' : defersK D h1.ds ⟨h1.next, h1.t, []⟩ (fun h2 => resK P fn.results.toList T' h2 fun l => (R.ok (oneV l, ⟨h2.next, h2.t, h.ds⟩) : R (V × H))) = .ok (v, h') := he
  obtain ⟨h2, h3, e1, h4⟩ := defers_ok hD he'
  obtain ⟨e2, h5⟩ := end_ok h3
  refine ⟨e2, fun ξ G args w rp hG hd => callW_of_calls hN hf hb (calls_of_wp_defers hf hb (hgo ξ G args w _ rp hG hd fun a' w' ⟨G1, q1, q2, q3, q4⟩ => ?_))⟩
  have key : Leaves P fn a'.tmps (fun e w' => ∃ x, e = Ending.returned x ∧ Post P ξ G h w v h' x w') a'.defers .returning w' := by
    refine h4 ξ G1 w' a'.defers fn a'.tmps _ (q1.ds []) q2.glob q3 fun G2 w2 k1 k2 => ?_
    obtain ⟨y, p1, p2⟩ := h5 ξ G G2 h h1 w w' w2 a' rfl ((q2.mono k2.le)) k1 (q4.trans (k2.ds h1.ds h2.ds) |>.ds [] h2.ds)
    exact ⟨y, p1, y, rfl, p2⟩
  rcases hx with rfl | rfl
  · exact key
  · exact key
theorem callDef_ok (hN : NoCount P) {F : CallF} (hF : CallOk P F) (hDr : DrawOk P F) {cf f : Nat} : DefOk1 P f (callBody P F noDefers cf f) := by
  intro l h v h' h0
  obtain ⟨fn, c, x, T', h1, hf, hb, hx, he, hgo⟩ := body_ok hF hDr h0
  have hds : h1.ds = [] ∧ resK P fn.results.toList T' ⟨h1.next, h1.t, []⟩ (fun l => (R.ok (oneV l, ⟨h1.next, h1.t, h.ds⟩) : R (V × H))) = .ok (v, h') := by
    have he' : noDefers h1.ds ⟨h1.next, h1.t, []⟩ (fun h2 => resK P fn.results.toList T' h2 fun l => (R.ok (oneV l, ⟨h2.next, h2.t, h.ds⟩) : R (V × H))) = .ok (v, h') := he
    cases hq : h1.ds with
    | nil => rw [hq] at he'; exact ⟨rfl, he'⟩
    | cons d ds => rw [hq] at he'; cases he'
  obtain ⟨e2, h5⟩ := end_ok (h2 := ⟨h1.next, h1.t, []⟩) hds.2
  refine ⟨e2, fun ξ G args w rp hG hd => ⟨callFunc_run hN hf hb args w, ?_⟩⟩
  refine callsD_of_wp hf hb (hgo ξ G args w _ rp hG hd fun a' w' ⟨G1, q1, q2, q3, q4⟩ => ?_)
  have hde : a'.defers = [] := by rw [hds.1] at q3; exact q3
  obtain ⟨y, p1, p2⟩ := h5 ξ G G1 h h1 w w' w' a' rfl q2 (q1.ds []) (q4.ds [] [])
  have key : a'.defers = [] ∧ ∃ v', (results fn a'.tmps).run P w' = .ok v' w' ∧ Answers P ξ G h w v h' (.returned v') w' := ⟨hde, y, p1, y, rfl, p2⟩
  rcases hx with rfl | rfl
  · exact key
  · exact key
/-- the interpreter's call -/
theorem run_ok (hN : NoCount P) (hDr : ∀ F, CallOk P F → DrawOk P F) {hooks dhooks : List (Nat × Hook)} (hh : ∀ p ∈ hooks, CallOk1 P p.1 p.2) (hd : ∀ p ∈ dhooks, DefOk1 P p.1 p.2) (cf : Nat) : ∀ fuel, CallOk P (runCall P hooks dhooks cf fuel)
  | 0 => fun f l h v h' h0 => by cases h0
  | n + 1 => fun f l h v h' h0 => by
    have ih := run_ok hN hDr hh hd cf n
    have hD : DefOk P (defF P dhooks (runCall P hooks dhooks cf n) cf) := by
      intro f l h v h' h0
      rcases findH_ok h0 with ⟨k, hk, h1⟩ | h1
      · exact hd _ hk l h v h' h1
      · exact callDef_ok hN ih (hDr _ ih) l h v h' h1
    have h1 : findH f hooks (fun k => k l h) (callBody P (runCall P hooks dhooks cf n) (defersK (defF P dhooks (runCall P hooks dhooks cf n) cf)) cf f l h) = .ok (v, h') := h0
    rcases findH_ok h1 with ⟨k, hk, h2⟩ | h2
    · exact hh _ hk l h v h' h2
    · exact callBody_ok hN ih (hDr _ ih) hD l h v h' h2
end
end Go.Ev
