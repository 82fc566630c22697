/- errors.Is and errors.As at a file system's error (logs.acted, which wraps an api.Errno); logs.failed, logs.errno (chapter 18). -/
import Derived.Test.YtofllhipjaphfaaGreatDoorErrAs2
import Derived.Lib.IfaceEq
namespace Go.Proofs.YtofllhipjaphfaaGreatDoor
open Go Go.Proofs Go.RowKit Go.Ink Go.Extern.Stop Go.Stop Go.Extern

/-! ### errors.Is -/
theorem leTypeOf (v : Value) (w : World) : (Extern.ReflectliteType.typeOf #[.iface 29 v]).run Tryz.prog w = .ok (.iface 160 (.agg #[.pointer (some ⟨7, 29, none⟩)])) w := by kernel_rfl
theorem leComparable (w : World) : (Extern.ReflectliteType.method cmpF #[.agg #[.pointer (some ⟨7, 29, none⟩)]]).run Tryz.prog w = .ok (.bool true) w := by kernel_rfl
theorem leComp : (Tryz.prog.info? 29).map (·.comparable) = some true := by kernel_rfl
theorem laNoIs (v : Value) (xT : TypeId) (w : World) : (Instr.typeAssert (.iface 131 v) xT 172 true).run Tryz.prog w = .ok (.tuple #[.nilIface, .bool false]) w := run_typeAssert_lacksB Tryz.underlying172 (by kernel_rfl) (by kernel_rfl) v xT w
theorem laNoAs (v : Value) (xT : TypeId) (w : World) : (Instr.typeAssert (.iface 131 v) xT 164 true).run Tryz.prog w = .ok (.tuple #[.nilIface, .bool false]) w := run_typeAssert_lacksB Tryz.underlying164 (by kernel_rfl) (by kernel_rfl) v xT w
theorem laUnwrap (v : Value) (xT : TypeId) (w : World) : (Instr.typeAssert (.iface 131 v) xT 167 true).run Tryz.prog w = .ok (.tuple #[.iface 131 v, .bool true]) w := run_typeAssert_hasB Tryz.underlying167 (by kernel_rfl) v xT w
theorem leNoIs (v : Value) (xT : TypeId) (w : World) : (Instr.typeAssert (.iface 29 v) xT 172 true).run Tryz.prog w = .ok (.tuple #[.nilIface, .bool false]) w := run_typeAssert_lacksB Tryz.underlying172 (by kernel_rfl) (by kernel_rfl) v xT w
theorem leNoUnwrap (v : Value) (xT : TypeId) (w : World) : (Instr.typeAssert (.iface 29 v) xT 167 true).run Tryz.prog w = .ok (.tuple #[.nilIface, .bool false]) w := run_typeAssert_lacksB Tryz.underlying167 (by kernel_rfl) (by kernel_rfl) v xT w
theorem leNoUnwraps (v : Value) (xT : TypeId) (w : World) : (Instr.typeAssert (.iface 29 v) xT 169 true).run Tryz.prog w = .ok (.tuple #[.nilIface, .bool false]) w := run_typeAssert_lacksB Tryz.underlying169 (by kernel_rfl) (by kernel_rfl) v xT w
theorem laMethodUnwrap (n : Nat) (v : Value) (w : World) : (Go.method (n + 1) 131 v "Unwrap").run Tryz.prog w = .ok (173, v) w := by kernel_rfl

set_option maxRecDepth 100000 in
set_option maxHeartbeats 1000000 in
theorem isActed_any (s : Value) (a b : Int) (w : World) :
    Calls Tryz.prog 52 #[.iface 131 (.agg #[s, .int .i64 a]), .iface 29 (.int .i64 b)] w fun e w' => e = .returned (.bool (decide (a = b))) ∧ Below w.heap.size w w' := by
  have h8 := @run_callFunc_extern Tryz.prog 76 _ Extern.ReflectliteType.typeOf Tryz.func76 (by kernel_rfl) (by kernel_rfl) (by kernel_rfl) (by kernel_rfl)
  have h32 := @run_callFunc_extern Tryz.prog 176 _ (Extern.ReflectliteType.method cmpF) Tryz.func176 (by kernel_rfl) (by kernel_rfl) (by kernel_rfl) (by kernel_rfl)
  have tT := leTypeOf
  have cT := leComparable
  have mR := isMethodComparable 356
  have nI := laNoIs
  have uI := laUnwrap
  have mU := laMethodUnwrap 356
  have nE := leNoIs
  have uE := leNoUnwrap
  have vE := leNoUnwraps
  have hty := run_eql_iface_types (P := Tryz.prog) 131 29 (.agg #[s, .int .i64 a]) (.int .i64 b) Tryz.underlying57 (by decide)
  have heq := fun w => Lib.run_eql_iface_int (P := Tryz.prog) w (k := .i64) a b Tryz.underlying57 leComp Tryz.underlying29
  by_cases hab : a = b
  · have e1 : (a == b) = true := by simpa using hab
    rw [decide_eq_true hab]
    simp only [e1] at heq
    clear hab e1
    go_enter Tryz.func52, Tryz.ntmps52
    go_wp2
    refine wp_loop_rounds 2 ?_
    rw [rounds_succ]
    go_wp2
    rw [rounds_succ]
    go_wp2
    go_ret
    exact ⟨rfl, (Below.refl _ _).alloc (Nat.le_refl _) _⟩
  · have e1 : (a == b) = false := by simpa using hab
    rw [decide_eq_false hab]
    simp only [e1] at heq
    clear hab e1
    go_enter Tryz.func52, Tryz.ntmps52
    go_wp2
    refine wp_loop_rounds 2 ?_
    rw [rounds_succ]
    go_wp2
    rw [rounds_succ]
    go_wp2
    go_ret
    exact ⟨rfl, (Below.refl _ _).alloc (Nat.le_refl _) _⟩

/-! ### errors.As at a target of type *api.Errno -/
theorem lnValueOfT (t : Addr) (w : World) : (ReflectliteValue.unpack (.iface 95 (.pointer (some t)))).run Tryz.prog w
    = .ok (.agg #[.pointer (some ⟨7, 95, none⟩), .pointer (some ⟨w.heap.size, 0, none⟩), .int .u64 150]) (w.alloc (.cells #[.pointer (some t)] 95)) := by kernel_rfl
theorem lnType (a : Addr) (w : World) : (ReflectliteValue.methodAny (ReflectliteValue.valueError "reflectlite.Value.Type" 0) (fun t _ _ _ => ReflectliteType.toType t) #[.agg #[.pointer (some ⟨7, 95, none⟩), .pointer (some a), .int .u64 150]]).run Tryz.prog w
    = .ok (.iface 160 (.agg #[.pointer (some ⟨7, 95, none⟩)])) w := by kernel_rfl
theorem lnKindT (w : World) : ((ReflectliteType.abiMethod fun t => (fun a : Nat => Value.int IntKind.u8 (a : Int)) <$> Rtype.kind t) #[.pointer (some ⟨7, 95, none⟩)]).run Tryz.prog w = .ok (.int .u8 22) w := by kernel_rfl
theorem lnKindE (w : World) : ((ReflectliteType.abiMethod fun t => (fun a : Nat => Value.int IntKind.u8 (a : Int)) <$> Rtype.kind t) #[.pointer (some ⟨7, 29, none⟩)]).run Tryz.prog w = .ok (.int .u8 2) w := by kernel_rfl
theorem lnPartsT (a : Addr) (w : World) : (ReflectliteValue.parts (.agg #[.pointer (some ⟨7, 95, none⟩), .pointer (some a), .int .u64 150])).run Tryz.prog w = .ok (some (95, a, 150)) w := by kernel_rfl
theorem lnIsNil (a p : Addr) (W : World) (ha : W.cell? a = some (.pointer (some p))) :
    (ReflectliteValue.method (ReflectliteValue.valueError "reflectlite.Value.IsNil" 0) ReflectliteValue.isNil #[.agg #[.pointer (some ⟨7, 95, none⟩), .pointer (some a), .int .u64 150]]).run Tryz.prog W = .ok (.bool false) W := by
  rw [rlm]
  simp only [Sem.run_bind, lnPartsT, Result.andThen]
  simp [ReflectliteValue.isNil, loadVar, isAgg, underlying, Tryz.underlying95, ha, Result.andThen]
theorem lnElemT (w : World) : (ReflectliteType.method ReflectliteType.elem #[.agg #[.pointer (some ⟨7, 95, none⟩)]]).run Tryz.prog w = .ok (.iface 160 (.agg #[.pointer (some ⟨7, 29, none⟩)])) w := by kernel_rfl
theorem lnImplements (w : World) : (ReflectliteType.relation "Implements" ReflectliteType.implements_ #[.agg #[.pointer (some ⟨7, 29, none⟩)], .iface 160 (.agg #[.pointer (some ⟨7, 57, none⟩)])]).run Tryz.prog w = .ok (.bool true) w := by kernel_rfl
theorem lnTypeOfA (v : Value) (w : World) : (ReflectliteType.typeOf #[.iface 131 v]).run Tryz.prog w = .ok (.iface 160 (.agg #[.pointer (some ⟨7, 131, none⟩)])) w := by kernel_rfl
theorem lnAssignA (w : World) : (ReflectliteType.relation "AssignableTo" ReflectliteType.assignableTo #[.agg #[.pointer (some ⟨7, 131, none⟩)], .iface 160 (.agg #[.pointer (some ⟨7, 29, none⟩)])]).run Tryz.prog w = .ok (.bool false) w := by kernel_rfl
theorem lnAssignE (w : World) : (ReflectliteType.relation "AssignableTo" ReflectliteType.assignableTo #[.agg #[.pointer (some ⟨7, 29, none⟩)], .iface 160 (.agg #[.pointer (some ⟨7, 29, none⟩)])]).run Tryz.prog w = .ok (.bool true) w := by kernel_rfl
theorem lnValueOfE (n : Int) (w : World) : (ReflectliteValue.unpack (.iface 29 (.int .i64 n))).run Tryz.prog w
    = .ok (.agg #[.pointer (some ⟨7, 29, none⟩), .pointer (some ⟨w.heap.size, 0, none⟩), .int .u64 130]) (w.alloc (.cells #[.int .i64 n] 29)) := by kernel_rfl
theorem lnElemOf (w : World) : (Rtype.elem? 95).run Tryz.prog w = .ok (some 29) w := by kernel_rfl
theorem lnMk (p : Addr) (w : World) : (ReflectliteValue.mk 29 p ReflectliteValue.flagAddr).run Tryz.prog w = .ok (.agg #[.pointer (some ⟨7, 29, none⟩), .pointer (some p), .int .u64 386]) w := by kernel_rfl
theorem lnElemV (a p : Addr) (W : World) (ha : W.cell? a = some (.pointer (some p))) :
    (ReflectliteValue.method (ReflectliteValue.valueError "reflectlite.Value.Elem" 0) ReflectliteValue.elem #[.agg #[.pointer (some ⟨7, 95, none⟩), .pointer (some a), .int .u64 150]]).run Tryz.prog W
      = .ok (.agg #[.pointer (some ⟨7, 29, none⟩), .pointer (some p), .int .u64 386]) W := by
  rw [rlm]
  simp only [Sem.run_bind, lnPartsT, Result.andThen]
  simp [ReflectliteValue.elem, loadVar, isAgg, underlying, Tryz.underlying95, ha, Result.andThen, lnElemOf, lnMk]
theorem lnPartsA (a : Addr) (w : World) : (ReflectliteValue.parts (.agg #[.pointer (some ⟨7, 29, none⟩), .pointer (some a), .int .u64 386])).run Tryz.prog w = .ok (some (29, a, 386)) w := by kernel_rfl
theorem lnPartsE (a : Addr) (w : World) : (ReflectliteValue.parts (.agg #[.pointer (some ⟨7, 29, none⟩), .pointer (some a), .int .u64 130])).run Tryz.prog w = .ok (some (29, a, 130)) w := by kernel_rfl
theorem lnDirect (w : World) : (Rtype.directlyAssignable 29 29).run Tryz.prog w = .ok true w := by kernel_rfl
theorem lnSet (ta b : Addr) (n : Int) (old : Value) (W : World) (hb : W.cell? b = some (.int .i64 n)) (ht : W.cell? ta = some old) (hf : W.frozen? ta = false) :
    (ReflectliteValue.set #[.agg #[.pointer (some ⟨7, 29, none⟩), .pointer (some ta), .int .u64 386], .agg #[.pointer (some ⟨7, 29, none⟩), .pointer (some b), .int .u64 130]]).run Tryz.prog W
      = .ok (.tuple #[]) (W.setCell ta (.int .i64 n)) := by
  rw [rls]
  simp only [Sem.run_bind, lnPartsA, lnPartsE, Result.andThen]
  simp [ReflectliteValue.flagAddr, loadVar, isAgg, underlying, Tryz.underlying29, hb, Result.andThen, lnDirect, storeVar, Value.cells, storeCells, Addr.add]
  rw [run_store Tryz.prog W ta _ _ (by rfl)]
  simp [ht, hf]

def lnV (a : Addr) : Value := .agg #[.pointer (some ⟨7, 95, none⟩), .pointer (some a), .int .u64 150]
def lnT : Value := .iface 160 (.agg #[.pointer (some ⟨7, 29, none⟩)])

set_option maxRecDepth 100000 in
set_option maxHeartbeats 4000000 in
theorem lnIn_hit (s : Value) (n : Int) (t a : Addr) (old : Value) (w : World) (hta : t.block < a.block) (ha : w.cell? a = some (.pointer (some t))) (ht0 : w.cell? t = some old) (hf0 : w.frozen? t = false) :
    Calls Tryz.prog 75 #[.iface 131 (.agg #[s, .int .i64 n]), .iface 95 (.pointer (some t)), lnV a, lnT] w fun ev w' => ev = .returned (.bool true) ∧ Below t.block w w' ∧ w'.cell? t = some (.int .i64 n) := by
  unfold lnV lnT
  have h6 := @run_callFunc_extern Tryz.prog 72 _ (fun args => ReflectliteValue.unpack (args.getD 0 (.tuple #[]))) Tryz.func72 (by kernel_rfl) (by kernel_rfl) (by kernel_rfl) (by kernel_rfl)
  have h10 := @run_callFunc_extern Tryz.prog 76 _ ReflectliteType.typeOf Tryz.func76 (by kernel_rfl) (by kernel_rfl) (by kernel_rfl) (by kernel_rfl)
  have h35 := @run_callFunc_extern Tryz.prog 175 _ (ReflectliteType.relation "AssignableTo" ReflectliteType.assignableTo) Tryz.func175 (by kernel_rfl) (by kernel_rfl) (by kernel_rfl) (by kernel_rfl)
  have h11 := @run_callFunc_extern Tryz.prog 98 _ (ReflectliteValue.method (ReflectliteValue.valueError "reflectlite.Value.Elem" 0) ReflectliteValue.elem) Tryz.func98 (by kernel_rfl) (by kernel_rfl) (by kernel_rfl) (by kernel_rfl)
  have h12 := @run_callFunc_extern Tryz.prog 99 _ ReflectliteValue.set Tryz.func99 (by kernel_rfl) (by kernel_rfl) (by kernel_rfl) (by kernel_rfl)
  have tA := lnTypeOfA
  have tO := leTypeOf
  have mA := asMethodAssignableTo 356
  have aA := lnAssignA
  have a25 := lnAssignE
  have nA := laNoAs
  have uA := laUnwrap
  have mU := laMethodUnwrap 356
  have v25 := lnValueOfE
  have hal : a.block < w.heap.size := by
    rcases Nat.lt_or_ge a.block w.heap.size with h | h
    · exact h
    · simp [World.cell?, Array.getElem?_eq_none h] at ha
  have htl : t.block < w.heap.size := by omega
  have el := lnElemV a t ((w.alloc (.cells #[.pointer (some ⟨7, 95, none⟩), .pointer (some a), .int .u64 150] 121)).alloc (.cells #[s, .int .i64 n] 131)) (by rw [World.cell?_alloc_lt _ _ a (by simp; omega), World.cell?_alloc_lt _ _ a hal]; exact ha)
  have ht3 : (((w.alloc (.cells #[.pointer (some ⟨7, 95, none⟩), .pointer (some a), .int .u64 150] 121)).alloc (.cells #[s, .int .i64 n] 131)).alloc (.cells #[.int .i64 n] 29)).cell? t = some old := by
    rw [World.cell?_alloc_lt _ _ t (by simp; omega), World.cell?_alloc_lt _ _ t (by simp; omega), World.cell?_alloc_lt _ _ t htl]; exact ht0
  have st := lnSet t ⟨w.heap.size + 2, 0, none⟩ n old (((w.alloc (.cells #[.pointer (some ⟨7, 95, none⟩), .pointer (some a), .int .u64 150] 121)).alloc (.cells #[s, .int .i64 n] 131)).alloc (.cells #[.int .i64 n] 29))
    (by rw [World.cell?_alloc_at _ _ _ _ (by simp)]; rfl) ht3
    (by rw [World.frozen?_alloc_old _ _ t (by simp; omega), World.frozen?_alloc_old _ _ t (by simp; omega), World.frozen?_alloc_old _ _ t (Nat.ne_of_lt htl)]; exact hf0)
  have HC := Lib.hid (show ((((w.alloc (.cells #[.pointer (some ⟨7, 95, none⟩), .pointer (some a), .int .u64 150] 121)).alloc (.cells #[s, .int .i64 n] 131)).alloc (.cells #[.int .i64 n] 29)).setCell t (.int .i64 n)).cell? t = some (.int .i64 n) from World.cell?_setCell_same _ _ _ ht3)
  have HB := Lib.hid (show Below t.block w ((((w.alloc (.cells #[.pointer (some ⟨7, 95, none⟩), .pointer (some a), .int .u64 150] 121)).alloc (.cells #[s, .int .i64 n] 131)).alloc (.cells #[.int .i64 n] 29)).setCell t (.int .i64 n)) from ((((Below.refl _ _).alloc (by omega) _).alloc (by simp; omega) _).alloc (by simp; omega) _).setCell (Nat.le_refl _) _)
  clear ht3
  go_enter Tryz.func75, Tryz.ntmps75
  go_wp2
  refine wp_loop_rounds 2 ?_
  rw [rounds_succ]
  go_wp2
  rw [rounds_succ]
  go_wp2
  go_ret
  exact ⟨rfl, HB.out, HC.out⟩
end Go.Proofs.YtofllhipjaphfaaGreatDoor
