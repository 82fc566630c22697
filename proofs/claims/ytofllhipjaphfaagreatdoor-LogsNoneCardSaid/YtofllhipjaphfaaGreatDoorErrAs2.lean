/- errors.As at a *missing and at a join whose first error is one; frames.none. -/
import Derived.Test.YtofllhipjaphfaaGreatDoorErrJoin
import Derived.Test.YtofllhipjaphfaaGreatDoorErrIs
namespace Go.Proofs.YtofllhipjaphfaaGreatDoor
open Go Go.Proofs Go.RowKit Go.Ink Go.Extern.Stop Go.Stop Go.Extern

/-- The variable of package errors that errors.As reads. -/
def EType (w : World) : Prop := w.cell? ⟨0, 0, none⟩ = some (.iface 160 (.agg #[.pointer (some ⟨7, 57, none⟩)]))
theorem EType.later {w w' : World} (h : EType w) (hb : Below w.heap.size w w') : EType w' := (hb.cell (p := ⟨_, 0, none⟩) (lt_of_cell h)).trans h

theorem jNoAs (v : Value) (xT : TypeId) (w : World) : (Instr.typeAssert (.iface 190 v) xT 164 true).run Tryz.prog w = .ok (.tuple #[.nilIface, .bool false]) w := run_typeAssert_lacksB Tryz.underlying164 (by kernel_rfl) (by kernel_rfl) v xT w
theorem jNoUnwrap (v : Value) (xT : TypeId) (w : World) : (Instr.typeAssert (.iface 190 v) xT 167 true).run Tryz.prog w = .ok (.tuple #[.nilIface, .bool false]) w := run_typeAssert_lacksB Tryz.underlying167 (by kernel_rfl) (by kernel_rfl) v xT w
theorem jHasUnwraps (v : Value) (xT : TypeId) (w : World) : (Instr.typeAssert (.iface 190 v) xT 169 true).run Tryz.prog w = .ok (.tuple #[.iface 190 v, .bool true]) w := run_typeAssert_hasB Tryz.underlying169 (by kernel_rfl) v xT w
theorem jMethodUnwrap (n : Nat) (v : Value) (w : World) : (Go.method (n + 1) 190 v "Unwrap").run Tryz.prog w = .ok (187, v) w := by kernel_rfl

set_option maxHeartbeats 4000000 in
theorem asIn_join (q g n cap : Nat) (e t a : Addr) (old : Value) (w : World) (hq : w.cell? ⟨q, 0, none⟩ = some (.slice (some ⟨g, 0, none⟩) (n + 1) cap)) (hn : n + 1 ≤ 2) (hg : w.cell? ⟨g, 0, none⟩ = some (.iface 178 (.pointer (some e))))
    (hta : t.block < a.block) (ha : w.cell? a = some (.pointer (some t))) (ht0 : w.cell? t = some old) (hf0 : w.frozen? t = false) :
    Calls Tryz.prog 75 #[.iface 190 (.pointer (some ⟨q, 0, none⟩)), .iface 179 (.pointer (some t)), asV a, asT] w fun ev w' => ev = .returned (.bool true) ∧ Below t.block w w' := by
  have HH := Lib.hid (asIn_hit e t a old)
  unfold asV asT at HH ⊢
  have h10 := @run_callFunc_extern Tryz.prog 76 _ ReflectliteType.typeOf Tryz.func76 (by kernel_rfl) (by kernel_rfl) (by kernel_rfl) (by kernel_rfl)
  have h35 := @run_callFunc_extern Tryz.prog 175 _ (ReflectliteType.relation "AssignableTo" ReflectliteType.assignableTo) Tryz.func175 (by kernel_rfl) (by kernel_rfl) (by kernel_rfl) (by kernel_rfl)
  have tO := asTypeOfJ
  have mA := asMethodAssignableTo 356
  have aJ := asAssignJ
  have nA := jNoAs
  have nU := jNoUnwrap
  have hU := jHasUnwraps
  have mU := jMethodUnwrap 356
  have hal : a.block < w.heap.size := by
    rcases Nat.lt_or_ge a.block w.heap.size with h | h
    · exact h
    · simp [World.cell?, Array.getElem?_eq_none h] at ha
  have hb0 : Below w.heap.size w (w.alloc (.cells #[.pointer (some ⟨7, 179, none⟩), .pointer (some a), .int .u64 150] 121)) := (Below.refl _ _).alloc (Nat.le_refl _) _
  have hlq := lt_of_cell hq
  have hlg := lt_of_cell hg
  have htl : t.block < w.heap.size := by omega
  have HA := Lib.hid ((hb0.cell hal).trans ha)
  have HT := Lib.hid ((hb0.cell htl).trans ht0)
  have HF := Lib.hid ((hb0.frozen htl).trans hf0)
  have HB0 := Lib.hid (hb0.mono (show t.block ≤ w.heap.size by omega))
  clear ha ht0 hf0 hb0
  go_enter Tryz.func75, Tryz.ntmps75
  go_wp2
  refine wp_loop_rounds 1 ?_
  rw [rounds_succ]
  go_wp2
  refine wp_loop_rounds 1 ?_
  rw [rounds_succ]
  go_wp2_with fail
  refine (HH.out _ hta HA.out HT.out HF.out).mono ?_
  rintro e w2 ⟨rfl, hb⟩
  go_wp2_with fail
  go_ret
  exact ⟨rfl, HB0.out.trans hb⟩

/-- errors.As at whatever error of these: what errors.as answers. -/
theorem as_any (v : Value) (X : TypeId) (p : Addr) (hv : v = .iface X (.pointer (some p))) (t : Addr) (w : World) (hE : EType w) (ht : w.cell? t = some (.pointer none)) (hf : w.frozen? t = false)
    (hin : ∀ (a : Addr) (W : World), Below w.heap.size w W → t.block < a.block → W.cell? a = some (.pointer (some t)) → Calls Tryz.prog 75 #[v, .iface 179 (.pointer (some t)), asV a, asT] W fun ev w' => ev = .returned (.bool true) ∧ Below t.block W w') :
    Calls Tryz.prog 50 #[v, .iface 179 (.pointer (some t))] w fun ev w' => ev = .returned (.bool true) ∧ Below t.block w w' := by
  subst hv
  unfold EType at hE
  have htl : t.block < w.heap.size := lt_of_cell (b := t.block) (o := t.off) (u := .pointer none) (by
    obtain ⟨tb, to, ts⟩ := t
    have hs : ts = none := World.cell?_spot ht
    subst hs; exact ht)
  have HIN := Lib.hid (hin ⟨w.heap.size, 0, none⟩ ((w.alloc (.cells #[.pointer (some t)] 179)).alloc (.cells #[.pointer (some ⟨7, 179, none⟩), .pointer (some ⟨w.heap.size, 0, none⟩), .int .u64 150] 121))
    (((Below.refl _ _).alloc (Nat.le_refl _) _).alloc (by simp) _) htl (by simp))
  have HB := Lib.hid (show Below t.block w ((w.alloc (.cells #[.pointer (some t)] 179)).alloc (.cells #[.pointer (some ⟨7, 179, none⟩), .pointer (some ⟨w.heap.size, 0, none⟩), .int .u64 150] 121)) from ((Below.refl _ _).alloc (by omega) _).alloc (by simp; omega) _)
  unfold asV asT at HIN
  clear hin
  have h6 := @run_callFunc_extern Tryz.prog 72 _ (fun args => ReflectliteValue.unpack (args.getD 0 (.tuple #[]))) Tryz.func72 (by kernel_rfl) (by kernel_rfl) (by kernel_rfl) (by kernel_rfl)
  have h7 := @run_callFunc_extern Tryz.prog 73 _ (ReflectliteValue.methodAny (ReflectliteValue.valueError "reflectlite.Value.Type" 0) (fun t _ _ _ => ReflectliteType.toType t)) Tryz.func73 (by kernel_rfl) (by kernel_rfl) (by kernel_rfl) (by kernel_rfl)
  have h8 := @run_callFunc_extern Tryz.prog 74 _ (ReflectliteValue.method (ReflectliteValue.valueError "reflectlite.Value.IsNil" 0) ReflectliteValue.isNil) Tryz.func74 (by kernel_rfl) (by kernel_rfl) (by kernel_rfl) (by kernel_rfl)
  have h27 := @run_callFunc_extern Tryz.prog 164 _ (ReflectliteType.abiMethod fun t => do pure (.int .u8 (← Rtype.kind t))) Tryz.func164 (by kernel_rfl) (by kernel_rfl) (by kernel_rfl) (by kernel_rfl)
  have h37 := @run_callFunc_extern Tryz.prog 177 _ (ReflectliteType.method ReflectliteType.elem) Tryz.func177 (by kernel_rfl) (by kernel_rfl) (by kernel_rfl) (by kernel_rfl)
  have h38 := @run_callFunc_extern Tryz.prog 178 _ (ReflectliteType.relation "Implements" ReflectliteType.implements_) Tryz.func178 (by kernel_rfl) (by kernel_rfl) (by kernel_rfl) (by kernel_rfl)
  have f6 := asValueOfT
  have f7 := asType
  have mK := asMethodKind 356
  have mE := asMethodElem 356
  have mI := asMethodImplements 356
  have k27 := asKindT
  have k25 := asKindE
  have e27 := asElemT
  have i25 := asImplements
  have n8 := asIsNil ⟨w.heap.size, 0, none⟩ t ((w.alloc (.cells #[.pointer (some t)] 179)).alloc (.cells #[.pointer (some ⟨7, 179, none⟩), .pointer (some ⟨w.heap.size, 0, none⟩), .int .u64 150] 121)) (by simp)
  have hlt : 0 < w.heap.size := lt_of_cell hE
  have hg2 : ((w.alloc (.cells #[.pointer (some t)] 179)).alloc (.cells #[.pointer (some ⟨7, 179, none⟩), .pointer (some ⟨w.heap.size, 0, none⟩), .int .u64 150] 121)).cell? ⟨0, 0, none⟩ = some (.iface 160 (.agg #[.pointer (some ⟨7, 57, none⟩)])) := by
    rw [World.cell?_alloc_lt _ _ ⟨0, 0, none⟩ (by simp), World.cell?_alloc_lt _ _ ⟨0, 0, none⟩ hlt]; exact hE
  go_enter Tryz.func50, Tryz.ntmps50
  go_wp2_with (go_at_call 75; refine HIN.out.mono ?_; rintro e w' ⟨rfl, hb⟩)
  go_ret
  exact ⟨rfl, HB.out.trans hb⟩
theorem as_err (v : Value) (t : Addr) (w : World) (hE : EType w) (hv : ErrV w v) (ht : w.cell? t = some (.pointer none)) (hf : w.frozen? t = false) :
    Calls Tryz.prog 50 #[v, .iface 179 (.pointer (some t))] w fun ev w' => ev = .returned (.bool true) ∧ Below t.block w w' := by
  have htl : t.block < w.heap.size := by
    rcases Nat.lt_or_ge t.block w.heap.size with h | h
    · exact h
    · simp [World.cell?, Array.getElem?_eq_none h] at ht
  rcases hv with ⟨a, rfl⟩ | ⟨q, g, n, cap, e, rfl, hq, hn, hg⟩
  · exact as_any _ _ a rfl t w hE ht hf fun b W hb hlt hc => asIn_hit a t b (.pointer none) W hlt hc ((hb.cell htl).trans ht) ((hb.frozen htl).trans hf)
  · exact as_any _ _ _ rfl t w hE ht hf fun b W hb hlt hc => asIn_join q g n cap e t b (.pointer none) W ((hb.cell (p := ⟨q, 0, none⟩) (lt_of_cell hq)).trans hq) hn ((hb.cell (p := ⟨g, 0, none⟩) (lt_of_cell hg)).trans hg) hlt hc ((hb.cell htl).trans ht) ((hb.frozen htl).trans hf)
theorem is_nilErrno (n : Int) (w : World) :
    Calls Tryz.prog 52 #[.nilIface, .iface 29 (.int .i64 n)] w fun e w' => e = .returned (.bool false) ∧ w' = w := by
  have hn := run_eql_iface_nil_left (P := Tryz.prog) w 29 (.int .i64 n) Tryz.underlying57
  go_enter Tryz.func52, Tryz.ntmps52
  go_wp2
  go_ret
  exact ⟨rfl, rfl⟩
theorem none_nil (w : World) : Calls Tryz.prog 81 #[.nilIface] w fun e w' => e = .returned (.bool false) ∧ Below w.heap.size w w' := by
  go_enter Tryz.func81, Tryz.ntmps81
  go_wp2_with fail
  refine (as_nil _ _).mono ?_
  rintro e w1 ⟨rfl, rfl⟩
  go_wp2_with fail
  refine (is_nilErrno _ _).mono ?_
  rintro e w1 ⟨rfl, rfl⟩
  go_wp2_with fail
  go_returns
  exact ⟨rfl, (Below.refl _ _).alloc (Nat.le_refl _) _⟩
theorem none_err (v : Value) (w : World) (hE : EType w) (hv : ErrV w v) : Calls Tryz.prog 81 #[v] w fun e w' => e = .returned (.bool true) ∧ Below w.heap.size w w' := by
  have hb := (Below.refl w.heap.size w).alloc (Nat.le_refl _) (.cells #[.pointer none] 178)
  have hv' : ErrV (w.alloc (.cells #[.pointer none] 178)) v := by
    rcases hv with h | ⟨q, g, n, cap, e, rfl, hq, hn, hg⟩
    · exact .inl h
    · exact .inr ⟨q, g, n, cap, e, rfl, (hb.cell (p := ⟨q, 0, none⟩) (lt_of_cell hq)).trans hq, hn, (hb.cell (p := ⟨g, 0, none⟩) (lt_of_cell hg)).trans hg⟩
  have HC := Lib.hid (as_err v ⟨w.heap.size, 0, none⟩ _ (hE.later hb) hv' (by simp) (by simp))
  have HB := Lib.hid hb
  clear hv hv' hE hb
  go_enter Tryz.func81, Tryz.ntmps81
  go_wp2_with fail
  refine HC.out.mono ?_
  rintro e w1 ⟨rfl, hb1⟩
  go_wp2_with fail
  go_returns
  exact ⟨rfl, HB.out.trans hb1⟩
end Go.Proofs.YtofllhipjaphfaaGreatDoor
