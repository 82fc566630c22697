/- errors.As at a file system's error, whole; logs.failed, logs.errno (chapter 18). -/
import Derived.Test.YtofllhipjaphfaaGreatDoorLg1
namespace Go.Proofs.YtofllhipjaphfaaGreatDoor
open Go Go.Proofs Go.RowKit Go.Ink Go.Extern.Stop Go.Stop Go.Extern

set_option maxRecDepth 100000 in
set_option maxHeartbeats 4000000 in
theorem asActed_any (s : Value) (n : Int) (t : Addr) (w : World) (hE : EType w) (ht : w.cell? t = some (.int .i64 0)) (hf : w.frozen? t = false) :
    Calls Tryz.prog 50 #[.iface 131 (.agg #[s, .int .i64 n]), .iface 95 (.pointer (some t))] w fun ev w' => ev = .returned (.bool true) ∧ Below t.block w w' ∧ w'.cell? t = some (.int .i64 n) := by
  unfold EType at hE
  have htl : t.block < w.heap.size := by
    rcases Nat.lt_or_ge t.block w.heap.size with h | h
    · exact h
    · simp [World.cell?, Array.getElem?_eq_none h] at ht
  have hb2 : Below w.heap.size w ((w.alloc (.cells #[.pointer (some t)] 95)).alloc (.cells #[.pointer (some ⟨7, 95, none⟩), .pointer (some ⟨w.heap.size, 0, none⟩), .int .u64 150] 121)) := ((Below.refl _ _).alloc (Nat.le_refl _) _).alloc (by simp) _
  have HIN := Lib.hid (lnIn_hit s n t ⟨w.heap.size, 0, none⟩ (.int .i64 0) ((w.alloc (.cells #[.pointer (some t)] 95)).alloc (.cells #[.pointer (some ⟨7, 95, none⟩), .pointer (some ⟨w.heap.size, 0, none⟩), .int .u64 150] 121))
    htl (by simp) ((hb2.cell htl).trans ht) ((hb2.frozen htl).trans hf))
  have HB := Lib.hid (hb2.mono (Nat.le_of_lt htl))
  unfold lnV lnT at HIN
  have h6 := @run_callFunc_extern Tryz.prog 72 _ (fun args => ReflectliteValue.unpack (args.getD 0 (.tuple #[]))) Tryz.func72 (by kernel_rfl) (by kernel_rfl) (by kernel_rfl) (by kernel_rfl)
  have h7 := @run_callFunc_extern Tryz.prog 73 _ (ReflectliteValue.methodAny (ReflectliteValue.valueError "reflectlite.Value.Type" 0) (fun t _ _ _ => ReflectliteType.toType t)) Tryz.func73 (by kernel_rfl) (by kernel_rfl) (by kernel_rfl) (by kernel_rfl)
  have h8 := @run_callFunc_extern Tryz.prog 74 _ (ReflectliteValue.method (ReflectliteValue.valueError "reflectlite.Value.IsNil" 0) ReflectliteValue.isNil) Tryz.func74 (by kernel_rfl) (by kernel_rfl) (by kernel_rfl) (by kernel_rfl)
  have h27 := @run_callFunc_extern Tryz.prog 164 _ (ReflectliteType.abiMethod fun t => do pure (.int .u8 (← Rtype.kind t))) Tryz.func164 (by kernel_rfl) (by kernel_rfl) (by kernel_rfl) (by kernel_rfl)
  have h37 := @run_callFunc_extern Tryz.prog 177 _ (ReflectliteType.method ReflectliteType.elem) Tryz.func177 (by kernel_rfl) (by kernel_rfl) (by kernel_rfl) (by kernel_rfl)
  have h38 := @run_callFunc_extern Tryz.prog 178 _ (ReflectliteType.relation "Implements" ReflectliteType.implements_) Tryz.func178 (by kernel_rfl) (by kernel_rfl) (by kernel_rfl) (by kernel_rfl)
  have f6 := lnValueOfT
  have f7 := lnType
  have mK := asMethodKind 356
  have mE := asMethodElem 356
  have mI := asMethodImplements 356
  have k27 := lnKindT
  have k25 := lnKindE
  have e27 := lnElemT
  have i25 := lnImplements
  have n8 := lnIsNil ⟨w.heap.size, 0, none⟩ t ((w.alloc (.cells #[.pointer (some t)] 95)).alloc (.cells #[.pointer (some ⟨7, 95, none⟩), .pointer (some ⟨w.heap.size, 0, none⟩), .int .u64 150] 121)) (by simp)
  have hlt : 0 < w.heap.size := lt_of_cell hE
  have hg2 : ((w.alloc (.cells #[.pointer (some t)] 95)).alloc (.cells #[.pointer (some ⟨7, 95, none⟩), .pointer (some ⟨w.heap.size, 0, none⟩), .int .u64 150] 121)).cell? ⟨0, 0, none⟩ = some (.iface 160 (.agg #[.pointer (some ⟨7, 57, none⟩)])) := (hb2.cell (p := ⟨0, 0, none⟩) hlt).trans hE
  clear hb2 ht hf
  go_enter Tryz.func50, Tryz.ntmps50
  go_wp2_with (go_at_call 75; refine HIN.out.mono ?_; rintro e w' ⟨rfl, hb, hc⟩)
  go_ret
  exact ⟨rfl, HB.out.trans hb, hc⟩
theorem errno_nil (w : World) : Calls Tryz.prog 24 #[.nilIface] w fun e w' => e = .returned (.int .i64 0) ∧ Below w.heap.size w w' := by
  go_enter Tryz.func24, Tryz.ntmps24
  go_wp2_with fail
  refine (as_nil _ _).mono ?_
  rintro e w1 ⟨rfl, rfl⟩
  go_wp2_with fail
  go_returns
  exact ⟨rfl, (Below.refl _ _).alloc (Nat.le_refl _) _⟩
theorem errno_acted (s : Value) (n : Int) (w : World) (hE : EType w) : Calls Tryz.prog 24 #[.iface 131 (.agg #[s, .int .i64 n])] w fun e w' => e = .returned (.int .i64 n) ∧ Below w.heap.size w w' := by
  have hb := (Below.refl w.heap.size w).alloc (Nat.le_refl _) (.cells #[.int .i64 0] 29)
  have HC := Lib.hid (asActed_any s n ⟨w.heap.size, 0, none⟩ _ (hE.later hb) (by simp) (by simp))
  have HB := Lib.hid hb
  clear hE hb
  go_enter Tryz.func24, Tryz.ntmps24
  go_wp2_with fail
  refine HC.out.mono ?_
  rintro e w1 ⟨rfl, hb1, hc⟩
  go_wp2_with fail
  go_returns
  exact ⟨rfl, HB.out.trans hb1⟩
theorem failed_any (s : ByteArray) (n : Int) (hn : n ≠ 0) (w : World) : Calls Tryz.prog 51 #[.string s, .int .i64 n] w fun e w' => e = .returned (.iface 131 (.agg #[.string s, .int .i64 n])) ∧ Below w.heap.size w w' := by
  have h0 : (n == 0) = false := by simpa using hn
  clear hn
  go_enter Tryz.func51, Tryz.ntmps51
  go_wp2_with fail
  go_returns
  exact ⟨rfl, Below.refl _ _⟩
end Go.Proofs.YtofllhipjaphfaaGreatDoor
