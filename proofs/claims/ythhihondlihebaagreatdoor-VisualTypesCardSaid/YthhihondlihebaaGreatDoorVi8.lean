/- The keys 0, l, i, a, as they are read (chapter 28). -/
import Derived.Test.YthhihondlihebaaGreatDoorVsL
import Derived.Test.YthhihondlihebaaGreatDoorVi7
import Derived.Test.YthhihondlihebaaGreatDoorVi6
namespace Go.Proofs.YthhihondlihebaaGreatDoor
open Go Go.Proofs Go.Ev Go.RowKit

def keyA (c : Nat) : List V := [.agg [.int .u8 0, .int .i64 0, .int .u8 (.ofNat c), .int .u8 0, .int .u8 0], .int .i64 1, .int .i64 1]
noncomputable def tupB (t : List V) (r : R (V × H)) : Bool := match r with
  | .ok (.tup l, _) => vEqs l t
  | _ => false
theorem tupB_ok {t : List V} {r : R (V × H)} (h : tupB t r = true) : ∃ H', r = .ok (.tup t, H') := by
  unfold tupB at h
  split at h
  · rename_i l H'
    rw [vEqs_eq h]
    exact ⟨H', rfl⟩
  · cases h
def keyL : List Nat := [48, 108, 105, 97]
set_option maxRecDepth 100000 in
theorem keyP_run : (keyL.all fun c => tupB (keyA c) (runTop Tryz.prog hooks28 [] 3000 60 36 [.str 1 c] (h0 4))) = true := by decide +kernel
theorem keysParse_any {c : Nat} (hc : c ∈ keyL) {w : World} (hw : 4 ≤ w.heap.size) : Calls Tryz.prog 36 #[.string ⟨#[UInt8.ofNat c]⟩] w fun e w' => e = .returned (.tuple #[keyV 0 0 (c : Int) 0 0, .int .i64 1, .int .i64 1]) ∧ Below w.heap.size w w' := by
  obtain ⟨H', h1⟩ := tupB_ok (List.all_eq_true.1 keyP_run c hc)
  have hlt : c < 256 := by simp [keyL] at hc; omega
  refine (runTop_calls no_count mixed hooks28_ok (by intro p hp; cases hp) h1 (fun _ => undef) (vars 4) _ w (vars_rep hw) (vars_glob (by kernel_rfl)) (DenL.one ?_)).mono fun e' w' ⟨x, he, G', q1, q2, q3⟩ => ?_
  · simp only [Den]
    exact ⟨by omega, by simp [digs, Nat.mod_eq_of_lt hlt]⟩
  · simp only [keyA, Den, DenL] at q1
    obtain ⟨arr, rfl, x0, l0, e0, ⟨ar, rfl, y0, m0, f0, rfl, y1, m1, rfl, rfl, y2, m2, rfl, rfl, y3, m3, rfl, rfl, y4, m4, rfl, rfl, rfl⟩, x1, l1, rfl, rfl, x2, l2, rfl, rfl, rfl⟩ := q1
    obtain ⟨l⟩ := arr
    obtain ⟨l'⟩ := ar
    simp only at e0 f0
    subst e0 f0
    exact ⟨he, q3.below (vars_ro _)⟩
noncomputable def valB (v : V) (r : R (V × H)) : Bool := match r with
  | .ok (x, _) => vEqs [x] [v]
  | _ => false
theorem valB_ok {v : V} {r : R (V × H)} (h : valB v r = true) : ∃ H', r = .ok (v, H') := by
  unfold valB at h
  split at h
  · rename_i x H'
    have := vEqs_eq h
    simp at this
    rw [this]
    exact ⟨H', rfl⟩
  · cases h
theorem val_any {hooks : List (Nat × Hook)} (hk : ∀ p ∈ hooks, CallOk1 Tryz.prog p.1 p.2) {F : FuncId} {l : List V} {v : V} {vals : Array Value} {x : Value} {w : World} (hw : 4 ≤ w.heap.size) (h : valB v (runTop Tryz.prog hooks [] 3000 60 F l (h0 4)) = true) (hl : DenL (fun _ => undef) (vars 4) l vals.toList) (hx : ∀ G y, Den (fun _ => undef) G v y → y = x) :
    Calls Tryz.prog F vals w fun e w' => e = .returned x ∧ Below w.heap.size w w' := by
  obtain ⟨H', h1⟩ := valB_ok h
  refine (runTop_calls no_count mixed hk (by intro p hp; cases hp) h1 (fun _ => undef) (vars 4) _ w (vars_rep hw) (vars_glob (by kernel_rfl)) hl).mono fun e' w' ⟨y, he, G', q1, q2, q3⟩ => ?_
  exact ⟨by rw [he, hx G' y q1], q3.below (vars_ro _)⟩
def isMot (c : Nat) : Bool := Nat.beq c 48 || Nat.beq c 108
set_option maxRecDepth 100000 in
theorem keyM_run : (keyL.all fun c => valB (.bool (isMot c)) (runTop Tryz.prog hooks28 [] 3000 60 59 [.int .u8 (.ofNat c)] (h0 4))) = true := by decide +kernel
theorem keysMotion_any {c : Nat} (hc : c ∈ keyL) {w : World} (hw : 4 ≤ w.heap.size) : Calls Tryz.prog 59 #[.int .u8 (c : Int)] w fun e w' => e = .returned (.bool (isMot c)) ∧ Below w.heap.size w w' :=
  val_any hooks28_ok hw (List.all_eq_true.1 keyM_run c hc) (DenL.one (by simp [Den])) (fun G y h => by simpa [Den] using h)
set_option maxRecDepth 100000 in
theorem keyF_run : (keyL.all fun c => valB (.int .i64 (-1)) (runTop Tryz.prog hooks28 [] 3000 60 93 [.str 4 1715893332, .int .u8 (.ofNat c)] (h0 4))) = true := by decide +kernel
theorem keysFind_any {c : Nat} (hc : c ∈ keyL) {w : World} (hw : 4 ≤ w.heap.size) : Calls Tryz.prog 93 #[.string ⟨#[102, 70, 116, 84]⟩, .int .u8 (c : Int)] w fun e w' => e = .returned (.int .i64 (-1)) ∧ Below w.heap.size w w' :=
  val_any hooks28_ok hw (List.all_eq_true.1 keyF_run c hc) (DenL.cons (by simp only [Den]; exact ⟨by decide, by rw [show digs 4 1715893332 = [102, 70, 116, 84] by decide]⟩) (DenL.one (by simp [Den]))) (fun G y h => by simpa [Den] using h)
set_option maxRecDepth 100000 in
theorem keyI_run : valB (.int .i64 0) (runTop Tryz.prog hooks28 [] 3000 60 93 [.str 7 29635554613088082, .int .u8 105] (h0 4)) = true := by decide +kernel
theorem keysIns_i {w : World} (hw : 4 ≤ w.heap.size) : Calls Tryz.prog 93 #[.string ⟨#[105, 73, 97, 65, 111, 79, 82]⟩, .int .u8 105] w fun e w' => e = .returned (.int .i64 0) ∧ Below w.heap.size w w' :=
  val_any hooks28_ok hw keyI_run (DenL.cons (by simp only [Den]; exact ⟨by decide, by rw [show digs 7 29635554613088082 = [105, 73, 97, 65, 111, 79, 82] by decide]⟩) (DenL.one (by simp [Den]))) (fun G y h => by simpa [Den] using h)
set_option maxRecDepth 100000 in
theorem keyA_run : valB (.int .i64 2) (runTop Tryz.prog hooks28 [] 3000 60 93 [.str 7 29635554613088082, .int .u8 97] (h0 4)) = true := by decide +kernel
theorem keysIns_a {w : World} (hw : 4 ≤ w.heap.size) : Calls Tryz.prog 93 #[.string ⟨#[105, 73, 97, 65, 111, 79, 82]⟩, .int .u8 97] w fun e w' => e = .returned (.int .i64 2) ∧ Below w.heap.size w w' :=
  val_any hooks28_ok hw keyA_run (DenL.cons (by simp only [Den]; exact ⟨by decide, by rw [show digs 7 29635554613088082 = [105, 73, 97, 65, 111, 79, 82] by decide]⟩) (DenL.one (by simp [Den]))) (fun G y h => by simpa [Den] using h)
end Go.Proofs.YthhihondlihebaaGreatDoor
/- A visual editor does a motion (chapter 28). -/
namespace Go.Proofs.YthhihondlihebaaGreatDoor
open Go Go.Proofs Go.RowKit Go.Ink Go.Sort

section
variable {S : Nat → Prop} {w w' : World} {d : Nat} {v : Vis}
theorem visFound {c : Nat} (hc : c ∈ keyL) (hw : 4 ≤ w.heap.size) : Calls Tryz.prog 60 #[.pointer (some ⟨d, 0, none⟩), .int .u8 (c : Int), keyV 0 0 (c : Int) 0 0] w fun e w' => e = .returned (.tuple #[]) ∧ Below w.heap.size w w' := by
  have HB := Lib.hid (below_alloc w (.cells #[.int .u8 0, .int .i64 0, .int .u8 (c : Int), .int .u8 0, .int .u8 0] 72))
  have HF := Lib.hid (keysFind_any hc (w := w.alloc (.cells #[.int .u8 0, .int .i64 0, .int .u8 (c : Int), .int .u8 0, .int .u8 0] 72)) (Nat.le_trans hw HB.out.size))
  unfold keyV
  go_enter Tryz.func60, Tryz.ntmps60
  go_wp2_with fail
  refine HF.out.mono ?_
  rintro e w1 ⟨rfl, hb⟩
  go_wp2_with fail
  go_returns
  exact ⟨rfl, HB.out.trans (hb.mono HB.out.size)⟩
set_option maxRecDepth 100000 in
set_option maxHeartbeats 1000000 in
theorem visMotion {c : Nat} (hcK : c ∈ keyL) (hmot : isMot c = true) {p q : Pl} {t : Nat} {cur : Int} {last : List UInt8} {r : Nat} {dirty : Bool} {undo was held : Option Addr} {dn : Value} {ps : List (List Line)} {F : List Line} (hw : 4 ≤ w.heap.size) (h : VisB w d v) (hc : CoreB w v.c t cur last r dirty undo was held dn) (ht : TabOf S w t ps) (hl : ps.length ≤ 100000) (hm : manyS ps ≤ 1000000) (hF : ps.flatten = F) (hsh : ∀ i, (lnL F i).length ≤ 1000000) (hq : Okp F q) (hln : v.ln = (p.1 : Int) + 1) (hcol : v.col = (p.2 : Int)) (hcd : v.c ≠ d) (hSd : S d)
    (hmv : ∀ (X : World) (ao : Option Addr) (cap : Nat), SlOf IsStr X ao cap F → Calls Tryz.prog 51 #[.agg (askA (.slice ao F.length cap) ((p.1 : Int) + 1) (p.2 : Int) (c : Int) 0 0)] X fun e w' => e = .returned (.tuple #[toV q false false, .bool true]) ∧ Below X.heap.size X w') :
    Calls Tryz.prog 37 #[.pointer (some ⟨d, 0, none⟩), keyV 0 0 (c : Int) 0 0] w fun e w' => e = .returned (.tuple #[.slice none 0 0, .int .i64 0]) ∧ VisB w' d { v with ln := (q.1 : Int) + 1, col := (q.2 : Int) } ∧ CoreB w' v.c t ((q.1 : Int) + 1) last r dirty undo was held dn ∧ KeepT (TwoV v.c d) w w' := by
  have HB := Lib.hid (below_alloc w (.cells #[.int .u8 0, .int .i64 0, .int .u8 (c : Int), .int .u8 0, .int .u8 0] 72))
  have hka := heap_alloc_at w (.cells #[.int .u8 0, .int .i64 0, .int .u8 (c : Int), .int .u8 0, .int .u8 0] 72)
  obtain ⟨wA, hwA⟩ : ∃ wA, w.alloc (.cells #[.int .u8 0, .int .i64 0, .int .u8 (c : Int), .int .u8 0, .int .u8 0] 72) = wA := ⟨_, rfl⟩
  rw [hwA] at HB hka
  have HKA := Lib.hid hka
  have HCX := Lib.hid (fun (X : World) (hb : Below w.heap.size w X) (hh : X.heap[w.heap.size]? = some (.cells #[.int .u8 0, .int .i64 0, .int .u8 (c : Int), .int .u8 0, .int .u8 0] 72 (0, 0))) => hb)
  have k0 : wA.cell? ⟨w.heap.size, 0, none⟩ = some (.int .u8 0) := by rw [Lib.cell_of_heap hka]; rfl
  have k1 : wA.cell? ⟨w.heap.size, 1, none⟩ = some (.int .i64 0) := by rw [Lib.cell_of_heap hka]; rfl
  have k2 : wA.cell? ⟨w.heap.size, 2, none⟩ = some (.int .u8 (c : Int)) := by rw [Lib.cell_of_heap hka]; rfl
  have k3 : wA.cell? ⟨w.heap.size, 3, none⟩ = some (.int .u8 0) := by rw [Lib.cell_of_heap hka]; rfl
  have k4 : wA.cell? ⟨w.heap.size, 4, none⟩ = some (.int .u8 0) := by rw [Lib.cell_of_heap hka]; rfl
  have hc12 : ¬ (c : Int) = 12 := by simp [keyL] at hcK; omega
  have hc12b : ((c : Int) == 12) = false := by rw [beq_eq_false_iff_ne]; exact hc12
  clear hka
  unfold keyV
  go_enter Tryz.func37, Tryz.ntmps37
  go_wp2_with fail
  refine (keysMotion_any hcK (Nat.le_trans hw HB.out.size)).mono ?_
  rw [hmot]
  rintro e w1 ⟨rfl, hb1⟩
  have HB1 := Lib.hid (HB.out.trans (hb1.mono HB.out.size))
  have HK1 := Lib.hid ((hb1.block _ (lt_of_heap HKA.out)).trans HKA.out)
  have m0 : w1.cell? ⟨w.heap.size, 0, none⟩ = some (.int .u8 0) := by rw [Lib.cell_of_heap HK1.out]; rfl
  have m1 : w1.cell? ⟨w.heap.size, 1, none⟩ = some (.int .i64 0) := by rw [Lib.cell_of_heap HK1.out]; rfl
  have m2 : w1.cell? ⟨w.heap.size, 2, none⟩ = some (.int .u8 (c : Int)) := by rw [Lib.cell_of_heap HK1.out]; rfl
  have m3 : w1.cell? ⟨w.heap.size, 3, none⟩ = some (.int .u8 0) := by rw [Lib.cell_of_heap HK1.out]; rfl
  have m4 : w1.cell? ⟨w.heap.size, 4, none⟩ = some (.int .u8 0) := by rw [Lib.cell_of_heap HK1.out]; rfl
  have HAK := Lib.hid (visAsk (h.later HB1.out) (hc.later HB1.out) (ht.later HB1.out) hl hm hF (c : Int) 0 0 (c : Int) 0 0)
  rw [hln, hcol] at HAK
  unfold keyV at HAK
  clear hb1 k0 k1 k2 k3 k4
  go_wp2_with fail
  refine HAK.out.mono ?_
  rintro e w2 ⟨ao, cap, rfl, hs2, hb2⟩
  have HB2 := Lib.hid (HB1.out.trans (hb2.mono HB1.out.size))
  have HK2 := Lib.hid ((hb2.block _ (lt_of_heap HK1.out)).trans HK1.out)
  have HMV := Lib.hid (hmv w2 ao cap hs2)
  clear hb2 hs2 m0 m1 m2 m3 m4
  go_wp2_with fail
  refine HMV.out.mono ?_
  rintro e w3 ⟨rfl, hb3⟩
  have HB3 := Lib.hid (HB2.out.trans (hb3.mono HB2.out.size))
  have HK3 := Lib.hid ((hb3.block _ (lt_of_heap HK2.out)).trans HK2.out)
  clear hb3 HMV
  unfold toV
  go_upto_region 5 with fail
  have hbT := below_alloc w3 (.cells #[.int .i64 ((q.1 : Int) + 1), .int .i64 (q.2 : Int), .bool false, .bool false] 109)
  have hTo := heap_alloc_at w3 (.cells #[.int .i64 ((q.1 : Int) + 1), .int .i64 (q.2 : Int), .bool false, .bool false] 109)
  generalize w3.alloc (.cells #[.int .i64 ((q.1 : Int) + 1), .int .i64 (q.2 : Int), .bool false, .bool false] 109) = wT at *
  have HTo := Lib.hid hTo
  have HBT := Lib.hid (HB3.out.trans (hbT.mono HB3.out.size))
  have HKT := Lib.hid ((hbT.block _ (lt_of_heap HK3.out)).trans HK3.out)
  have n0 : wT.cell? ⟨w.heap.size, 0, none⟩ = some (.int .u8 0) := by rw [Lib.cell_of_heap HKT.out]; rfl
  have n1 : wT.cell? ⟨w.heap.size, 1, none⟩ = some (.int .i64 0) := by rw [Lib.cell_of_heap HKT.out]; rfl
  have n2 : wT.cell? ⟨w.heap.size, 2, none⟩ = some (.int .u8 (c : Int)) := by rw [Lib.cell_of_heap HKT.out]; rfl
  have n3 : wT.cell? ⟨w.heap.size, 3, none⟩ = some (.int .u8 0) := by rw [Lib.cell_of_heap HKT.out]; rfl
  have n4 : wT.cell? ⟨w.heap.size, 4, none⟩ = some (.int .u8 0) := by rw [Lib.cell_of_heap HKT.out]; rfl
  clear hbT hTo
  go_wp2_with fail
  refine (visFound hcK (Nat.le_trans hw HBT.out.size)).mono ?_
  rintro e w5 ⟨rfl, hb5⟩
  have HB5 := Lib.hid (HBT.out.trans (hb5.mono HBT.out.size))
  have HTo5 := Lib.hid ((hb5.block _ (lt_of_heap HTo.out)).trans HTo.out)
  have t0 : w5.cell? ⟨w3.heap.size, 0, none⟩ = some (.int .i64 ((q.1 : Int) + 1)) := by rw [Lib.cell_of_heap HTo5.out]; rfl
  have t1 : w5.cell? ⟨w3.heap.size, 1, none⟩ = some (.int .i64 (q.2 : Int)) := by rw [Lib.cell_of_heap HTo5.out]; rfl
  have HAT := Lib.hid (visAt (h.later HB5.out) (hc.later HB5.out) (ht.later HB5.out) hl hm hF hsh hq hcd hSd)
  clear hb5 n0 n1 n2 n3 n4
  go_wp2_with fail
  refine HAT.out.mono ?_
  rintro e w6 ⟨rfl, hv6, hc6, hk6⟩
  have HV6 := Lib.hid hv6
  have HC6 := Lib.hid hc6
  have HK6 := Lib.hid ((KeepT.of_below (S := TwoV v.c d) HB5.out).trans hk6 (fun x _ hx => hx))
  clear hv6 hc6 hk6
  go_wp2_with fail
  go_returns
  exact ⟨rfl, HV6.out, HC6.out, HK6.out⟩
end
end Go.Proofs.YthhihondlihebaaGreatDoor
