/- A visual editor takes a byte of the text that is inserted (chapter 28). -/
import Derived.Test.YthhihondlihebaaGreatDoorViE
import Derived.Test.YthhihondlihebaaGreatDoorViP
import Derived.BigRegion
namespace Go.Proofs.YthhihondlihebaaGreatDoor
open Go Go.Proofs Go.RowKit Go.Ink Go.Sort

theorem slOf_oneV {w : World} {b : Nat} {x : List UInt8} {T : TypeId} {fr : Nat × Nat} (h : w.heap[b]? = some (.cells #[.string ⟨x.toArray⟩] T fr)) : SlOf IsStr w (some ⟨b, 0, none⟩) 1 [x] :=
  ⟨by simp, by unfold maxLen; omega, by simp, fun k y hk => by
    match k, hk with
    | 0, hk =>
      simp only [List.getElem?_cons_zero, Option.some.injEq] at hk
      subst hk
      exact ⟨b, 0, _, rfl, by rw [Lib.cell_of_heap h]; rfl, rfl⟩⟩
theorem slOf_twoV {w : World} {b : Nat} {x y : List UInt8} {T : TypeId} {fr : Nat × Nat} (h : w.heap[b]? = some (.cells #[.string ⟨x.toArray⟩, .string ⟨y.toArray⟩] T fr)) : SlOf IsStr w (some ⟨b, 0, none⟩) 2 [x, y] :=
  ⟨by simp, by unfold maxLen; omega, by simp, fun k z hk => by
    match k, hk with
    | 0, hk =>
      simp only [List.getElem?_cons_zero, Option.some.injEq] at hk
      subst hk
      exact ⟨b, 0, _, rfl, by rw [Lib.cell_of_heap h]; rfl, rfl⟩
    | 1, hk =>
      simp only [List.getElem?_cons_succ, List.getElem?_cons_zero, Option.some.injEq] at hk
      subst hk
      exact ⟨b, 0, _, rfl, by rw [Lib.cell_of_heap h]; rfl, rfl⟩⟩
section
variable {S : Nat → Prop} {w w' : World} {d : Nat} {v : Vis}
set_option maxRecDepth 100000 in
set_option maxHeartbeats 2000000 in
theorem visInsByte {n k : Nat} {x : Line} {b : UInt8} (hb1 : 32 ≤ b.toNat) (hb2 : b.toNat ≤ 126) (hw : 4 ≤ w.heap.size)
    {t cu nd : Nat} {last : List UInt8} {r was : Nat} {dirty : Bool} {undo held : Option Addr} {dn : Value} {ps : List (List Line)} (h : VisB w d v) (hmode : v.mode = 2) (hln : v.ln = (n : Int) + 1) (hcol : v.col = (k : Int)) (hc : CoreB w v.c t (cu : Int) last r dirty undo (some ⟨was, 0, none⟩) held dn) (ht : TabOf S w t ps) (hdo : DoneOf w dn nd) (hnd : nd ≤ 1000) (hcu : cu ≤ manyS ps) (hm : manyS ps ≤ 2000) (hps : ps.length ≤ manyS ps) (hx : ps.flatten[n]? = some x) (hk : k ≤ x.length) (hxl : x.length ≤ 1000000)
    (hE : tabErr (manyS ps) ⟨(n : Int), ((1 : Nat) : Int), [x.take k ++ b :: x.drop k]⟩ = 0)
    (hS : ∀ j, S j → j < w.heap.size) (hSc : S v.c) (hSd : S d) (hdS : ∀ g, dn.ownBlock = some g → S g) (hdd : dn.ownBlock ≠ some d) (hcd : v.c ≠ d) (hdl : v.done.length ≤ 1000) :
    Calls Tryz.prog 33 #[.pointer (some ⟨d, 0, none⟩), .int .u8 (b.toNat : Int)] w fun e w' => e = .returned (.int .i64 0) ∧ ∃ t' g cp,
      VisB w' d { v with ln := (n : Int) + 1, col := (k : Int) + 1, done := v.done ++ [b] } ∧ CoreB w' v.c t' ((n : Int) + 1) last r dirty undo (some ⟨was, 0, none⟩) held (.slice (some ⟨g, 0, none⟩) (nd + 1) cp) ∧ DoneOf w' (.slice (some ⟨g, 0, none⟩) (nd + 1) cp) (nd + 1) ∧
      TabOf (fun j => S j ∨ j = g) w' t' (tabSpl ps ⟨(n : Int), ((1 : Nat) : Int), [x.take k ++ b :: x.drop k]⟩) ∧ (dn.ownBlock = some g ∨ w.heap.size ≤ g) ∧ g < w'.heap.size ∧ KeepT (fun j => j = v.c ∨ j = d ∨ dn.ownBlock = some j) w w' := by
  have HLI := Lib.hid (fun (X : World) (hb : Below w.heap.size w X) => visLine (i := n + 1) (x := x) (h.later hb) (⟨(hc.later hb).c0, (hc.later hb).c1, ht.later hb, by omega, by omega⟩ : CoreOf S X v.c t (cu : Int) ps) (by rw [hln]; omega) (by omega) (by rw [Nat.add_sub_cancel]; exact hx))
  have HMA := Lib.hid (tabSpl_many hE)
  have hnm : n < manyS ps := by rw [manyS_flat]; exact (List.getElem?_eq_some_iff.1 hx).1
  have HRP := Lib.hid (fun (X : World) (g : Nat) (hb : Below w.heap.size w X) (hz : w.heap.size < X.heap.size) (hg : X.heap[g]? = some (.cells #[.string ⟨[b].toArray⟩] 9 (0, 0))) => visReplace (S := fun j => S j ∨ j = w.heap.size) (n := n) (k := k) (m := 0) (x := x) (l0 := [b]) (lm := x.take k ++ [b]) (l := [[b]]) (ao := some ⟨g, 0, none⟩) (cap := 1) (Nat.le_trans hw hb.size) (h.later hb) (hc.later hb) ((ht.apart (S' := fun j => S j ∨ j = w.heap.size) (fun j hj => hj.imp_right (fun e => Nat.le_of_eq e.symm))).later hb) (hdo.later hb) hnd hcu hm hps hx hk hxl (slOf_oneV hg) (by intro y hy; obtain rfl := List.mem_singleton.1 hy; simp) rfl (by omega) rfl rfl (by
    have e : ([[b]].set 0 (x.take k ++ [b])).set 0 (x.take k ++ [b] ++ x.drop k) = [x.take k ++ b :: x.drop k] := by simp
    rw [e]; exact hE) (fun j hj => hj.elim (fun hj => Nat.lt_of_lt_of_le (hS j hj) hb.size) (fun e => e ▸ hz)) (.inl hSc) (fun g hg => .inl (hdS g hg)) hdd hcd)
  have eL : ([[b]].set 0 (x.take k ++ [b])).set 0 (x.take k ++ [b] ++ x.drop k) = [x.take k ++ b :: x.drop k] := by simp
  rw [eL] at HRP
  have e2 : ((x.take k ++ [b]).length : Int) = ((k : Int) + 1) := by rw [List.length_append, List.length_take, List.length_singleton, Nat.min_eq_left hk]; omega
  have e1 : (n : Int) + 1 + ((0 : Nat) : Int) = ((n : Int) + 1) := by omega
  rw [e2, e1] at HRP
  have hb13 : ¬ (b.toNat : Int) = 13 := by omega
  have hb10 : ¬ (b.toNat : Int) = 10 := by omega
  have hb8 : ¬ (b.toNat : Int) = 8 := by omega
  have hb127 : ¬ (b.toNat : Int) = 127 := by omega
  have hq13 : ((b.toNat : Int) == 13) = false := by rw [beq_eq_false_iff_ne]; exact hb13
  have hq10 : ((b.toNat : Int) == 10) = false := by rw [beq_eq_false_iff_ne]; exact hb10
  have hq8 : ((b.toNat : Int) == 8) = false := by rw [beq_eq_false_iff_ne]; exact hb8
  have hq127 : ((b.toNat : Int) == 127) = false := by rw [beq_eq_false_iff_ne]; exact hb127
  have h1 := h.at 1 rfl
  have h2 := h.at 2 rfl
  rw [hln] at h1
  rw [hcol] at h2
  have HV := Lib.hid h
  have HH := Lib.hid (show d < w.heap.size ∧ v.c < w.heap.size from ⟨h.lt, hc.lt⟩)
  have hbP := below_alloc w (.cells #[.int .i64 ((n : Int) + 1), .int .i64 (k : Int)] 49)
  have hkP := heap_alloc_at w (.cells #[.int .i64 ((n : Int) + 1), .int .i64 (k : Int)] 49)
  have HSS := Lib.hid hS
  clear h hc ht hdo hx hxl hm hps hcu hE hS
  go_enter Tryz.func33, Tryz.ntmps33
  go_upto_region 3 with fail
  generalize w.alloc (.cells #[.int .i64 ((n : Int) + 1), .int .i64 (k : Int)] 49) = wP at *
  have HBP := Lib.hid hbP
  have HKP := Lib.hid hkP
  clear hbP hkP h1 h2
  go_wp2_with fail
  refine (HLI.out _ HBP.out).mono ?_
  rintro e w1 ⟨rfl, hb1⟩
  have HB1 := Lib.hid (HBP.out.trans (hb1.mono HBP.out.size))
  have HK1 := Lib.hid ((hb1.block _ (lt_of_heap HKP.out)).trans HKP.out)
  have m3 := (HV.out.later HB1.out).at 3 rfl
  rw [hmode] at m3
  have p0 : w1.cell? ⟨w.heap.size, 0, none⟩ = some (.int .i64 ((n : Int) + 1)) := by rw [Lib.cell_of_heap HK1.out]; rfl
  have p1 : w1.cell? ⟨w.heap.size, 1, none⟩ = some (.int .i64 (k : Int)) := by rw [Lib.cell_of_heap HK1.out]; rfl
  have hcv := conv_byte w1 b
  clear hb1
  go_wp2_with fail
  have hbQ : Below w1.heap.size w1 ((w1.alloc (.cells #[.int .u8 (b.toNat : Int)] 5)).alloc (.cells #[.string ⟨[b].toArray⟩] 9)) := (below_alloc w1 _).trans ((below_alloc _ _).mono (below_alloc w1 _).size)
  have hgQ := heap_alloc_at (w1.alloc (.cells #[.int .u8 (b.toNat : Int)] 5)) (.cells #[.string ⟨[b].toArray⟩] 9)
  have hsQ : (w1.alloc (.cells #[.int .u8 (b.toNat : Int)] 5)).heap.size = w1.heap.size + 1 := Array.size_push _
  rw [hsQ] at hgQ
  refine (HRP.out _ _ (HB1.out.trans (hbQ.mono HB1.out.size)) (Nat.lt_of_lt_of_le (lt_of_heap HK1.out) hbQ.size) hgQ).mono ?_
  generalize (w1.alloc (.cells #[.int .u8 (b.toNat : Int)] 5)).alloc (.cells #[.string ⟨[b].toArray⟩] 9) = wQ at *
  rintro e w2 ⟨rfl, t', g, cp, hC2, hD2, hT2, hat, hlt, hk2⟩
  have HBQ := Lib.hid (HB1.out.trans (hbQ.mono HB1.out.size))
  have HC2 := Lib.hid hC2
  have HD2 := Lib.hid hD2
  have HT2 := Lib.hid hT2
  have HAT := Lib.hid (hat.imp_right (fun h => Nat.le_trans HBQ.out.size h))
  have HLT := Lib.hid hlt
  have HQl := Lib.hid (show ∀ j, (j = v.c ∨ dn.ownBlock = some j) → j < w.heap.size ∧ j ≠ d from fun j hj => by
    rcases hj with rfl | hj
    · exact ⟨HH.out.2, hcd⟩
    · exact ⟨HSS.out _ (hdS _ hj), fun e => hdd (e ▸ hj)⟩)
  have HK2 := Lib.hid ((KeepT.of_below (S := fun j => j = v.c ∨ dn.ownBlock = some j) HBQ.out).trans hk2 (fun _ _ hx => hx))
  have HV2 := Lib.hid (HV.out.kept HK2.out (fun hh => (HQl.out _ hh).2 rfl))
  have q2 := (hk2.block _ (lt_of_heap ((hbQ.block _ (lt_of_heap HK1.out)).trans HK1.out)) (fun hh => by have := (HQl.out _ hh).1; omega)).trans ((hbQ.block _ (lt_of_heap HK1.out)).trans HK1.out)
  have u0 : w2.cell? ⟨w.heap.size, 0, none⟩ = some (.int .i64 ((n : Int) + 1)) := by rw [Lib.cell_of_heap q2]; rfl
  have g0 : w2.frozen? ⟨w.heap.size, 0, none⟩ = false := Lib.frozen_of_heap q2 0
  have q3 := heap_set (j := 0) q2 (.int .i64 ((n : Int) + 1))
  have u1 : (w2.setCell ⟨w.heap.size, 0, none⟩ (.int .i64 ((n : Int) + 1))).cell? ⟨w.heap.size, 1, none⟩ = some (.int .i64 (k : Int)) := by rw [Lib.cell_of_heap q3]; rfl
  have g1 : (w2.setCell ⟨w.heap.size, 0, none⟩ (.int .i64 ((n : Int) + 1))).frozen? ⟨w.heap.size, 1, none⟩ = false := Lib.frozen_of_heap q3 1
  have HQW := Lib.hid q2
  have HQ4 := Lib.hid (heap_set (j := 1) q3 (.int .i64 ((k : Int) + 1)))
  have HK3 := Lib.hid (keepOnly (keepOnly (KeepT.refl (Only w.heap.size) w2) (show Only w.heap.size w.heap.size from rfl) 0 (.int .i64 ((n : Int) + 1))) (show Only w.heap.size w.heap.size from rfl) 1 (.int .i64 ((k : Int) + 1)))
  clear hC2 hD2 hT2 hat hlt hk2 hbQ hgQ hsQ q2 q3 p0 p1 m3
  go_upto_region 17 with fail
  have HV3 := Lib.hid (HV2.out.kept HK3.out (by unfold Only; have := HH.out; omega))
  clear u0 u1 g0 g1
  generalize (w2.setCell _ _).setCell _ _ = w3 at *
  have hb3 := below_alloc w3 (.cells #[.int .u8 (b.toNat : Int)] 5)
  have y0 : w3.cell? ⟨w.heap.size, 0, none⟩ = some (.int .i64 ((n : Int) + 1)) := by rw [Lib.cell_of_heap HQ4.out]; rfl
  have y1 : w3.cell? ⟨w.heap.size, 1, none⟩ = some (.int .i64 ((k : Int) + 1)) := by rw [Lib.cell_of_heap HQ4.out]; rfl
  have y0a := (hb3.cell (p := ⟨w.heap.size, 0, none⟩) (lt_of_cell y0)).trans y0
  have y1a := (hb3.cell (p := ⟨w.heap.size, 1, none⟩) (lt_of_cell y1)).trans y1
  have x1 := HV3.out.at 1 rfl
  have x2 := HV3.out.at 2 rfl
  have x8 := HV3.out.at 8 rfl
  have f1 := HV3.out.fz 1
  have f2 := HV3.out.fz 2
  have f8 := HV3.out.fz 8
  rw [hln] at x1
  rw [hcol] at x2
  have x1a := (hb3.cell (p := ⟨d, 1, none⟩) (lt_of_cell x1)).trans x1
  have x2a := (hb3.cell (p := ⟨d, 2, none⟩) (lt_of_cell x2)).trans x2
  have x8a := (hb3.cell (p := ⟨d, 8, none⟩) (lt_of_cell x8)).trans x8
  have f1a := (HV3.out.later hb3).fz 1
  have f2a := (HV3.out.later hb3).fz 2
  have f8a := (HV3.out.later hb3).fz 8
  have hcw := fun w : World => conv_byteD w b
  have hcw' := fun w : World => conv_byte w b
  have hap : (⟨v.done.toArray⟩ : ByteArray) ++ ⟨#[b]⟩ = ⟨(v.done ++ [b]).toArray⟩ := mk_append v.done [b]
  have hov : ¬ 9223372036854775807 < v.done.length + 1 := by omega
  have hsd := size_mk v.done
  have HB3 := Lib.hid hb3
  clear hb3 hcv
  go_region
  have HV4 := Lib.hid (show VisB ((((w3.alloc (.cells #[.int .u8 (b.toNat : Int)] 5)).setCell ⟨d, 1, none⟩ (.int .i64 ((n : Int) + 1))).setCell ⟨d, 2, none⟩ (.int .i64 ((k : Int) + 1))).setCell ⟨d, 8, none⟩ (.string ⟨(v.done ++ [b]).toArray⟩)).drew d { v with ln := (n : Int) + 1, col := (k : Int) + 1, done := v.done ++ [b] } from ((((HV3.out.later HB3.out).set1 ((n : Int) + 1)).set2 ((k : Int) + 1)).set8 (v.done ++ [b])))
  have hk4 : ∀ T : Nat → Prop, T d → KeepT T w3 ((((w3.alloc (.cells #[.int .u8 (b.toNat : Int)] 5)).setCell ⟨d, 1, none⟩ (.int .i64 ((n : Int) + 1))).setCell ⟨d, 2, none⟩ (.int .i64 ((k : Int) + 1))).setCell ⟨d, 8, none⟩ (.string ⟨(v.done ++ [b]).toArray⟩)).drew := fun T hT => (keepOnly (keepOnly (keepOnly (KeepT.of_below (S := T) HB3.out) hT 1 _) hT 2 _) hT 8 _).drew
  have HK4 := Lib.hid (hk4 (Only d) rfl)
  clear hk4 y0 y1 y0a y1a x1 x2 x8 f1 f2 f8 x1a x2a x8a f1a f2a f8a hcw hcw' hap hov hsd
  generalize (((((w3.alloc (.cells #[.int .u8 (b.toNat : Int)] 5)).setCell ⟨d, 1, none⟩ (.int .i64 ((n : Int) + 1))).setCell ⟨d, 2, none⟩ (.int .i64 ((k : Int) + 1))).setCell ⟨d, 8, none⟩ (.string ⟨(v.done ++ [b]).toArray⟩)).drew) = w4 at *
  have HQ5 := Lib.hid ((HK4.out.block _ (lt_of_heap HQ4.out) (by unfold Only; have := HH.out; omega)).trans HQ4.out)
  have HSV := Lib.hid (show S v.c ∧ S d from ⟨hSc, hSd⟩)
  have HGW := Lib.hid (show ∀ j, dn.ownBlock = some j → j < w.heap.size from fun j hj => HSS.out _ (hdS _ hj))
  have hgne : g ≠ w.heap.size ∧ g ≠ d ∧ g ≠ v.c := by
    obtain ⟨cs, fr, hhq⟩ := HD2.out.kind (show Value.ownBlock (.slice (some ⟨g, 0, none⟩) (nd + 1) cp) = some g from by simp [Value.ownBlock])
    have ne : ∀ {j : Nat} {cs' : Array Value} {T : TypeId} {fr' : Nat × Nat}, w2.heap[j]? = some (.cells cs' T fr') → T ≠ 90 → g ≠ j := by
      rintro j cs' T fr' hj hT rfl
      rw [hhq] at hj
      simp only [Option.some.injEq, Obj.cells.injEq] at hj
      exact hT hj.2.1.symm
    exact ⟨ne HQW.out (by decide), ne HV2.out (by decide), ne HC2.out (by decide)⟩
  have HGN := Lib.hid hgne
  clear hgne
  have HN4 := Lib.hid (show ∀ j, j ≠ w.heap.size → j ≠ d → ¬ (j = w.heap.size ∨ j = d) from fun j h1 h2 h => h.elim h1 h2)
  have HKA := Lib.hid (show KeepT (fun j => j = w.heap.size ∨ j = d) w2 w4 from (HK3.out.mono (fun _ _ h => .inl h)).trans HK4.out (fun _ _ h => .inr h))
  have HC4 := Lib.hid (HC2.out.kept HKA.out (fun h => by have := HH.out; rcases h with h | h; omega; exact hcd h))
  have HD4 := Lib.hid (HD2.out.kept HKA.out (fun j hj hh => by
    have e : g = j := by simpa [Value.ownBlock] using hj
    subst e
    exact HN4.out g HGN.out.1 HGN.out.2.1 hh))
  have HT4 := Lib.hid (HT2.out.kept (HKA.out.mono (fun j _ hj => hj.elim (fun e => .inl (.inr e)) (fun e => .inl (.inl (e ▸ HSV.out.2))))))
  have hme := HMA.out
  have HGO := Lib.hid (fun (X : World) (hb : Below w4.heap.size w4 X) => coreGo_of (⟨(HC4.out.later hb).c0, (HC4.out.later hb).c1, HT4.out.later hb, Nat.le_trans (tabSpl_full _ _) (by omega), by omega⟩ : CoreOf _ X v.c t' _ _) (HC4.out.later hb) (n + 1) (by rw [hme.2.1]; simp only [List.length_singleton]; omega))
  have hcv : (((n + 1 : Nat) : Int)) = (n : Int) + 1 := by omega
  rw [hcv] at HGO
  have x0 := HV4.out.at 0 rfl
  have z0 : w4.cell? ⟨w.heap.size, 0, none⟩ = some (.int .i64 ((n : Int) + 1)) := by rw [Lib.cell_of_heap HQ5.out]; rfl
  have HX4 := Lib.hid (Below.refl w4.heap.size w4)
  have HC4L := Lib.hid HC4.out.lt
  clear hme hcv hnm
  go_upto_region 18 with fail
  go_region_held3 (fun X => X.cell? ⟨d, 0, none⟩ = some (.pointer (some ⟨v.c, 0, none⟩)) ∧ X.cell? ⟨w.heap.size, 0, none⟩ = some (.int .i64 ((n : Int) + 1)))
    (first | exact ⟨x0, z0⟩ | exact ⟨y0, y1⟩ | go_keep)
    (first
      | ((with_reducible refine (HGO.out _ HX4.out.drew).mono ?_); rintro e w5 ⟨rfl, hw5⟩
         have hk5 : KeepT (Only v.c) w4 w5 := by rw [hw5]; exact keepOnly (S := Only v.c) (KeepT.of_below HX4.out.drew) (show Only v.c v.c from rfl) 1 _
         have HC5 := Lib.hid (show CoreB w5 v.c t' ((n : Int) + 1) last r dirty undo (some ⟨was, 0, none⟩) held (.slice (some ⟨g, 0, none⟩) (nd + 1) cp) from by rw [hw5]; exact (HC4.out.later HX4.out.drew).set1 ((n : Int) + 1))
         have HV5 := Lib.hid (HV4.out.kept hk5 (by unfold Only; exact fun e => hcd e.symm))
         have HK5 := Lib.hid hk5
         have y0 := HV5.out.at 0 rfl
         have y1 : w5.cell? ⟨w.heap.size, 0, none⟩ = some (.int .i64 ((n : Int) + 1)) := by
           have hq := (hk5.block _ (lt_of_heap HQ5.out) (by unfold Only; have := HH.out; omega)).trans HQ5.out
           rw [Lib.cell_of_heap hq]; rfl
         clear hw5 hk5)
      | (fail "no arm"))
  go_wp2_with fail
  go_returns
  refine ⟨rfl, t', g, cp, HV5.out, HC5.out, HD4.out.kept HK5.out (fun j hj hh => ?_), ((HT4.out.kept (HK5.out.mono (fun j _ hj => .inl (.inl ((show j = v.c from hj) ▸ HSV.out.1))))).apart (fun j hj => .inl (hj.elim (fun h => .inl (.inl h)) .inr))), HAT.out, ?_, ?_⟩
  · have e : g = j := by simpa [Value.ownBlock] using hj
    exact HGN.out.2.2 (e.trans hh)
  · exact Nat.lt_of_lt_of_le HLT.out (Nat.le_trans HKA.out.size HK5.out.size)
  · refine ((HK2.out.mono (S' := fun j => j = v.c ∨ j = d ∨ dn.ownBlock = some j) (fun i _ h => h.imp_right .inr)).trans HKA.out (fun i hi h => ?_)).trans HK5.out (fun i hi h => .inl h)
    rcases h with h | h
    · omega
    · exact .inr (.inl h)
end
end Go.Proofs.YthhihondlihebaaGreatDoor
/- A visual editor takes a line's end of the text that is inserted (chapter 28). -/
namespace Go.Proofs.YthhihondlihebaaGreatDoor
open Go Go.Proofs Go.RowKit Go.Ink Go.Sort

section
variable {S : Nat → Prop} {w w' : World} {d : Nat} {v : Vis}
set_option maxRecDepth 100000 in
set_option maxHeartbeats 2000000 in
theorem visInsLF {n k : Nat} {x : Line} (hw : 4 ≤ w.heap.size)
    {t cu nd : Nat} {last : List UInt8} {r was : Nat} {dirty : Bool} {undo held : Option Addr} {dn : Value} {ps : List (List Line)} (h : VisB w d v) (hmode : v.mode = 2) (hln : v.ln = (n : Int) + 1) (hcol : v.col = (k : Int)) (hc : CoreB w v.c t (cu : Int) last r dirty undo (some ⟨was, 0, none⟩) held dn) (ht : TabOf S w t ps) (hdo : DoneOf w dn nd) (hnd : nd ≤ 1000) (hcu : cu ≤ manyS ps) (hm : manyS ps ≤ 2000) (hps : ps.length ≤ manyS ps) (hx : ps.flatten[n]? = some x) (hk : k ≤ x.length) (hxl : x.length ≤ 1000000)
    (hE : tabErr (manyS ps) ⟨(n : Int), ((1 : Nat) : Int), [x.take k, x.drop k]⟩ = 0)
    (hS : ∀ j, S j → j < w.heap.size) (hSc : S v.c) (hSd : S d) (hdS : ∀ g, dn.ownBlock = some g → S g) (hdd : dn.ownBlock ≠ some d) (hcd : v.c ≠ d) (hdl : v.done.length ≤ 1000) :
    Calls Tryz.prog 33 #[.pointer (some ⟨d, 0, none⟩), .int .u8 10] w fun e w' => e = .returned (.int .i64 0) ∧ ∃ t' g cp,
      VisB w' d { v with ln := (n : Int) + 1 + 1, col := 0, fl := (n : Int) + 1 + 1, fc := 0, done := v.done ++ [(10 : UInt8)] } ∧ CoreB w' v.c t' ((n : Int) + 1 + 1) last r dirty undo (some ⟨was, 0, none⟩) held (.slice (some ⟨g, 0, none⟩) (nd + 1) cp) ∧ DoneOf w' (.slice (some ⟨g, 0, none⟩) (nd + 1) cp) (nd + 1) ∧
      TabOf (fun j => S j ∨ j = g) w' t' (tabSpl ps ⟨(n : Int), ((1 : Nat) : Int), [x.take k, x.drop k]⟩) ∧ (dn.ownBlock = some g ∨ w.heap.size ≤ g) ∧ g < w'.heap.size ∧ KeepT (fun j => j = v.c ∨ j = d ∨ dn.ownBlock = some j) w w' := by
  have HLI := Lib.hid (fun (X : World) (hb : Below w.heap.size w X) => visLine (i := n + 1) (x := x) (h.later hb) (⟨(hc.later hb).c0, (hc.later hb).c1, ht.later hb, by omega, by omega⟩ : CoreOf S X v.c t (cu : Int) ps) (by rw [hln]; omega) (by omega) (by rw [Nat.add_sub_cancel]; exact hx))
  have HMA := Lib.hid (tabSpl_many hE)
  have hnm : n < manyS ps := by rw [manyS_flat]; exact (List.getElem?_eq_some_iff.1 hx).1
  have eL : ([[], []].set 0 (x.take k ++ [])).set 1 ([] ++ x.drop k) = [x.take k, x.drop k] := by simp
  have HRP := Lib.hid (fun (X : World) (g : Nat) (hb : Below w.heap.size w X) (hz : w.heap.size < X.heap.size) (hg : X.heap[g]? = some (.cells #[.string ⟨([] : List UInt8).toArray⟩, .string ⟨([] : List UInt8).toArray⟩] 9 (0, 0))) => visReplace (S := fun j => S j ∨ j = w.heap.size) (n := n) (k := k) (m := 1) (x := x) (l0 := []) (lm := []) (l := [[], []]) (ao := some ⟨g, 0, none⟩) (cap := 2) (Nat.le_trans hw hb.size) (h.later hb) (hc.later hb) ((ht.apart (S' := fun j => S j ∨ j = w.heap.size) (fun j hj => hj.imp_right (fun e => Nat.le_of_eq e.symm))).later hb) (hdo.later hb) hnd hcu hm hps hx hk hxl (slOf_twoV hg) (by intro y hy; simp only [List.mem_cons, List.not_mem_nil, or_false, or_self] at hy; subst hy; simp) rfl (by omega) rfl rfl (by rw [eL]; exact hE) (fun j hj => hj.elim (fun hj => Nat.lt_of_lt_of_le (hS j hj) hb.size) (fun e => e ▸ hz)) (.inl hSc) (fun g hg => .inl (hdS g hg)) hdd hcd)
  rw [eL] at HRP
  have e2 : ((([] : Line).length : Nat) : Int) = 0 := rfl
  have e1 : (n : Int) + 1 + ((1 : Nat) : Int) = (n : Int) + 1 + 1 := by omega
  rw [e2, e1] at HRP
  have h1 := h.at 1 rfl
  have h2 := h.at 2 rfl
  rw [hln] at h1
  rw [hcol] at h2
  have HV := Lib.hid h
  have HH := Lib.hid (show d < w.heap.size ∧ v.c < w.heap.size from ⟨h.lt, hc.lt⟩)
  have hbP := below_alloc w (.cells #[.int .i64 ((n : Int) + 1), .int .i64 (k : Int)] 49)
  have hkP := heap_alloc_at w (.cells #[.int .i64 ((n : Int) + 1), .int .i64 (k : Int)] 49)
  have HSS := Lib.hid hS
  clear h hc ht hdo hx hxl hm hps hcu hE hS
  go_enter Tryz.func33, Tryz.ntmps33
  go_upto_region 3 with fail
  generalize w.alloc (.cells #[.int .i64 ((n : Int) + 1), .int .i64 (k : Int)] 49) = wP at *
  have HBP := Lib.hid hbP
  have HKP := Lib.hid hkP
  clear hbP hkP h1 h2
  go_wp2_with fail
  refine (HLI.out _ HBP.out).mono ?_
  rintro e w1 ⟨rfl, hb1⟩
  have HB1 := Lib.hid (HBP.out.trans (hb1.mono HBP.out.size))
  have HK1 := Lib.hid ((hb1.block _ (lt_of_heap HKP.out)).trans HKP.out)
  have m3 := (HV.out.later HB1.out).at 3 rfl
  rw [hmode] at m3
  have p0 : w1.cell? ⟨w.heap.size, 0, none⟩ = some (.int .i64 ((n : Int) + 1)) := by rw [Lib.cell_of_heap HK1.out]; rfl
  have p1 : w1.cell? ⟨w.heap.size, 1, none⟩ = some (.int .i64 (k : Int)) := by rw [Lib.cell_of_heap HK1.out]; rfl
  clear hb1
  go_wp2_with fail
  have hbQ : Below w1.heap.size w1 (w1.alloc (.cells #[.string ⟨([] : List UInt8).toArray⟩, .string ⟨([] : List UInt8).toArray⟩] 9)) := below_alloc w1 _
  have hgQ := heap_alloc_at w1 (.cells #[.string ⟨([] : List UInt8).toArray⟩, .string ⟨([] : List UInt8).toArray⟩] 9)
  refine (HRP.out _ _ (HB1.out.trans (hbQ.mono HB1.out.size)) (Nat.lt_of_lt_of_le (lt_of_heap HK1.out) hbQ.size) hgQ).mono ?_
  generalize w1.alloc (.cells #[.string ⟨([] : List UInt8).toArray⟩, .string ⟨([] : List UInt8).toArray⟩] 9) = wQ at *
  rintro e w2 ⟨rfl, t', g, cp, hC2, hD2, hT2, hat, hlt, hk2⟩
  have HBQ := Lib.hid (HB1.out.trans (hbQ.mono HB1.out.size))
  have HC2 := Lib.hid hC2
  have HD2 := Lib.hid hD2
  have HT2 := Lib.hid hT2
  have HAT := Lib.hid (hat.imp_right (fun h => Nat.le_trans HBQ.out.size h))
  have HLT := Lib.hid hlt
  have HQl := Lib.hid (show ∀ j, (j = v.c ∨ dn.ownBlock = some j) → j < w.heap.size ∧ j ≠ d from fun j hj => by
    rcases hj with rfl | hj
    · exact ⟨HH.out.2, hcd⟩
    · exact ⟨HSS.out _ (hdS _ hj), fun e => hdd (e ▸ hj)⟩)
  have HK2 := Lib.hid ((KeepT.of_below (S := fun j => j = v.c ∨ dn.ownBlock = some j) HBQ.out).trans hk2 (fun _ _ hx => hx))
  have HV2 := Lib.hid (HV.out.kept HK2.out (fun hh => (HQl.out _ hh).2 rfl))
  have q2 := (hk2.block _ (lt_of_heap ((hbQ.block _ (lt_of_heap HK1.out)).trans HK1.out)) (fun hh => by have := (HQl.out _ hh).1; omega)).trans ((hbQ.block _ (lt_of_heap HK1.out)).trans HK1.out)
  have u0 : w2.cell? ⟨w.heap.size, 0, none⟩ = some (.int .i64 ((n : Int) + 1)) := by rw [Lib.cell_of_heap q2]; rfl
  have g0 : w2.frozen? ⟨w.heap.size, 0, none⟩ = false := Lib.frozen_of_heap q2 0
  have q3 := heap_set (j := 0) q2 (.int .i64 ((n : Int) + 1 + 1))
  have u1 : (w2.setCell ⟨w.heap.size, 0, none⟩ (.int .i64 ((n : Int) + 1 + 1))).cell? ⟨w.heap.size, 1, none⟩ = some (.int .i64 (k : Int)) := by rw [Lib.cell_of_heap q3]; rfl
  have g1 : (w2.setCell ⟨w.heap.size, 0, none⟩ (.int .i64 ((n : Int) + 1 + 1))).frozen? ⟨w.heap.size, 1, none⟩ = false := Lib.frozen_of_heap q3 1
  have HQW := Lib.hid q2
  have HQ4 := Lib.hid (heap_set (j := 1) q3 (.int .i64 0))
  have HK3 := Lib.hid (keepOnly (keepOnly (KeepT.refl (Only w.heap.size) w2) (show Only w.heap.size w.heap.size from rfl) 0 (.int .i64 ((n : Int) + 1 + 1))) (show Only w.heap.size w.heap.size from rfl) 1 (.int .i64 0))
  clear hC2 hD2 hT2 hat hlt hk2 hbQ hgQ q2 q3 p0 p1 m3
  go_upto_region 8 with fail
  have HV3 := Lib.hid (HV2.out.kept HK3.out (by unfold Only; have := HH.out; omega))
  clear u0 u1 g0 g1
  generalize (w2.setCell _ _).setCell _ _ = w3 at *
  have y0 : w3.cell? ⟨w.heap.size, 0, none⟩ = some (.int .i64 ((n : Int) + 1 + 1)) := by rw [Lib.cell_of_heap HQ4.out]; rfl
  have y1 : w3.cell? ⟨w.heap.size, 1, none⟩ = some (.int .i64 0) := by rw [Lib.cell_of_heap HQ4.out]; rfl
  have s0 := HV3.out
  have u6 := s0.at 6 rfl
  have g6 := s0.fz 6
  have s1 := s0.set6 ((n : Int) + 1 + 1)
  have u7 := s1.at 7 rfl
  have g7 := s1.fz 7
  have HV3b := Lib.hid (s1.set7 0)
  have hkb : ∀ T : Nat → Prop, T d → KeepT T w3 ((w3.setCell ⟨d, 6, none⟩ (.int .i64 ((n : Int) + 1 + 1))).setCell ⟨d, 7, none⟩ (.int .i64 0)) := fun T hT => keepOnly (keepOnly (KeepT.refl T w3) hT 6 _) hT 7 _
  have HKB := Lib.hid (hkb (Only d) rfl)
  have HQ4b := Lib.hid ((HKB.out.block _ (lt_of_heap HQ4.out) (by unfold Only; have := HH.out; omega)).trans HQ4.out)
  clear s0 s1 hkb
  go_upto_region 17 with fail
  clear u6 u7 g6 g7 y0 y1
  generalize (w3.setCell _ _).setCell _ _ = w3b at *
  have hb3 := below_alloc w3b (.cells #[.int .u8 10] 5)
  have y0 : w3b.cell? ⟨w.heap.size, 0, none⟩ = some (.int .i64 ((n : Int) + 1 + 1)) := by rw [Lib.cell_of_heap HQ4b.out]; rfl
  have y1 : w3b.cell? ⟨w.heap.size, 1, none⟩ = some (.int .i64 0) := by rw [Lib.cell_of_heap HQ4b.out]; rfl
  have y0a := (hb3.cell (p := ⟨w.heap.size, 0, none⟩) (lt_of_cell y0)).trans y0
  have y1a := (hb3.cell (p := ⟨w.heap.size, 1, none⟩) (lt_of_cell y1)).trans y1
  have x1 := HV3b.out.at 1 rfl
  have x2 := HV3b.out.at 2 rfl
  have x8 := HV3b.out.at 8 rfl
  have f1 := HV3b.out.fz 1
  have f2 := HV3b.out.fz 2
  have f8 := HV3b.out.fz 8
  rw [hln] at x1
  rw [hcol] at x2
  have x1a := (hb3.cell (p := ⟨d, 1, none⟩) (lt_of_cell x1)).trans x1
  have x2a := (hb3.cell (p := ⟨d, 2, none⟩) (lt_of_cell x2)).trans x2
  have x8a := (hb3.cell (p := ⟨d, 8, none⟩) (lt_of_cell x8)).trans x8
  have f1a := (HV3b.out.later hb3).fz 1
  have f2a := (HV3b.out.later hb3).fz 2
  have f8a := (HV3b.out.later hb3).fz 8
  have hcw : ∀ w : World, (Go.convert 80 9 (.slice (some ⟨w.heap.size, 0, none⟩) 1 1)).run Tryz.prog (w.alloc (.cells #[.int .u8 10] 5)).drew = .ok (.string ⟨#[10]⟩) (w.alloc (.cells #[.int .u8 10] 5)).drew := fun w : World => conv_byteD w 10
  have hcw' : ∀ w : World, (Go.convert 80 9 (.slice (some ⟨w.heap.size, 0, none⟩) 1 1)).run Tryz.prog (w.alloc (.cells #[.int .u8 10] 5)) = .ok (.string ⟨#[10]⟩) (w.alloc (.cells #[.int .u8 10] 5)) := fun w : World => conv_byte w 10
  have hap : (⟨v.done.toArray⟩ : ByteArray) ++ ⟨#[10]⟩ = ⟨(v.done ++ [(10 : UInt8)]).toArray⟩ := mk_append v.done [10]
  have hov : ¬ 9223372036854775807 < v.done.length + 1 := by omega
  have hsd := size_mk v.done
  have HB3 := Lib.hid hb3
  clear hb3
  go_region
  have HV4 := Lib.hid (show VisB ((((w3b.alloc (.cells #[.int .u8 10] 5)).setCell ⟨d, 1, none⟩ (.int .i64 ((n : Int) + 1 + 1))).setCell ⟨d, 2, none⟩ (.int .i64 0)).setCell ⟨d, 8, none⟩ (.string ⟨(v.done ++ [(10 : UInt8)]).toArray⟩)).drew d { v with ln := (n : Int) + 1 + 1, col := 0, fl := (n : Int) + 1 + 1, fc := 0, done := v.done ++ [(10 : UInt8)] } from ((((HV3b.out.later HB3.out).set1 ((n : Int) + 1 + 1)).set2 0).set8 (v.done ++ [(10 : UInt8)])))
  have hk4 : ∀ T : Nat → Prop, T d → KeepT T w3b ((((w3b.alloc (.cells #[.int .u8 10] 5)).setCell ⟨d, 1, none⟩ (.int .i64 ((n : Int) + 1 + 1))).setCell ⟨d, 2, none⟩ (.int .i64 0)).setCell ⟨d, 8, none⟩ (.string ⟨(v.done ++ [(10 : UInt8)]).toArray⟩)).drew := fun T hT => (keepOnly (keepOnly (keepOnly (KeepT.of_below (S := T) HB3.out) hT 1 _) hT 2 _) hT 8 _).drew
  have HK4 := Lib.hid (hk4 (Only d) rfl)
  clear hk4 y0 y1 y0a y1a x1 x2 x8 f1 f2 f8 x1a x2a x8a f1a f2a f8a hcw hcw' hap hov hsd
  generalize (((((w3b.alloc (.cells #[.int .u8 10] 5)).setCell ⟨d, 1, none⟩ (.int .i64 ((n : Int) + 1 + 1))).setCell ⟨d, 2, none⟩ (.int .i64 0)).setCell ⟨d, 8, none⟩ (.string ⟨(v.done ++ [(10 : UInt8)]).toArray⟩)).drew) = w4 at *
  have HQ5 := Lib.hid ((HK4.out.block _ (lt_of_heap HQ4b.out) (by unfold Only; have := HH.out; omega)).trans HQ4b.out)
  have HSV := Lib.hid (show S v.c ∧ S d from ⟨hSc, hSd⟩)
  have HGW := Lib.hid (show ∀ j, dn.ownBlock = some j → j < w.heap.size from fun j hj => HSS.out _ (hdS _ hj))
  have hgne : g ≠ w.heap.size ∧ g ≠ d ∧ g ≠ v.c := by
    obtain ⟨cs, fr, hhq⟩ := HD2.out.kind (show Value.ownBlock (.slice (some ⟨g, 0, none⟩) (nd + 1) cp) = some g from by simp [Value.ownBlock])
    have ne : ∀ {j : Nat} {cs' : Array Value} {T : TypeId} {fr' : Nat × Nat}, w2.heap[j]? = some (.cells cs' T fr') → T ≠ 90 → g ≠ j := by
      rintro j cs' T fr' hj hT rfl
      rw [hhq] at hj
      simp only [Option.some.injEq, Obj.cells.injEq] at hj
      exact hT hj.2.1.symm
    exact ⟨ne HQW.out (by decide), ne HV2.out (by decide), ne HC2.out (by decide)⟩
  have HGN := Lib.hid hgne
  clear hgne
  have HN4 := Lib.hid (show ∀ j, j ≠ w.heap.size → j ≠ d → ¬ (j = w.heap.size ∨ j = d) from fun j h1 h2 h => h.elim h1 h2)
  have HKA := Lib.hid (show KeepT (fun j => j = w.heap.size ∨ j = d) w2 w4 from ((HK3.out.mono (fun _ _ h => .inl h)).trans HKB.out (fun _ _ h => .inr h)).trans HK4.out (fun _ _ h => .inr h))
  have HC4 := Lib.hid (HC2.out.kept HKA.out (fun h => by have := HH.out; rcases h with h | h; omega; exact hcd h))
  have HD4 := Lib.hid (HD2.out.kept HKA.out (fun j hj hh => by
    have e : g = j := by simpa [Value.ownBlock] using hj
    subst e
    exact HN4.out g HGN.out.1 HGN.out.2.1 hh))
  have HT4 := Lib.hid (HT2.out.kept (HKA.out.mono (fun j _ hj => hj.elim (fun e => .inl (.inr e)) (fun e => .inl (.inl (e ▸ HSV.out.2))))))
  have hme := HMA.out
  have HGO := Lib.hid (fun (X : World) (hb : Below w4.heap.size w4 X) => coreGo_of (⟨(HC4.out.later hb).c0, (HC4.out.later hb).c1, HT4.out.later hb, Nat.le_trans (tabSpl_full _ _) (by omega), by omega⟩ : CoreOf _ X v.c t' _ _) (HC4.out.later hb) (n + 1 + 1) (by rw [hme.2.1]; simp only [List.length_cons, List.length_nil]; omega))
  have hcv : (((n + 1 + 1 : Nat) : Int)) = (n : Int) + 1 + 1 := by omega
  rw [hcv] at HGO
  have x0 := HV4.out.at 0 rfl
  have z0 : w4.cell? ⟨w.heap.size, 0, none⟩ = some (.int .i64 ((n : Int) + 1 + 1)) := by rw [Lib.cell_of_heap HQ5.out]; rfl
  have HX4 := Lib.hid (Below.refl w4.heap.size w4)
  have HC4L := Lib.hid HC4.out.lt
  clear hme hcv hnm
  go_upto_region 18 with fail
  go_region_held3 (fun X => X.cell? ⟨d, 0, none⟩ = some (.pointer (some ⟨v.c, 0, none⟩)) ∧ X.cell? ⟨w.heap.size, 0, none⟩ = some (.int .i64 ((n : Int) + 1 + 1)))
    (first | exact ⟨x0, z0⟩ | exact ⟨y0, y1⟩ | go_keep)
    (first
      | ((with_reducible refine (HGO.out _ HX4.out.drew).mono ?_); rintro e w5 ⟨rfl, hw5⟩
         have hk5 : KeepT (Only v.c) w4 w5 := by rw [hw5]; exact keepOnly (S := Only v.c) (KeepT.of_below HX4.out.drew) (show Only v.c v.c from rfl) 1 _
         have HC5 := Lib.hid (show CoreB w5 v.c t' ((n : Int) + 1 + 1) last r dirty undo (some ⟨was, 0, none⟩) held (.slice (some ⟨g, 0, none⟩) (nd + 1) cp) from by rw [hw5]; exact (HC4.out.later HX4.out.drew).set1 ((n : Int) + 1 + 1))
         have HV5 := Lib.hid (HV4.out.kept hk5 (by unfold Only; exact fun e => hcd e.symm))
         have HK5 := Lib.hid hk5
         have y0 := HV5.out.at 0 rfl
         have y1 : w5.cell? ⟨w.heap.size, 0, none⟩ = some (.int .i64 ((n : Int) + 1 + 1)) := by
           have hq := (hk5.block _ (lt_of_heap HQ5.out) (by unfold Only; have := HH.out; omega)).trans HQ5.out
           rw [Lib.cell_of_heap hq]; rfl
         clear hw5 hk5)
      | (fail "no arm"))
  go_wp2_with fail
  go_returns
  refine ⟨rfl, t', g, cp, HV5.out, HC5.out, HD4.out.kept HK5.out (fun j hj hh => ?_), ((HT4.out.kept (HK5.out.mono (fun j _ hj => .inl (.inl ((show j = v.c from hj) ▸ HSV.out.1))))).apart (fun j hj => .inl (hj.elim (fun h => .inl (.inl h)) .inr))), HAT.out, ?_, ?_⟩
  · have e : g = j := by simpa [Value.ownBlock] using hj
    exact HGN.out.2.2 (e.trans hh)
  · exact Nat.lt_of_lt_of_le HLT.out (Nat.le_trans HKA.out.size HK5.out.size)
  · refine ((HK2.out.mono (S' := fun j => j = v.c ∨ j = d ∨ dn.ownBlock = some j) (fun i _ h => h.imp_right .inr)).trans HKA.out (fun i hi h => ?_)).trans HK5.out (fun i hi h => .inl h)
    rcases h with h | h
    · omega
    · exact .inr (.inl h)
end
end Go.Proofs.YthhihondlihebaaGreatDoor
