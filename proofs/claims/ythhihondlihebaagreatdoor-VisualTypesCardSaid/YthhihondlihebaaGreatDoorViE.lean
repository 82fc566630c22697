/- A visual editor puts text at a place (chapter 28). -/
import Derived.Test.YthhihondlihebaaGreatDoorViA
import Derived.Test.YthhihondlihebaaGreatDoorSplM0
import Derived.Test.YthhihondlihebaaGreatDoorPc0
import Derived.Test.YthhihondlihebaaGreatDoorCoA
namespace Go.Proofs.YthhihondlihebaaGreatDoor
open Go Go.Proofs Go.RowKit Go.Ink Go.Sort

theorem extractV (s : List UInt8) (a b : Nat) : (⟨s.toArray⟩ : ByteArray).extract a b = ⟨((s.drop a).take (b - a)).toArray⟩ := by
  apply ByteArray.ext
  simp [ByteArray.extract, ByteArray.copySlice, List.extract_eq_take_drop]
theorem own_putV {w : World} {B g cap : Nat} {L : List Line} {n : Nat} (hn : L.length = n) (h : OwnStrs w B (.slice (some ⟨g, 0, none⟩) n cap) L) (k : Nat) (t : Line) :
    OwnStrs (w.setCell ⟨g, k, none⟩ (.string ⟨t.toArray⟩)) B (.slice (some ⟨g, 0, none⟩) n cap) (L.set k t) := by
  subst hn
  have := World.ownsRow.stored h k (.string ⟨t.toArray⟩)
  unfold OwnStrs
  rw [List.length_set]
  have e : strVs (L.set k t) = (strVs L).set k (.string ⟨t.toArray⟩) := by unfold strVs; rw [List.map_set]
  rw [e]
  exact this.1
theorem wrap_three (n m : Nat) (h : n < 2000) (hm : m ≤ 2) : IntKind.i64.wrap ((n : Int) + 1 + (m : Int)) = (n : Int) + 1 + (m : Int) := by
  rw [IntKind.wrap_i64]
  omega
theorem wrap_subV (n : Nat) (h : n < 2000) : IntKind.i64.wrap ((n : Int) + 1 - 1) = (n : Int) := by
  rw [IntKind.wrap_i64]
  omega
theorem wrap_zeroV (n : Nat) : IntKind.i64.wrap ((n : Int) + 1 - ((n : Int) + 1)) = 0 := by
  rw [IntKind.wrap_i64]
  omega
theorem wrap64_subV (n : Nat) (h : n < 2000) : wrap64 ((n : Int) + 1 - 1) = (n : Int) := by unfold wrap64; omega
theorem wrap64_zeroV (n : Nat) : wrap64 ((n : Int) + 1 - ((n : Int) + 1)) = 0 := by unfold wrap64; omega
theorem wrap_natV (n : Nat) (h : n < 2000) : IntKind.i64.wrap (n : Int) = (n : Int) := by
  rw [IntKind.wrap_i64]
  omega
theorem wrap_oneV : IntKind.i64.wrap (IntKind.i64.wrap 0 + 1) = ((1 : Nat) : Int) := by
  rw [IntKind.wrap_i64, IntKind.wrap_i64]
  decide
theorem three_blk (w : World) (o1 o2 o3 : Obj) : (((w.alloc o1).alloc o2).alloc o3).heap[w.heap.size]? = some o1 ∧ (((w.alloc o1).alloc o2).alloc o3).heap[w.heap.size + 1]? = some o2 ∧ (((w.alloc o1).alloc o2).alloc o3).heap[w.heap.size + 1 + 1]? = some o3 ∧ Below w.heap.size w (((w.alloc o1).alloc o2).alloc o3) := by
  have e1 : (w.alloc o1).heap.size = w.heap.size + 1 := Array.size_push _
  have e2 : ((w.alloc o1).alloc o2).heap.size = w.heap.size + 1 + 1 := (Array.size_push _).trans (by rw [e1])
  have b1 := below_alloc w o1
  have b2 := below_alloc (w.alloc o1) o2
  have b3 := below_alloc ((w.alloc o1).alloc o2) o3
  have h1 := heap_alloc_at w o1
  have h2 := heap_alloc_at (w.alloc o1) o2
  have h3 := heap_alloc_at ((w.alloc o1).alloc o2) o3
  rw [e1] at h2
  rw [e2] at h3
  exact ⟨(b3.block _ (by omega)).trans ((b2.block _ (by omega)).trans h1), (b3.block _ (by omega)).trans h2, h3, (b1.trans (b2.mono b1.size)).trans (b3.mono (b1.trans (b2.mono b1.size)).size)⟩
section
variable {S : Nat → Prop} {w w' : World} {d : Nat} {v : Vis}
set_option maxRecDepth 100000 in
set_option maxHeartbeats 2000000 in
theorem visReplace {n k m : Nat} {x l0 lm : Line} {l : List Line} {ao : Option Addr} {cap : Nat} (hw : 4 ≤ w.heap.size)
    {t cu nd : Nat} {last : List UInt8} {r was : Nat} {dirty : Bool} {undo held : Option Addr} {dn : Value} {ps : List (List Line)} (h : VisB w d v) (hc : CoreB w v.c t (cu : Int) last r dirty undo (some ⟨was, 0, none⟩) held dn) (ht : TabOf S w t ps) (hdo : DoneOf w dn nd) (hnd : nd ≤ 1000) (hcu : cu ≤ manyS ps) (hm : manyS ps ≤ 2000) (hps : ps.length ≤ manyS ps) (hx : ps.flatten[n]? = some x) (hk : k ≤ x.length) (hxl : x.length ≤ 1000000) (hs : SlOf IsStr w ao cap l) (hsm : ∀ y ∈ l, y.length ≤ 1000)
    (hmm : l.length = m + 1) (hm1 : m ≤ 1) (hl0 : l[0]? = some l0) (hlm : (l.set 0 (x.take k ++ l0))[m]? = some lm) (hE : tabErr (manyS ps) ⟨(n : Int), ((1 : Nat) : Int), (l.set 0 (x.take k ++ l0)).set m (lm ++ x.drop k)⟩ = 0)
    (hS : ∀ j, S j → j < w.heap.size) (hSc : S v.c) (hdS : ∀ g, dn.ownBlock = some g → S g) (hdd : dn.ownBlock ≠ some d) (hcd : v.c ≠ d) :
    Calls Tryz.prog 49 #[.pointer (some ⟨d, 0, none⟩), .agg #[.int .i64 ((n : Int) + 1), .int .i64 (k : Int)], .agg #[.int .i64 ((n : Int) + 1), .int .i64 (k : Int)], .slice ao l.length cap] w fun e w' => e = .returned (.tuple #[.agg #[.int .i64 ((n : Int) + 1 + (m : Int)), .int .i64 (lm.length : Int)], .int .i64 0]) ∧ ∃ t' g cp,
      CoreB w' v.c t' (curS cu n 1 (m + 1) (manyS (tabSpl ps ⟨(n : Int), ((1 : Nat) : Int), (l.set 0 (x.take k ++ l0)).set m (lm ++ x.drop k)⟩)) : Int) last r dirty undo (some ⟨was, 0, none⟩) held (.slice (some ⟨g, 0, none⟩) (nd + 1) cp) ∧ DoneOf w' (.slice (some ⟨g, 0, none⟩) (nd + 1) cp) (nd + 1) ∧
      TabOf (fun j => S j ∨ j = g) w' t' (tabSpl ps ⟨(n : Int), ((1 : Nat) : Int), (l.set 0 (x.take k ++ l0)).set m (lm ++ x.drop k)⟩) ∧ (dn.ownBlock = some g ∨ w.heap.size ≤ g) ∧ g < w'.heap.size ∧ KeepT (fun j => j = v.c ∨ dn.ownBlock = some j) w w' := by
  have hl1 : 1 ≤ l.length := by omega
  have hl2 : l.length ≤ 2 := by omega
  have HMM := Lib.hid hmm
  have HL0' := Lib.hid hl0
  clear hmm
  obtain ⟨wA, hwA⟩ : ∃ wA, ((w.alloc (.cells #[.int .i64 ((n : Int) + 1), .int .i64 (k : Int)] 49)).alloc (.cells #[.int .i64 ((n : Int) + 1), .int .i64 (k : Int)] 49)).alloc (.cells #[.int .i64 0, .int .i64 0] 49) = wA := ⟨_, rfl⟩
  obtain ⟨q1, q2, q3, qb⟩ := three_blk w (.cells #[.int .i64 ((n : Int) + 1), .int .i64 (k : Int)] 49) (.cells #[.int .i64 ((n : Int) + 1), .int .i64 (k : Int)] 49) (.cells #[.int .i64 0, .int .i64 0] 49)
  rw [hwA] at q1 q2 q3 qb
  have HBA := Lib.hid qb
  have HDO := Lib.hid (hdo.later qb)
  have HE := Lib.hid hE
  have HSS := Lib.hid hS
  have HDS := Lib.hid hdS
  have HDD := Lib.hid hdd
  have HLM := Lib.hid hlm
  have HTW := Lib.hid ht
  have HZ := Lib.hid (show v.c < w.heap.size ∧ d < w.heap.size from ⟨hc.lt, h.lt⟩)
  have HPS := Lib.hid hps
  clear hE hS hdS hdd hdo
  have HQ1 := Lib.hid q1
  have HQ2 := Lib.hid q2
  have HQ3 := Lib.hid q3
  have HVA := Lib.hid (h.later qb)
  have HCA := Lib.hid (hc.later qb)
  have HTA := Lib.hid (ht.later qb)
  have HSA := Lib.hid (hs.later lasts_str qb)
  have HSV := Lib.hid (fun (X : World) (hb : Below wA.heap.size wA X) => (show X.cell? ⟨d, 0, none⟩ = some (.pointer (some ⟨v.c, 0, none⟩)) ∧ X.cell? ⟨w.heap.size, 0, none⟩ = some (.int .i64 ((n : Int) + 1)) ∧ X.cell? ⟨w.heap.size, 1, none⟩ = some (.int .i64 (k : Int)) ∧ X.cell? ⟨w.heap.size + 1, 0, none⟩ = some (.int .i64 ((n : Int) + 1)) ∧ X.cell? ⟨w.heap.size + 1, 1, none⟩ = some (.int .i64 (k : Int)) from by
    have z1 := (hb.block _ (lt_of_heap HQ1.out)).trans HQ1.out
    have z2 := (hb.block _ (lt_of_heap HQ2.out)).trans HQ2.out
    exact ⟨(HVA.out.later hb).at 0 rfl, by rw [Lib.cell_of_heap z1]; rfl, by rw [Lib.cell_of_heap z1]; rfl, by rw [Lib.cell_of_heap z2]; rfl, by rw [Lib.cell_of_heap z2]; rfl⟩))
  have hcv : (((n + 1 : Nat) : Int)) = (n : Int) + 1 := by omega
  have HLN := Lib.hid (fun (X : World) (hb : Below wA.heap.size wA X) => coreLine_of (⟨(HCA.out.later hb).c0, (HCA.out.later hb).c1, HTA.out.later hb, by omega, by omega⟩ : CoreOf S X v.c t (cu : Int) ps) (n + 1) x (by omega) hx)
  rw [hcv] at HLN
  have HX := Lib.hid (Below.refl wA.heap.size wA)
  have hsz := size_mk x
  have he1 : (⟨x.toArray⟩ : ByteArray).extract 0 k = ⟨(x.take k).toArray⟩ := by rw [extractV]; simp
  have he2 : (⟨x.toArray⟩ : ByteArray).extract k x.length = ⟨(x.drop k).toArray⟩ := by rw [extractV, List.take_of_length_le (by simp)]
  clear q1 q2 q3 qb
  go_enter Tryz.func49, Tryz.ntmps49
  go_upto_region 1 with fail
  go_region_held3 (fun X => X.cell? ⟨d, 0, none⟩ = some (.pointer (some ⟨v.c, 0, none⟩)) ∧ X.cell? ⟨w.heap.size, 0, none⟩ = some (.int .i64 ((n : Int) + 1)) ∧ X.cell? ⟨w.heap.size, 1, none⟩ = some (.int .i64 (k : Int)) ∧ X.cell? ⟨w.heap.size + 1, 0, none⟩ = some (.int .i64 ((n : Int) + 1)) ∧ X.cell? ⟨w.heap.size + 1, 1, none⟩ = some (.int .i64 (k : Int)))
    (first | exact HSV.out _ HB2.out | exact HSV.out _ HB1.out | exact HSV.out _ HX.out.drew | exact HSV.out _ HX.out | go_keep)
    (first
      | ((with_reducible refine (HLN.out _ HB1.out).mono ?_); rintro e w2 ⟨rfl, hb2⟩; have HB2 := Lib.hid (HB1.out.trans (hb2.mono HB1.out.size)); clear hb2)
      | ((with_reducible refine (HLN.out _ HX.out.drew).mono ?_); rintro e w1 ⟨rfl, hb1⟩; have HB1 := Lib.hid (HX.out.drew.trans (hb1.mono HX.out.drew.size)); clear hb1)
      | (fail "no arm"))
  have HCL := Lib.hid (clone_any l ao cap w2 ((HSA.out.later lasts_str HB2.out)) (by omega))
  have HSIZ2 := Lib.hid (show w.heap.size + 1 + 1 < w2.heap.size from Nat.lt_of_lt_of_le (lt_of_heap HQ3.out) HB2.out.size)
  go_wp2_with fail
  refine HCL.out.mono ?_
  rintro e w3 ⟨vv, rfl, ho3, hb3⟩
  obtain ⟨a3, c3, rfl, hg3⟩ := own_headS ho3
  obtain ⟨g, rfl, hgl, hgs⟩ := hg3 (by omega)
  have HB3 := Lib.hid (HB2.out.trans (hb3.mono HB2.out.size))
  have HO3 := Lib.hid ho3
  have HGG := Lib.hid (show w2.heap.size ≤ g from hgl)
  have hl0n : ¬ (l.length : Int) = 0 := by omega
  have hl0b : ((l.length : Int) == 0) = false := by rw [beq_eq_false_iff_ne]; exact hl0n
  obtain ⟨b0, o0, uu0, ha0, hc0, hu0⟩ := (own_slOfV rfl ho3).2.2.2 0 l0 hl0
  simp only [Option.some.injEq, Addr.mk.injEq, and_true] at ha0
  obtain ⟨rfl, rfl⟩ := ha0
  obtain rfl : uu0 = _ := hu0
  simp only [Nat.add_zero] at hc0
  have f0 := World.ownsRow.frozenAt ho3 0
  have HL0 := Lib.hid hl0
  have hll : l0.length ≤ 1000 := hsm l0 (List.mem_of_getElem? hl0)
  have hap : (⟨(x.take k).toArray⟩ : ByteArray) ++ ⟨l0.toArray⟩ = ⟨(x.take k ++ l0).toArray⟩ := mk_append _ _
  have hov : ¬ 9223372036854775807 < (x.take k).length + l0.length := by rw [List.length_take]; omega
  clear ho3 hb3 hgl hg3
  go_upto_region 6 with fail
  have HO4 := Lib.hid (own_putV rfl HO3.out 0 (x.take k ++ l0))
  have hk4 : KeepT (Only g) wA (w3.setCell ⟨g, 0, none⟩ (.string ⟨(x.take k ++ l0).toArray⟩)) := (KeepT.of_below (S := Only g) HB3.out).setCell (p := ⟨g, 0, none⟩) (.inl rfl) _
  have HK4 := Lib.hid hk4
  have hgA : w.heap.size + 1 + 1 < g := Nat.lt_of_lt_of_le HSIZ2.out HGG.out
  generalize w3.setCell ⟨g, 0, none⟩ (.string ⟨(x.take k ++ l0).toArray⟩) = w4 at *
  have hL1n : (l.set 0 (x.take k ++ l0)).length = l.length := List.length_set
  have hmm := HMM.out
  obtain ⟨b1, o1, uu1, ha1, hc1, hu1⟩ := (own_slOfV hL1n HO4.out).2.2.2 m lm hlm
  simp only [Option.some.injEq, Addr.mk.injEq, and_true] at ha1
  obtain ⟨rfl, rfl⟩ := ha1
  obtain rfl : uu1 = _ := hu1
  rw [Nat.zero_add] at hc1
  have f1 : w4.frozen? ⟨g, m, none⟩ = false := by
    have h := HO4.out
    unfold OwnStrs at h
    rw [hL1n] at h
    exact World.ownsRow.frozenAt h m
  have z1 := (HK4.out.block _ (lt_of_heap HQ1.out) (by unfold Only; omega)).trans HQ1.out
  have t50 : w4.cell? ⟨w.heap.size, 0, none⟩ = some (.int .i64 ((n : Int) + 1)) := by rw [Lib.cell_of_heap z1]; rfl
  have hwm : wrap64 ((l.length : Int) - 1) = (m : Int) := by unfold wrap64; omega
  have hnx : n < 2000 := by have := (List.getElem?_eq_some_iff.1 hx).1; rw [← manyS_flat] at this; omega
  have hwn : wrap64 ((n : Int) + 1 + (m : Int)) = (n : Int) + 1 + (m : Int) := by unfold wrap64; omega
  have hml : (m : Int) < (l.length : Int) := by omega
  have hsl := size_mk lm
  have hmp : (m : Int) < (m : Int) + 1 := by omega
  have hal := below_alloc w4 (.cells #[.int .i64 0, .int .i64 0] 49)
  have c1a := (hal.cell (p := ⟨g, m, none⟩) (lt_of_cell hc1)).trans hc1
  have t5a := (hal.cell (p := ⟨w.heap.size, 0, none⟩) (lt_of_cell t50)).trans t50
  clear z1 hk4 hc0 f0 hap hov hal
  go_upto_region 7 with fail
  have HP4 := Lib.hid (fun (X : World) (hb : Below w4.heap.size w4 X) => (show X.cell? ⟨w.heap.size, 0, none⟩ = some (.int .i64 ((n : Int) + 1)) ∧ X.cell? ⟨g, m, none⟩ = some (.string ⟨lm.toArray⟩) from ⟨(hb.cell (p := ⟨w.heap.size, 0, none⟩) (lt_of_cell t50)).trans t50, (hb.cell (p := ⟨g, m, none⟩) (lt_of_cell hc1)).trans hc1⟩))
  clear c1a t5a
  go_region_held3 (fun X => X.cell? ⟨w.heap.size, 0, none⟩ = some (.int .i64 ((n : Int) + 1)) ∧ X.cell? ⟨g, m, none⟩ = some (.string ⟨lm.toArray⟩))
    (first | exact HP4.out _ (Below.refl _ _) | exact HP4.out _ (Below.refl _ _).drew | exact HP4.out _ (below_alloc _ _) | exact HP4.out _ (below_alloc _ _).drew | exact HP4.out _ ((Below.refl _ _).drew.alloc (Nat.le_refl _) _) | exact HP4.out _ ((below_alloc _ _).setCell (Nat.le_refl _) _))
    (first | (fail "no arm"))
  have hwr : IntKind.i64.wrap ((n : Int) + 1 + (m : Int)) = (n : Int) + 1 + (m : Int) := wrap_three n m hnx (by omega)
  rw [hwr]
  have hb5 := (below_alloc w4 (.cells #[.int .i64 ((n : Int) + 1 + (m : Int)), .int .i64 (lm.length : Int)] 49)).drew
  have hp5 : (w4.alloc (.cells #[.int .i64 ((n : Int) + 1 + (m : Int)), .int .i64 (lm.length : Int)] 49)).drew.heap[w4.heap.size]? = some (.cells #[.int .i64 ((n : Int) + 1 + (m : Int)), .int .i64 (lm.length : Int)] 49 (0, 0)) := heap_alloc_at w4 (.cells #[.int .i64 ((n : Int) + 1 + (m : Int)), .int .i64 (lm.length : Int)] 49)
  generalize (w4.alloc (.cells #[.int .i64 ((n : Int) + 1 + (m : Int)), .int .i64 (lm.length : Int)] 49)).drew = w5 at *
  have HO5 := Lib.hid (HO4.out.later hb5)
  have HK5 := Lib.hid (HK4.out.trans (KeepT.of_below (S := Only g) hb5) (fun x _ hx => hx))
  have c5 := (hb5.cell (p := ⟨g, m, none⟩) (lt_of_cell hc1)).trans hc1
  have f5 : w5.frozen? ⟨g, m, none⟩ = false := by
    have h := HO5.out
    unfold OwnStrs at h
    rw [hL1n] at h
    exact World.ownsRow.frozenAt h m
  have HP5 := Lib.hid hp5
  have hlmn : lm.length ≤ 1001000 := by
    rcases List.mem_or_eq_of_mem_set (List.mem_of_getElem? hlm) with h | h
    · have := hsm lm h; omega
    · rw [h, List.length_append, List.length_take]; omega
  have hap2 : (⟨lm.toArray⟩ : ByteArray) ++ ⟨(x.drop k).toArray⟩ = ⟨(lm ++ x.drop k).toArray⟩ := mk_append _ _
  have hov2 : ¬ 9223372036854775807 < lm.length + (x.drop k).length := by rw [List.length_drop]; omega
  have hg4 : g < w4.heap.size := lt_of_cell hc1
  clear hb5 hp5 hc1 f1 t50 HP4
  go_upto_region 9 with fail
  obtain ⟨L2, hL2⟩ : ∃ L2, (l.set 0 (x.take k ++ l0)).set m (lm ++ x.drop k) = L2 := ⟨_, rfl⟩
  have hL2n : L2.length = l.length := by rw [← hL2, List.length_set, hL1n]
  have HO6 := Lib.hid (own_putV hL1n HO5.out m (lm ++ x.drop k))
  rw [hL2] at HO6 HE
  have hk6 : KeepT (Only g) wA (w5.setCell ⟨g, m, none⟩ (.string ⟨(lm ++ x.drop k).toArray⟩)) := HK5.out.setCell (p := ⟨g, m, none⟩) (.inl rfl) _
  have hk56 : KeepT (Only g) w5 (w5.setCell ⟨g, m, none⟩ (.string ⟨(lm ++ x.drop k).toArray⟩)) := KeepT.setCell (S := Only g) (KeepT.refl (Only g) w5) (p := ⟨g, m, none⟩) (.inl (show Only g g from rfl)) _
  have HP6 := Lib.hid ((hk56.block _ (lt_of_heap HP5.out) (by unfold Only; omega)).trans HP5.out)
  have HK6 := Lib.hid hk6
  clear hk6 hk56 c5 f5 HO5 HK5 HP5
  generalize w5.setCell ⟨g, m, none⟩ (.string ⟨(lm ++ x.drop k).toArray⟩) = w6 at *
  have HZ2 := Lib.hid (show w.heap.size + 1 + 1 < g ∧ g < w6.heap.size ∧ g < w4.heap.size ∧ w.heap.size + 1 + 1 < wA.heap.size ∧ wA.heap.size ≤ w6.heap.size ∧ w.heap.size ≤ wA.heap.size from ⟨hgA, Nat.lt_of_lt_of_le hg4 (Nat.le_of_lt (lt_of_heap HP6.out)), hg4, lt_of_heap HQ3.out, HK6.out.size, HBA.out.size⟩)
  obtain ⟨Q, hQ⟩ : ∃ Q : Nat → Prop, Q = fun j => j = v.c ∨ dn.ownBlock = some j := ⟨_, rfl⟩
  have HQl := Lib.hid (show ∀ j, Q j → j < w.heap.size ∧ j ≠ d from fun j hj => by
    rw [hQ] at hj
    rcases hj with rfl | hj
    · exact ⟨HZ.out.1, hcd⟩
    · exact ⟨HSS.out _ (HDS.out _ hj), fun e => HDD.out (e ▸ hj)⟩)
  have HX6 := Lib.hid (show ∀ X, KeepT (fun j => Q j ∨ j = w.heap.size + 1 + 1) w6 X → X.heap[w4.heap.size]? = some (.cells #[.int .i64 ((n : Int) + 1 + (m : Int)), .int .i64 (lm.length : Int)] 49 (0, 0)) ∧ X.heap[w.heap.size]? = some (.cells #[.int .i64 ((n : Int) + 1), .int .i64 (k : Int)] 49 (0, 0)) ∧ X.heap[w.heap.size + 1]? = some (.cells #[.int .i64 ((n : Int) + 1), .int .i64 (k : Int)] 49 (0, 0)) ∧ VisB X d v from fun X hk => by
    have z := HZ2.out
    have q1 := (HK6.out.block _ (lt_of_heap HQ1.out) (by unfold Only; omega)).trans HQ1.out
    have q2 := (HK6.out.block _ (lt_of_heap HQ2.out) (by unfold Only; omega)).trans HQ2.out
    have qv := HVA.out.kept HK6.out (by unfold Only; have := HZ.out; omega)
    have nq : ∀ j, w.heap.size ≤ j → j ≠ w.heap.size + 1 + 1 → ¬ (Q j ∨ j = w.heap.size + 1 + 1) := fun j hj hn hh => by
      rcases hh with hh | hh
      · have := (HQl.out j hh).1; omega
      · exact hn hh
    exact ⟨(hk.block _ (lt_of_heap HP6.out) (nq _ (by omega) (by omega))).trans HP6.out, (hk.block _ (lt_of_heap q1) (nq _ (by omega) (by omega))).trans q1, (hk.block _ (lt_of_heap q2) (nq _ (by omega) (by omega))).trans q2, qv.kept hk (fun hh => by
      rcases hh with hh | hh
      · exact (HQl.out _ hh).2 rfl
      · have := HZ.out; omega)⟩)
  have HX8 := Lib.hid (show ∀ X, KeepT Q w6 X → X.heap[w.heap.size + 1 + 1]? = some (.cells #[.int .i64 0, .int .i64 0] 49 (0, 0)) from fun X hk => by
    have z := HZ2.out
    have q3 := (HK6.out.block _ (lt_of_heap HQ3.out) (by unfold Only; omega)).trans HQ3.out
    exact (hk.block _ (lt_of_heap q3) (fun hh => by have := (HQl.out _ hh).1; omega)).trans q3)
  have HXC := Lib.hid (show ∀ X, KeepT (fun j => Q j ∨ j = w.heap.size + 1 + 1) w6 X → X.cell? ⟨w4.heap.size, 0, none⟩ = some (.int .i64 ((n : Int) + 1 + (m : Int))) ∧ X.cell? ⟨w4.heap.size, 1, none⟩ = some (.int .i64 (lm.length : Int)) ∧ X.cell? ⟨d, 0, none⟩ = some (.pointer (some ⟨v.c, 0, none⟩)) ∧ X.cell? ⟨w.heap.size, 0, none⟩ = some (.int .i64 ((n : Int) + 1)) ∧ X.cell? ⟨w.heap.size + 1, 0, none⟩ = some (.int .i64 ((n : Int) + 1)) from fun X hk => by
    obtain ⟨z1, z2, z3, z5⟩ := HX6.out X hk
    exact ⟨by rw [Lib.cell_of_heap z1]; rfl, by rw [Lib.cell_of_heap z1]; rfl, z5.at 0 rfl, by rw [Lib.cell_of_heap z2]; rfl, by rw [Lib.cell_of_heap z3]; rfl⟩)
  have HTS := Lib.hid (((HTW.out.apart (S' := fun j => S j ∨ j = g ∨ j = w.heap.size + 1 + 1) (fun j hj => by
    have z := HZ2.out
    rcases hj with hj | hj | hj
    · exact .inl hj
    · exact .inr (by omega)
    · exact .inr (by omega))).later HBA.out).kept (HK6.out.mono (fun j _ hj => .inr (.inl hj))))
  have HC6 := Lib.hid (HCA.out.kept HK6.out (by unfold Only; have := HZ.out; have := HZ2.out; omega))
  have HD6 := Lib.hid (HDO.out.kept HK6.out (fun j hj hh => by unfold Only at hh; have := HSS.out _ (HDS.out _ hj); have := HZ2.out; omega))
  have HSL6 := Lib.hid (show SlOf IsStr w6 (some ⟨g, 0, none⟩) c3 L2 from by have h := own_slOfV hL2n HO6.out; exact h)
  have HSP := Lib.hid (fun (X : World) (hb : Below w6.heap.size w6 X) => coreSplice_of (S := fun j => S j ∨ j = g ∨ j = w.heap.size + 1 + 1) (w := X) (p := n) (d := 1) (ins := L2) (Nat.le_trans hw (Nat.le_trans (Nat.le_trans HZ2.out.2.2.2.2.2 HZ2.out.2.2.2.2.1) hb.size)) (HC6.out.later hb) (HTS.out.later hb) (HD6.out.later hb) (HSL6.out.later lasts_str hb) (fun j hj => by
    have z := HZ2.out
    have hz := hb.size
    rcases hj with hj | hj | hj
    · have := HSS.out j hj; omega
    · omega
    · omega) (.inl hSc) (fun j hj => .inl (HDS.out j hj)) (by have := HPS.out; omega) hcu hm hnd HE.out)
  have hL2l : (L2.length : Int) = (l.length : Int) := by rw [hL2n]
  have hwn1 := wrap64_subV n hnx
  have hwn2 := wrap64_zeroV n
  have hwn3 := wrap_subV n hnx
  have hwn4 := wrap_zeroV n
  have HW5 := Lib.hid (wrap_natV n hnx)
  have HKR := Lib.hid (KeepT.refl (fun j => Q j ∨ j = w.heap.size + 1 + 1) w6)
  have HBR := Lib.hid (Below.refl w6.heap.size w6)
  rw [hL2n, hmm] at HSP
  clear hw hcu hm hps hx hxl hs hsm hnd hlm hgA hg4 hwm hwn hml hsl hmp hsz he1 he2 hll hap2 hov2 hlmn
  go_region_held3 (fun X => X.cell? ⟨w4.heap.size, 0, none⟩ = some (.int .i64 ((n : Int) + 1 + (m : Int))) ∧ X.cell? ⟨w4.heap.size, 1, none⟩ = some (.int .i64 (lm.length : Int)) ∧ X.cell? ⟨d, 0, none⟩ = some (.pointer (some ⟨v.c, 0, none⟩)) ∧ X.cell? ⟨w.heap.size, 0, none⟩ = some (.int .i64 ((n : Int) + 1)) ∧ X.cell? ⟨w.heap.size + 1, 0, none⟩ = some (.int .i64 ((n : Int) + 1)))
    (first | exact HXC.out _ HKZ.out | exact HXC.out _ HKY.out | exact HXC.out _ (HK7.out.mono (fun _ _ hx => .inl hx)) | exact HXC.out _ HKR.out.drew | exact HXC.out _ HKR.out | go_keep)
    (first
      | (rw [HW5.out, wrap_oneV]; (with_reducible refine (HSP.out _ HBR.out.drew).mono ?_); rintro e w7 ⟨rfl, t', g', cp, hC7, hD7, hT7, hat, hlt, hk7⟩
         have HC7 := Lib.hid hC7
         have HD7 := Lib.hid hD7
         have HT7 := Lib.hid hT7
         have HAT := Lib.hid hat
         have HLT := Lib.hid hlt
         have HK7 := Lib.hid (show KeepT Q w6 w7 from by rw [hQ]; exact (KeepT.of_below HBR.out.drew).trans hk7 (fun _ _ hx => hx))
         have q8 := HX8.out w7 HK7.out
         have HKY := Lib.hid ((HK7.out.mono (S' := fun j => Q j ∨ j = w.heap.size + 1 + 1) (fun _ _ hx => .inl hx)).setCell (p := ⟨w.heap.size + 1 + 1, 0, none⟩) (.inl (.inr rfl)) (.int .i64 ((n : Int) + 1 + (m : Int))))
         have HKZ := Lib.hid (HKY.out.setCell (p := ⟨w.heap.size + 1 + 1, 1, none⟩) (.inl (.inr rfl)) (.int .i64 (lm.length : Int)))
         have u0 : w7.cell? ⟨w.heap.size + 1 + 1, 0, none⟩ = some (.int .i64 0) := by rw [Lib.cell_of_heap q8]; rfl
         have g0 : w7.frozen? ⟨w.heap.size + 1 + 1, 0, none⟩ = false := Lib.frozen_of_heap q8 0
         have q9 := heap_set (j := 0) q8 (.int .i64 ((n : Int) + 1 + (m : Int)))
         have u1 : (w7.setCell ⟨w.heap.size + 1 + 1, 0, none⟩ (.int .i64 ((n : Int) + 1 + (m : Int)))).cell? ⟨w.heap.size + 1 + 1, 1, none⟩ = some (.int .i64 0) := by rw [Lib.cell_of_heap q9]; rfl
         have g1 : (w7.setCell ⟨w.heap.size + 1 + 1, 0, none⟩ (.int .i64 ((n : Int) + 1 + (m : Int)))).frozen? ⟨w.heap.size + 1 + 1, 1, none⟩ = false := Lib.frozen_of_heap q9 1
         have HQ8 := Lib.hid (heap_set (j := 1) q9 (.int .i64 (lm.length : Int)))
         clear hC7 hD7 hT7 hat hlt hk7 q8 q9))
  have HKE := Lib.hid (keepOnly (keepOnly (KeepT.refl (Only (w.heap.size + 1 + 1)) w7) (show Only (w.heap.size + 1 + 1) (w.heap.size + 1 + 1) from rfl) 0 (.int .i64 ((n : Int) + 1 + (m : Int)))) (show Only (w.heap.size + 1 + 1) (w.heap.size + 1 + 1) from rfl) 1 (.int .i64 (lm.length : Int)))
  clear HKY u0 u1 g0 g1
  generalize (w7.setCell _ _).setCell _ _ = wE at *
  have c0 : wE.cell? ⟨w.heap.size + 1 + 1, 0, none⟩ = some (.int .i64 ((n : Int) + 1 + (m : Int))) := by rw [Lib.cell_of_heap HQ8.out]; rfl
  have c1 : wE.cell? ⟨w.heap.size + 1 + 1, 1, none⟩ = some (.int .i64 (lm.length : Int)) := by rw [Lib.cell_of_heap HQ8.out]; rfl
  go_wp2_with fail
  refine bodyPost_ret (v := .tuple #[.agg #[.int .i64 ((n : Int) + 1 + (m : Int)), .int .i64 (lm.length : Int)], .int .i64 0]) ?_ rfl ?_
  · simp [results, Tryz.results49, go_sem, c0, c1]
  subst hL2
  have z := HZ.out
  have z2 := HZ2.out
  have hrb : ∀ g, dn.ownBlock = some g → g < w.heap.size := fun g hg => HSS.out _ (HDS.out _ hg)
  have hat := HAT.out
  have hg' : g' ≠ w.heap.size + 1 + 1 := by
    rintro rfl
    rcases hat with h | h
    · have := hrb _ h; omega
    · have h : w6.heap.size ≤ w.heap.size + 1 + 1 := h
      omega
  refine ⟨rfl, t', g', cp, HC7.out.kept HKE.out (by unfold Only; omega), HD7.out.kept HKE.out (fun j hj hh => ?_), (((HT7.out.apart (S' := fun j => (S j ∨ j = g') ∨ j = w.heap.size + 1 + 1) ?_).kept (HKE.out.mono (fun _ _ h => .inr h))).apart (fun j hj => .inl (.inl hj))), ?_, ?_, ?_⟩
  · have e : g' = j := by simpa [Value.ownBlock] using hj
    exact hg' (e.trans hh)
  · rintro j ((h | h) | h)
    · exact .inl (.inl (.inl h))
    · exact .inl (.inr h)
    · exact .inl (.inl (.inr (.inr h)))
  · exact hat.imp_right (fun h => Nat.le_trans (Nat.le_trans z2.2.2.2.2.2 z2.2.2.2.2.1) h)
  · exact Nat.lt_of_lt_of_le HLT.out HKE.out.size
  · refine ((KeepT.of_below (S := fun j => j = v.c ∨ dn.ownBlock = some j) HBA.out).trans HK6.out (fun i hi h => ?_)).trans HKZ.out (fun i hi h => ?_)
    · unfold Only at h; omega
    · rcases h with h | h
      · rw [hQ] at h; exact h
      · omega
end
end Go.Proofs.YthhihondlihebaaGreatDoor
