/- The walk of the law FramesTurned: it answers true. -/
import Derived.Test.YtagemjjhiddpgaaDoorFrmL1
import Derived.Lib.SmallJoins
import Derived.Lib.ConvBytes
namespace Go.Proofs.YtagemjjhiddpgaaDoor
open Go Go.Proofs Go.RowKit Go.Ink Go.Sort

theorem xor_ne (c d : UInt8) (h : d ≠ 0) : c ^^^ d ≠ c := by
  intro e
  apply h
  have : c ^^^ (c ^^^ d) = c ^^^ c := by rw [e]
  rw [← UInt8.xor_assoc, UInt8.xor_self, UInt8.zero_xor] at this
  exact this
theorem xor_byte (c d : UInt8) : bits .xor .u8 (c.toNat : Int) (d.toNat : Int) = ((c ^^^ d).toNat : Int) := by
  rw [u8_xor_nat _ _ (by have := c.toNat_lt; omega) (by have := d.toNat_lt; omega), UInt8.toNat_xor]
theorem turned_whole (a p : List UInt8) (ha : a.length ≤ 8000) (hp : p.length ≤ 8000) (k : Nat) (c d : UInt8) (hk : (p ++ tailB p)[k]? = some c) (hd : d ≠ c) :
    wholeS (frameB a ++ (putN p.length ++ (p ++ tailB p).set k d)) = ([a], ((frameB a).length : Int)) := by
  have ht := frame_turned p (by omega) k c d hk hd
  have hf : framesB [a] = frameB a := by simp [framesB]
  have hl := putN_le (p.length : Int) (by omega)
  have hl2 := putN_le (a.length : Int) (by omega)
  have hla : (frameB a).length ≤ 9000 := by rw [frameB_len]; unfold putT; rw [List.length_append]; omega
  have hs : (framesB [a] ++ (putN p.length ++ (p ++ tailB p).set k d)).length ≤ 9223372036854775807 := by
    rw [hf]; simp only [List.length_append, List.length_set, tailB_len]; omega
  have hn : nextS (framesB [a] ++ (putN p.length ++ (p ++ tailB p).set k d)) ((framesB [a]).length : Nat) = none := by
    have := nextS_shift (t := framesB [a]) (m := putN p.length ++ (p ++ tailB p).set k d) hs (k := 0) (by omega) ht
    rwa [Nat.add_zero] at this
  have := whole_of hs (fun q hq => by simp at hq; subst hq; unfold maxFrame; omega) hn
  rw [hf] at this
  exact this
/-- The turned byte's place in the row of both frames. -/
theorem turned_set (a p : List UInt8) (k : Nat) (d : UInt8) (hk : k < p.length + 9) :
    (frameB a ++ frameB p).set ((frameB a ++ frameB p).length - 9 - p.length + k) d = frameB a ++ (putN p.length ++ (p ++ tailB p).set k d) ∧
    (frameB a ++ frameB p)[(frameB a ++ frameB p).length - 9 - p.length + k]? = (p ++ tailB p)[k]? := by
  have e : frameB p = putN p.length ++ (p ++ tailB p) := by unfold frameB putT; rw [List.append_assoc]
  have hl : (frameB a ++ frameB p).length - 9 - p.length + k = (frameB a).length + ((putN p.length).length + k) := by
    rw [List.length_append, e, List.length_append, List.length_append, tailB_len]; omega
  rw [hl, e]
  refine ⟨?_, ?_⟩
  · rw [List.set_append_right _ _ (by omega), Nat.add_sub_cancel_left, List.set_append_right _ _ (by omega), Nat.add_sub_cancel_left]
  · rw [List.getElem?_append_right (by omega), Nat.add_sub_cancel_left, List.getElem?_append_right (by omega), Nat.add_sub_cancel_left]
theorem bytes_set {w : World} {g cap : Nat} {xs : List UInt8} (h : SlOf IsByte w (some ⟨g, 0, none⟩) cap xs) (i : Nat) (x : UInt8) (hi : i < xs.length) : SlOf IsByte (w.setCell ⟨g, i, none⟩ (.int .u8 (x.toNat : Int))) (some ⟨g, 0, none⟩) cap (xs.set i x) := by
  obtain ⟨h1, h2, h3, h4⟩ := h
  refine ⟨by simpa using h1, h2, h3, fun k y hk => ?_⟩
  by_cases e : i = k
  · subst e
    obtain ⟨b, o, u, ha, hc, _⟩ := h4 i xs[i] (List.getElem?_eq_getElem hi)
    simp only [Option.some.injEq, Addr.mk.injEq, and_true] at ha
    obtain ⟨rfl, rfl⟩ := ha
    rw [List.getElem?_set_self hi] at hk
    injection hk with hk
    subst hk
    rw [Nat.zero_add] at hc
    exact ⟨g, 0, _, rfl, by rw [Nat.zero_add]; exact World.cell?_setCell_same' _ _ _ (by rw [hc]; rfl), rfl⟩
  · rw [List.getElem?_set_ne e] at hk
    obtain ⟨b, o, u, ha, hc, hr⟩ := h4 k y hk
    simp only [Option.some.injEq, Addr.mk.injEq, and_true] at ha
    obtain ⟨rfl, rfl⟩ := ha
    refine ⟨g, 0, u, rfl, ?_, hr⟩
    have hne : (⟨g, i, none⟩ : Addr) ≠ ⟨g, 0 + k, none⟩ := by simp [e]
    exact (World.cell?_setCell_other w _ _ _ hne).trans hc

set_option maxRecDepth 100000 in
set_option maxHeartbeats 2000000 in
theorem framesTurned_great (a p : List UInt8) (wh : Int) (y : Int) (w : World) (he : EnvF w) (ha : a.length ≤ maxLen) (hp : p.length ≤ maxLen) (h : (8000 : Int) < (a.length : Int) ∨ (8000 : Int) < (p.length : Int) ∨ y = 0) :
    Calls Tryd.prog 9 #[.agg #[.string ⟨a.toArray⟩, .string ⟨p.toArray⟩], .int .u16 wh, .int .u8 y] w fun e w' => e = .returned (.bool true) ∧ Below w.heap.size w w' := by
  have HE := Lib.hid he; clear he
  unfold maxLen at ha hp
  have hc := two_cells w (.string ⟨a.toArray⟩) (.string ⟨p.toArray⟩) 38
  obtain ⟨k0, k1⟩ := hc
  have hb0 := (Below.refl w.heap.size w).alloc (Nat.le_refl _) (.cells #[.string ⟨a.toArray⟩, .string ⟨p.toArray⟩] 38)
  have HB0 := Lib.hid hb0
  clear hb0
  have HBN := fun n => Lib.hid (below_drewN HB0.out n)
  by_cases h1 : (8000 : Int) < (a.length : Int)
  · clear h
    go_enter Tryd.func9, Tryd.ntmps9
    go_wp2_with fail
    go_quiet (fail)
    go_wp2_with fail
    refine (stands_any _ (HE.out.later (HBN _).out)).mono ?_
    rintro e w1 ⟨rfl, hb⟩
    go_wp2_with fail
    go_returns
    exact ⟨rfl, step2 (HBN _).out hb⟩
  · by_cases h2 : (8000 : Int) < (p.length : Int)
    · clear h
      go_enter Tryd.func9, Tryd.ntmps9
      go_wp2_with fail
      go_quiet (fail)
      go_wp2_with fail
      refine (stands_any _ (HE.out.later (HBN _).out)).mono ?_
      rintro e w1 ⟨rfl, hb⟩
      go_wp2_with fail
      go_returns
      exact ⟨rfl, step2 (HBN _).out hb⟩
    · have h3 : y = 0 := (h.resolve_left h1).resolve_left h2
      subst h3
      clear h
      go_enter Tryd.func9, Tryd.ntmps9
      go_wp2_with fail
      go_quiet (fail)
      go_wp2_with fail
      refine (stands_any _ (HE.out.later (HBN _).out)).mono ?_
      rintro e w1 ⟨rfl, hb⟩
      go_wp2_with fail
      go_returns
      exact ⟨rfl, step2 (HBN _).out hb⟩
set_option maxRecDepth 100000 in
set_option maxHeartbeats 4000000 in
theorem framesTurned_any (a p : List UInt8) (wh : Int) (y : Int) (w : World) (he : EnvF w) (ha : a.length ≤ maxLen) (hp : p.length ≤ maxLen) (hw0 : 0 ≤ wh) (hw1 : wh ≤ 65535) (hy0 : 0 ≤ y) (hy1 : y ≤ 255) :
    Calls Tryd.prog 9 #[.agg #[.string ⟨a.toArray⟩, .string ⟨p.toArray⟩], .int .u16 wh, .int .u8 y] w fun e w' => e = .returned (.bool true) ∧ Below w.heap.size w w' := by
  by_cases h : (8000 : Int) < (a.length : Int) ∨ (8000 : Int) < (p.length : Int) ∨ y = 0
  · exact framesTurned_great a p wh y w he ha hp h
  have g1 : ¬ (8000 : Int) < (a.length : Int) := fun e => h (.inl e)
  have g2 : ¬ (8000 : Int) < (p.length : Int) := fun e => h (.inr (.inl e))
  have g3 : ¬ y = 0 := fun e => h (.inr (.inr e))
  clear h
  obtain ⟨V, rfl⟩ := Int.eq_ofNat_of_zero_le hw0
  obtain ⟨Y, rfl⟩ := Int.eq_ofNat_of_zero_le hy0
  obtain ⟨d, hd⟩ : ∃ d : UInt8, d.toNat = Y := ⟨UInt8.ofNat Y, by rw [UInt8.toNat_ofNat', Nat.mod_eq_of_lt]; omega⟩
  subst hd
  have hd0 : d ≠ 0 := by rintro rfl; exact g3 rfl
  have hbyq : ((d.toNat : Int) == 0) = false := by rw [beq_eq_false_iff_ne]; exact g3
  have HE := Lib.hid he; clear he
  have k01 := two_cells w (.string ⟨a.toArray⟩) (.string ⟨p.toArray⟩) 38
  obtain ⟨k0, k1⟩ := k01
  have HB0 := Lib.hid ((Below.refl w.heap.size w).alloc (Nat.le_refl _) (.cells #[.string ⟨a.toArray⟩, .string ⟨p.toArray⟩] 38))
  have HFa := Lib.hid (fun w he => frame_any a w (by omega) he)
  have HFp := Lib.hid (fun w he => frame_any p w (by omega) he)
  obtain ⟨k, hk⟩ : ∃ k, V % (p.length + 9) = k := ⟨_, rfl⟩
  have hk9 : k < p.length + 9 := by rw [← hk]; exact Nat.mod_lt _ (by omega)
  have hki : (V : Int) % ((p.length : Int) + 9) = (k : Int) := by rw [← hk, Int.natCast_emod]; simp
  obtain ⟨c, hc⟩ : ∃ c, (p ++ tailB p)[k]? = some c := ⟨_, List.getElem?_eq_getElem (by rw [List.length_append, tailB_len]; omega)⟩
  obtain ⟨hset, hat⟩ := turned_set a p k (c ^^^ d) hk9
  have hwh := turned_whole a p (by omega) (by omega) k c (c ^^^ d) hc (xor_ne c d hd0)
  rw [← hset] at hwh
  rw [hc] at hat
  have hl1 : (frameB p).length = (putN p.length).length + p.length + 9 := by rw [frameB_len]; unfold putT; rw [List.length_append]
  have hl2 := putN_le (p.length : Int) (by omega)
  have hl3 := frameB_len a
  unfold putT at hl3
  rw [List.length_append] at hl3
  have hl4 := putN_le (a.length : Int) (by omega)
  have hBl : (frameB a ++ frameB p).length = (frameB a).length + (frameB p).length := List.length_append
  obtain ⟨i, hi⟩ : ∃ i, (frameB a ++ frameB p).length - 9 - p.length + k = i := ⟨_, rfl⟩
  rw [hi] at hwh hat
  have hFp9 : p.length + 9 ≤ (frameB p).length := by omega
  have hFpm : (frameB p).length ≤ 9000 := by omega
  have hFam : (frameB a).length ≤ 9000 := by omega
  have hiB : i < (frameB a ++ frameB p).length := (List.getElem?_eq_some_iff.1 hat).1
  have HW := Lib.hid (fun w he => whole_any ((frameB a ++ frameB p).set i (c ^^^ d)) w (by rw [List.length_set]; omega) he)
  unfold WholePost at HW
  rw [hwh] at HW
  simp only at HW
  clear hset hwh hc hl1 hl2 hl3 hl4 hk hd0 g3
  generalize frameB a = Fa at *
  generalize frameB p = Fp at *
  have hmk := mk_append Fa Fp
  have HMK := Lib.hid hmk; clear hmk
  have hc0 : ¬ 9223372036854775807 < Fa.length + Fp.length := by omega
  generalize hB : Fa ++ Fp = B at *
  have hBm : B.length ≤ 20000 := by omega
  have HBL := Lib.hid hBl
  have HI := Lib.hid (show ((B.length : Int) - 9 - (p.length : Int) + (k : Int)) = (i : Int) by omega)
  have hi1 : (B.length : Int) - 9 - (p.length : Int) ≥ 0 := by omega
  have HAT := Lib.hid hat
  have HBB := Lib.hid hB
  clear hBl hi hat hB
  have hx := xor_byte c d
  have hcv := fun w : World => Lib.run_convert_string_bytes (P := Tryd.prog) w 9 39 5 ⟨B.toArray⟩ Tryd.underlying9 Tryd.underlying39 Tryd.underlying5
  have HCV := Lib.hid hcv
  clear hcv
  go_enter Tryd.func9, Tryd.ntmps9
  go_wp2_with fail
  go_quiet (fail)
  have HBQ := Lib.hid (below_drewN HB0.out nq)
  have hkeep : True := trivial
  generalize World.drewN _ nq = w1 at *
  go_wp2_with fail
  refine (HFa.out _ (HE.out.later HBQ.out)).mono ?_
  rintro e w2 ⟨rfl, hb⟩
  have HB2 := Lib.hid (step2 HBQ.out hb); clear hb
  go_wp2_with fail
  refine (HFp.out _ (HE.out.later HB2.out)).mono ?_
  rintro e w3 ⟨rfl, hb⟩
  have HB3 := Lib.hid (step2 HB2.out hb); clear hb
  have hFpi : ¬ (Fp.length : Int) < (p.length : Int) + 9 := by omega
  have hmk := HMK.out
  have hcv := HCV.out w3
  have hcapg := grownCap_ge w3 B.length 0 5
  have hcapm := grownCap_le_maxLen w3 B.length 0 5 (by unfold maxLen; omega)
  have hwb1 := Lib.bytesWorld_at_new w3 5 ⟨B.toArray⟩
  have hwb2 := Joins.below_bytesWorld _ w3 5 ⟨B.toArray⟩ (Nat.le_refl _)
  have hwb3 := fun (j : Nat) (hj : j < B.length) => Lib.bytesWorld_cell w3 5 ⟨B.toArray⟩ j (by rw [size_mk]; exact hj)
  have hcs : i < (Lib.bytesCells w3 5 ⟨B.toArray⟩).size := by unfold Lib.bytesCells; simp; omega
  rw [size_mk] at hcv
  simp only at hwb3
  generalize Lib.bytesWorld w3 5 ⟨B.toArray⟩ = wb at *
  generalize Lib.bytesCells w3 5 ⟨B.toArray⟩ = cs at *
  generalize grownCap w3 B.length 0 5 = cap at *
  have hsl : SlOf IsByte wb (some ⟨w3.heap.size, 0, none⟩) cap B := by
    refine ⟨hcapg, hcapm, by simp, fun j z hj => ⟨w3.heap.size, 0, .int .u8 (z.toNat : Int), rfl, ?_, rfl⟩⟩
    rw [Nat.zero_add, hwb3 j (List.getElem?_eq_some_iff.1 hj).1]
    simp [List.getD_eq_getElem?_getD, hj]
  have hset := bytes_set hsl i (c ^^^ d) hiB
  rw [UInt8.toNat_xor] at hset
  have hcell : wb.cell? ⟨w3.heap.size, i, none⟩ = some (.int .u8 (c.toNat : Int)) := by
    rw [hwb3 i hiB]
    simp [List.getD_eq_getElem?_getD, HAT.out]
  have hfz : wb.frozen? ⟨w3.heap.size, i, none⟩ = false := by
    unfold World.frozen?
    rw [hwb1]
    simp; omega
  have HB4 := Lib.hid ((step2 HB3.out hwb2).setCell (p := ⟨w3.heap.size, i, none⟩) (by have := HB3.out.size; simp; omega) (.int .u8 ((c.toNat ^^^ d.toNat : Nat) : Int)))
  have HBK := Lib.hid (SlOf.convert (P := Tryd.prog) hset Tryd.underlying39 Tryd.underlying5 Tryd.underlying9 (Below.refl _ _))
  have hbk := HBK.out
  rw [List.length_set] at hbk
  have hI := HI.out
  clear hwb1 hwb2 hwb3 hcs hsl hset
  go_wp2_with fail
  refine (HW.out _ (HE.out.later HB4.out)).mono ?_
  rintro e w5 ⟨v, rfl, ho, hb⟩
  have HB5 := Lib.hid (step2 HB4.out hb)
  obtain ⟨ao, cap5, rfl, hs⟩ := ho.slOf
  obtain ⟨b, o, u, hao, hc0, hu⟩ := hs.2.2.2 0 a rfl
  subst hao
  have hu0 : u = .string ⟨a.toArray⟩ := hu
  subst hu0
  rw [Nat.add_zero] at hc0
  simp only [List.length_cons, List.length_nil, Nat.reduceAdd]
  have hself : (a == a) = true := by simp
  clear hb ho hs hu hcv hbk hI hmk hcell hfz hx
  go_wp2_with fail
  refine (stands_any _ (HE.out.later HB5.out)).mono ?_
  rintro e w6 ⟨rfl, hb⟩
  have HB6 := Lib.hid (step2 HB5.out hb); clear hb
  go_wp2_with fail
  go_returns
  exact ⟨rfl, HB6.out⟩
end Go.Proofs.YtagemjjhiddpgaaDoor
