/- The walks of splices.Check, done, fold, All, Apply and Inverse. -/
import Derived.Test.YtgcncmhaihgldaaGreatDoorConcat
import Derived.StillTailTactics
namespace Go.Proofs.YtgcncmhaihgldaaGreatDoor
open Go Go.Proofs Go.RowKit Go.Ink

set_option maxHeartbeats 1000000 in
theorem splCheck_any (s : Spl) (ao : Option Addr) (cap : Nat) (w : World) (hs : SlOf IsStr w ao cap s.ins) :
    Calls Tryz.prog 12 #[splV s ao cap] w fun e w' => e = .returned (.int .i64 (checkS s)) ∧ Below w.heap.size w w' := by
  have HAL := Lib.hid (fun o => below_alloc w o)
  have HS := Lib.hid hs; clear hs
  obtain ⟨pos, del, ins⟩ := s
  simp only [splV] at *
  by_cases h : pos < 0 ∨ del < 0
  · have HV := Lib.hid (show checkS ⟨pos, del, ins⟩ = 2 by unfold checkS; rw [if_pos h])
    have hm : min pos del < 0 := by omega
    clear h
    go_enter Tryz.func12, Tryz.ntmps12
    go_wp2_with fail
    go_returns
    exact ⟨by rw [HV.out]; rfl, HAL.out _⟩
  · have HV := Lib.hid (show checkS ⟨pos, del, ins⟩ = checkL ins by unfold checkS; rw [if_neg h])
    have hm : ¬ min pos del < 0 := by omega
    clear h
    go_enter Tryz.func12, Tryz.ntmps12
    go_wp2_with fail
    refine (check_any _ _ ins _ (HS.out.later lasts_str (HAL.out _))).mono ?_
    rintro e w1 ⟨rfl, rfl⟩
    go_wp2_with fail
    go_returns
    exact ⟨by rw [HV.out]; rfl, HAL.out _⟩

/-- Lines and an error, as they are handed back. -/
def LinesPost (w : World) (r : List Line × Int) (e : Ending) (w' : World) : Prop :=
  ∃ v, e = .returned (.tuple #[v, .int .i64 r.2]) ∧ OwnStrs w' w.heap.size v r.1 ∧ Below w.heap.size w w'
theorem LinesPost.mk {w w' : World} {v : Value} {l : List Line} {e : Int} (ho : OwnStrs w' w.heap.size v l) (h : Below w.heap.size w w') : LinesPost w (l, e) (.returned (.tuple #[v, .int .i64 e])) w' := ⟨_, rfl, ho, h⟩
theorem three_strs {w : World} {a b c : List Line} {a1 a2 a3 : Option Addr} {c1 c2 c3 : Nat} (h1 : SlOf IsStr w a1 c1 a) (h2 : SlOf IsStr w a2 c2 b) (h3 : SlOf IsStr w a3 c3 c) (T : TypeId) :
    SlOf IsStrs (w.alloc (.cells #[.slice a1 a.length c1, .slice a2 b.length c2, .slice a3 c.length c3] T (0, 0))) (some ⟨w.heap.size, 0, none⟩) 3 [a, b, c] := by
  have hb := heap_alloc_at w (.cells #[.slice a1 a.length c1, .slice a2 b.length c2, .slice a3 c.length c3] T (0, 0))
  have hA := below_alloc w (.cells #[.slice a1 a.length c1, .slice a2 b.length c2, .slice a3 c.length c3] T (0, 0))
  refine ⟨by simp, by unfold maxLen; omega, by simp, fun k x hk => ?_⟩
  match k, hk with
  | 0, hk => simp at hk; subst hk; exact ⟨_, 0, _, rfl, by rw [Lib.cell_of_heap hb]; rfl, _, _, rfl, h1.later lasts_str hA⟩
  | 1, hk => simp at hk; subst hk; exact ⟨_, 0, _, rfl, by rw [Lib.cell_of_heap hb]; rfl, _, _, rfl, h2.later lasts_str hA⟩
  | 2, hk => simp at hk; subst hk; exact ⟨_, 0, _, rfl, by rw [Lib.cell_of_heap hb]; rfl, _, _, rfl, h3.later lasts_str hA⟩

theorem add_none (b off k : Nat) : (⟨b, off, none⟩ : Addr).add k = ⟨b, off + k, none⟩ := by unfold Addr.add; split <;> simp_all
theorem slOf_take {w : World} {ao : Option Addr} {cap : Nat} {l : List Line} (h : SlOf IsStr w ao cap l) (k : Nat) : SlOf IsStr w ao cap (l.take k) := by
  obtain ⟨h1, h2, h3, h4⟩ := h
  refine ⟨by rw [List.length_take]; omega, h2, h3, fun j x hj => h4 j x ?_⟩
  rw [List.getElem?_take] at hj
  split at hj
  · exact hj
  · cases hj
theorem slOf_drop {w : World} {ad : Addr} {cap : Nat} {l : List Line} (h : SlOf IsStr w (some ad) cap l) (k : Nat) : SlOf IsStr w (some (ad.add k)) (cap - k) (l.drop k) := by
  obtain ⟨h1, h2, h3, h4⟩ := h
  refine ⟨by rw [List.length_drop]; omega, by omega, by simp, fun j x hj => ?_⟩
  rw [List.getElem?_drop] at hj
  obtain ⟨b, off, u, ha, hc, hr⟩ := h4 (k + j) x hj
  injection ha with ha
  subst ha
  exact ⟨b, off + k, u, by rw [add_none], by rw [Nat.add_assoc]; exact hc, hr⟩
theorem slOf_nil {w : World} (ad : Addr) (cap : Nat) (h : cap ≤ maxLen) : SlOf IsStr w (some ad) cap [] := ⟨by simp, h, by simp, fun k x hk => by simp at hk⟩
theorem slOf_none (w : World) : SlOf IsStr w none 0 [] := ⟨by simp, by unfold maxLen; omega, fun _ => rfl, fun k x hk => by simp at hk⟩

set_option maxRecDepth 100000 in
set_option maxHeartbeats 2000000 in
theorem done_any (l : List Line) (ao : Option Addr) (cap : Nat) (s : Spl) (ai : Option Addr) (ci : Nat) (w : World) (hl : SlOf IsStr w ao cap l) (hi : SlOf IsStr w ai ci s.ins) (hlen : l.length ≤ 100000) :
    Calls Tryz.prog 52 #[.slice ao l.length cap, splV s ai ci] w (LinesPost w (doneS l s)) := by
  have HAL := Lib.hid (fun o => below_alloc w o)
  have HL := Lib.hid hl
  have hc1 : cap ≤ 9223372036854775807 := hl.2.1
  have hc2 : l.length ≤ cap := hl.1
  clear hl
  have HI := Lib.hid hi
  have hic : s.ins.length ≤ 9223372036854775807 := Nat.le_trans hi.1 hi.2.1
  clear hi
  have HC := Lib.hid (fun w hs => splCheck_any s ai ci w hs)
  simp only [splV] at *
  by_cases h1 : checkS s = 0
  · obtain ⟨k1, k2, k3⟩ := checkS_ok h1
    obtain ⟨p, hp⟩ := Int.eq_ofNat_of_zero_le k1
    obtain ⟨d, hd⟩ := Int.eq_ofNat_of_zero_le k2
    have hil := (checkL_ok.1 k3).2.1
    have H1 := Lib.hid h1
    have HD := Lib.hid (show doneS l s = doneS l s from rfl)
    obtain ⟨pos, del, ins⟩ := s
    simp only at hp hd hil hic
    subst hp hd
    simp only at HC HI
    clear k1 k2 k3 h1
    by_cases h2 : l.length < p
    · have HV := Lib.hid (show doneS l ⟨p, d, ins⟩ = ([], 2) by unfold doneS; rw [if_neg (by rw [H1.out]; simp), if_pos (.inl (by simp only; omega))])
      have h2i : (l.length : Int) < (p : Int) := by omega
      go_enter Tryz.func52, Tryz.ntmps52
      go_wp2_with fail
      refine (HC.out _ (HI.out.later lasts_str (HAL.out _))).mono ?_
      rintro e w1 ⟨rfl, hb⟩
      rw [H1.out]
      have HB1 := Lib.hid ((HAL.out _).trans (hb.mono (HAL.out _).size))
      have HBX := Lib.hid ((hb.block w.heap.size (by simp)).trans (heap_alloc_at w _))
      clear hb
      have c0 : w1.cell? ⟨w.heap.size, 0, none⟩ = some (.int .i64 p) := by rw [Lib.cell_of_heap HBX.out]; rfl
      have c1 : w1.cell? ⟨w.heap.size, 1, none⟩ = some (.int .i64 d) := by rw [Lib.cell_of_heap HBX.out]; rfl
      have c2 : w1.cell? ⟨w.heap.size, 2, none⟩ = some (.slice ai ins.length ci) := by rw [Lib.cell_of_heap HBX.out]; rfl
      go_wp2_with fail
      go_returns
      rw [HV.out]
      exact .mk (OwnStrs.nil _ _) HB1.out

    by_cases h3 : l.length < p + d
    · have HV := Lib.hid (show doneS l ⟨p, d, ins⟩ = ([], 2) by unfold doneS; rw [if_neg (by rw [H1.out]; simp), if_pos (.inr (by simp only; omega))])
      have h2i : ¬ (l.length : Int) < (p : Int) := by omega
      have h3i : (l.length : Int) - (p : Int) < (d : Int) := by omega
      go_enter Tryz.func52, Tryz.ntmps52
      go_wp2_with fail
      refine (HC.out _ (HI.out.later lasts_str (HAL.out _))).mono ?_
      rintro e w1 ⟨rfl, hb⟩
      rw [H1.out]
      have HB1 := Lib.hid ((HAL.out _).trans (hb.mono (HAL.out _).size))
      have HBX := Lib.hid ((hb.block w.heap.size (by simp)).trans (heap_alloc_at w _))
      clear hb
      have c0 : w1.cell? ⟨w.heap.size, 0, none⟩ = some (.int .i64 p) := by rw [Lib.cell_of_heap HBX.out]; rfl
      have c1 : w1.cell? ⟨w.heap.size, 1, none⟩ = some (.int .i64 d) := by rw [Lib.cell_of_heap HBX.out]; rfl
      have c2 : w1.cell? ⟨w.heap.size, 2, none⟩ = some (.slice ai ins.length ci) := by rw [Lib.cell_of_heap HBX.out]; rfl
      go_wp2_with fail
      go_returns
      rw [HV.out]
      exact .mk (OwnStrs.nil _ _) HB1.out

    by_cases h4 : 2000 < l.length - d + ins.length
    · have HV := Lib.hid (show doneS l ⟨p, d, ins⟩ = ([], 3) by unfold doneS; rw [if_neg (by rw [H1.out]; simp), if_neg (by simp only; omega), if_pos (by simp only; omega)])
      have h2i : ¬ (l.length : Int) < (p : Int) := by omega
      have h3i : ¬ (l.length : Int) - (p : Int) < (d : Int) := by omega
      have h4i : (2000 : Int) < (l.length : Int) - (d : Int) + (ins.length : Int) := by omega
      go_enter Tryz.func52, Tryz.ntmps52
      go_wp2_with fail
      refine (HC.out _ (HI.out.later lasts_str (HAL.out _))).mono ?_
      rintro e w1 ⟨rfl, hb⟩
      rw [H1.out]
      have HB1 := Lib.hid ((HAL.out _).trans (hb.mono (HAL.out _).size))
      have HBX := Lib.hid ((hb.block w.heap.size (by simp)).trans (heap_alloc_at w _))
      clear hb
      have c0 : w1.cell? ⟨w.heap.size, 0, none⟩ = some (.int .i64 p) := by rw [Lib.cell_of_heap HBX.out]; rfl
      have c1 : w1.cell? ⟨w.heap.size, 1, none⟩ = some (.int .i64 d) := by rw [Lib.cell_of_heap HBX.out]; rfl
      have c2 : w1.cell? ⟨w.heap.size, 2, none⟩ = some (.slice ai ins.length ci) := by rw [Lib.cell_of_heap HBX.out]; rfl
      go_wp2_with fail
      go_returns
      rw [HV.out]
      exact .mk (OwnStrs.nil _ _) HB1.out

    have HV := Lib.hid (doneS_of H1.out (l := l) (by simp only [Int.toNat_natCast]; omega) (by simp only [Int.toNat_natCast]; omega))
    have h2i : ¬ (l.length : Int) < (p : Int) := by omega
    have h3i : ¬ (l.length : Int) - (p : Int) < (d : Int) := by omega
    have h4i : ¬ (2000 : Int) < (l.length : Int) - (d : Int) + (ins.length : Int) := by omega
    have e1 : p ≤ cap := by omega
    have e2 : p + d ≤ l.length := by omega
    have e3 : p ≤ l.length := by omega
    go_enter Tryz.func52, Tryz.ntmps52
    go_wp2_with fail
    refine (HC.out _ (HI.out.later lasts_str (HAL.out _))).mono ?_
    rintro e w1 ⟨rfl, hb⟩
    rw [H1.out]
    have HB1 := Lib.hid ((HAL.out _).trans (hb.mono (HAL.out _).size))
    have HBX := Lib.hid ((hb.block w.heap.size (by simp)).trans (heap_alloc_at w _))
    clear hb
    have c0 : w1.cell? ⟨w.heap.size, 0, none⟩ = some (.int .i64 p) := by rw [Lib.cell_of_heap HBX.out]; rfl
    have c1 : w1.cell? ⟨w.heap.size, 1, none⟩ = some (.int .i64 d) := by rw [Lib.cell_of_heap HBX.out]; rfl
    have c2 : w1.cell? ⟨w.heap.size, 2, none⟩ = some (.slice ai ins.length ci) := by rw [Lib.cell_of_heap HBX.out]; rfl

    have HL1 := Lib.hid (HL.out.later lasts_str HB1.out)
    have HI1 := Lib.hid (HI.out.later lasts_str HB1.out)
    have HLT := Lib.hid (show (l.take p).length = p by rw [List.length_take]; omega)
    have HLD := Lib.hid (show (l.drop (p + d)).length = l.length - (p + d) from List.length_drop)
    have hs1 : IntKind.i64.wrap ((p : Int) + (d : Int)) = (p : Int) + (d : Int) := IntWalk.i64_in _ (by omega)
    have hs2 : (0 : Int) ≤ (p : Int) + (d : Int) := by omega
    have hs3 : (p : Int) + (d : Int) ≤ (l.length : Int) := by omega
    have hs4 : ((p : Int) + (d : Int)).toNat = p + d := by omega
    rcases ao with _ | ad
    · have HC0 := Lib.hid (show cap = 0 from HL.out.2.2.1 rfl)
      have HPC := Lib.hid (show p + d = cap by have := HC0.out; omega)
      have HDN := Lib.hid (show l.drop (p + d) = [] from List.drop_eq_nil_of_le (by have := HC0.out; omega))
      have HTN := Lib.hid (show l.take p = [] by rw [List.eq_nil_of_length_eq_zero (show l.length = 0 by have := HC0.out; omega), List.take_nil])
      have hz1 : l.length - (p + d) = 0 := by have := HPC.out; omega
      have hz2 : cap - (p + d) = 0 := by have := HPC.out; omega
      have hpc := HPC.out
      go_wp2_with fail
      go_still_tail 13, (by kernel_rfl)
      clear hs1 hs2 hs3 hs4 hpc hz1 hz2
      go_wp2_with fail
      have HT := Lib.hid (show SlOf IsStrs (w1.alloc (.cells #[.slice none p cap, .slice ai ins.length ci, .slice none 0 0] 22 (0, 0))) (some ⟨w1.heap.size, 0, none⟩) 3 [l.take p, ins, []] from by
        have := three_strs (slOf_take HL1.out p) HI1.out (slOf_none w1) 22
        rw [HLT.out] at this
        exact this)
      refine (concat_any [l.take p, ins, []] _ 3 _ (HT.out.later lasts_strs (Below.refl _ _).drew) (by simp only [List.flatten_cons, List.flatten_nil, List.length_append, List.length_take, List.length_drop, List.length_nil]; omega)).mono ?_
      rintro e w2 ⟨v, rfl, ho, hb⟩
      have HB2 := Lib.hid (HB1.out.trans ((((below_alloc w1 _).drew).trans (hb.mono (by simp))).mono HB1.out.size)); clear hb
      have HOW := Lib.hid (show OwnStrs w2 w.heap.size v (l.take p ++ ins ++ l.drop (p + d)) from by
        have h := ho
        rw [HDN.out]
        simp only [List.flatten_cons, List.flatten_nil, List.append_nil] at h
        rw [List.append_nil]
        exact ownsRow_base h (by have := HB1.out.size; simp; omega))
      clear ho
      go_wp2_with fail
      go_returns
      rw [HV.out]
      exact .mk HOW.out HB2.out
    · go_wp2_with fail
      by_cases hpc : p + d = cap
      · have HPC := Lib.hid hpc
        have HDN := Lib.hid (show l.drop (p + d) = [] from List.drop_eq_nil_of_le (by omega))
        have hz1 : l.length - (p + d) = 0 := by omega
        have hz2 : cap - (p + d) = 0 := by omega
        go_still_tail 13, (by kernel_rfl)
        clear hs1 hs2 hs3 hs4 hpc hz1 hz2
        go_wp2_with fail
        have HT := Lib.hid (show SlOf IsStrs (w1.alloc (.cells #[.slice (some ad) p cap, .slice ai ins.length ci, .slice (some ad) 0 0] 22 (0, 0))) (some ⟨w1.heap.size, 0, none⟩) 3 [l.take p, ins, []] from by
          have := three_strs (slOf_take HL1.out p) HI1.out (slOf_nil ad 0 (by unfold maxLen; omega)) 22
          rw [HLT.out] at this
          exact this)
        refine (concat_any [l.take p, ins, []] _ 3 _ (HT.out.later lasts_strs (Below.refl _ _).drew) (by simp only [List.flatten_cons, List.flatten_nil, List.length_append, List.length_take, List.length_drop, List.length_nil]; omega)).mono ?_
        rintro e w2 ⟨v, rfl, ho, hb⟩
        have HB2 := Lib.hid (HB1.out.trans ((((below_alloc w1 _).drew).trans (hb.mono (by simp))).mono HB1.out.size)); clear hb
        have HOW := Lib.hid (show OwnStrs w2 w.heap.size v (l.take p ++ ins ++ l.drop (p + d)) from by
          have h := ho
          rw [HDN.out]
          simp only [List.flatten_cons, List.flatten_nil, List.append_nil] at h
          rw [List.append_nil]
          exact ownsRow_base h (by have := HB1.out.size; simp; omega))
        clear ho
        go_wp2_with fail
        go_returns
        rw [HV.out]
        exact .mk HOW.out HB2.out
      · go_still_tail 13, (by kernel_rfl)
        clear hs1 hs2 hs3 hs4
        go_wp2_with fail
        have HT := Lib.hid (show SlOf IsStrs (w1.alloc (.cells #[.slice (some ad) p cap, .slice ai ins.length ci, .slice (some (ad.add (p + d))) (l.length - (p + d)) (cap - (p + d))] 22 (0, 0))) (some ⟨w1.heap.size, 0, none⟩) 3 [l.take p, ins, l.drop (p + d)] from by
          have := three_strs (slOf_take HL1.out p) HI1.out (slOf_drop HL1.out (p + d)) 22
          rw [HLT.out, HLD.out] at this
          exact this)
        refine (concat_any [l.take p, ins, l.drop (p + d)] _ 3 _ (HT.out.later lasts_strs (Below.refl _ _).drew) (by simp only [List.flatten_cons, List.flatten_nil, List.length_append, List.length_take, List.length_drop, List.length_nil]; omega)).mono ?_
        rintro e w2 ⟨v, rfl, ho, hb⟩
        have HB2 := Lib.hid (HB1.out.trans ((((below_alloc w1 _).drew).trans (hb.mono (by simp))).mono HB1.out.size)); clear hb
        have HOW := Lib.hid (show OwnStrs w2 w.heap.size v (l.take p ++ ins ++ l.drop (p + d)) from by
          have h := ho
          simp only [List.flatten_cons, List.flatten_nil, List.append_nil] at h
          rw [← List.append_assoc] at h
          exact ownsRow_base h (by have := HB1.out.size; simp; omega))
        clear ho
        go_wp2_with fail
        go_returns
        rw [HV.out]
        exact .mk HOW.out HB2.out
  · have HV := Lib.hid (show doneS l s = ([], checkS s) by unfold doneS; rw [if_pos h1])
    have hq : (checkS s == 0) = false := by simpa using h1
    go_enter Tryz.func52, Tryz.ntmps52
    go_wp2_with fail
    refine (HC.out _ (HI.out.later lasts_str (HAL.out _))).mono ?_
    rintro e w1 ⟨rfl, hb⟩
    have HB1 := Lib.hid ((HAL.out _).trans (hb.mono (HAL.out _).size)); clear hb
    go_wp2_with fail
    go_returns
    rw [HV.out]
    exact .mk (OwnStrs.nil _ _) HB1.out
end Go.Proofs.YtgcncmhaihgldaaGreatDoor
