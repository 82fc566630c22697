/- The walk of bytes.Repeat over one byte, up to 8192 times. -/
import Derived.Test.YtcgaaadcbhkfoaaGreatDoorShelf
import Derived.Test.YtcgaaadcbhkfoaaGreatDoorBase
import Derived.Laws.CopyOwn
import Derived.Deep.RegionLaw
import Derived.Lib.MakeNoZero
namespace Go.Proofs.YtcgaaadcbhkfoaaGreatDoor
open Go Go.Proofs Go.RowKit Go.Ink

theorem mul_one_any (n : Nat) (hn : n ≤ 8192) (w : World) :
    Calls Tryz.prog 42 #[.int .u64 1, .int .u64 n] w fun e w' => e = .returned (.tuple #[.int .u64 0, .int .u64 n]) ∧ w = w' := by
  have h := Tryz.bits_Mul 1 n (by decide) (by omega) w
  have e1 : ((1 * n / 18446744073709551616 : Nat) : Int) = 0 := by omega
  have e2 : ((1 * n % 18446744073709551616 : Nat) : Int) = n := by omega
  rw [e1, e2] at h
  exact h.mono fun e w' ⟨he, hw⟩ => ⟨he, hw.symm⟩

/-- A new row of bytes in block g, of which the first n hold c. -/
structure NewRow (w w' : World) (g n : Nat) (c : Int) : Prop where
  fresh : w.heap.size ≤ g
  row : ∃ cur : List Value, w'.heap[g]? = some (.cells cur.toArray 5 (0, 0)) ∧ n ≤ cur.length ∧ ∀ j, j < n → cur[j]? = some (.int .u8 c)
  below : Below w.heap.size w w'
def RepeatPost (w : World) (n : Nat) (c : Int) (e : Ending) (w' : World) : Prop := ∃ g, e = .returned (.slice (some ⟨g, 0, none⟩) n n) ∧ NewRow w w' g n c

/-- In block g lies a row of at least n bytes, of which the first m hold c. -/
def RowAt (w : World) (g n m : Nat) (c : Int) : Prop := ∃ cur : List Value, w.heap[g]? = some (.cells cur.toArray 5 (0, 0)) ∧ n ≤ cur.length ∧ ∀ j, j < m → cur[j]? = some (.int .u8 c)
theorem splice_row {cur : List Value} {c : Int} {m q n : Nat} (hn : n ≤ cur.length) (h : ∀ j, j < m → cur[j]? = some (.int .u8 c)) (hq : m + q ≤ n) :
    n ≤ (splice cur m (List.replicate q (.int .u8 c))).length ∧ ∀ j, j < m + q → (splice cur m (List.replicate q (.int .u8 c)))[j]? = some (.int .u8 c) := by
  refine ⟨by rw [length_splice _ _ _ (by simp; omega)]; exact hn, fun j hj => ?_⟩
  unfold splice
  by_cases h1 : j < m
  · rw [List.getElem?_append_left (by simp; omega), List.getElem?_take, if_pos h1]; exact h j h1
  · rw [List.getElem?_append_right (by simp; omega), List.getElem?_append_left (by simp; omega), List.getElem?_replicate, if_pos (by simp; omega)]

set_option maxHeartbeats 300000 in
set_option maxRecDepth 100000 in
theorem repeat1_any (bb cp : Nat) (c : Int) (n : Nat) (w : World) (h : w.cell? ⟨bb, 0, none⟩ = some (.int .u8 c)) (hn : 1 ≤ n) (hn2 : n ≤ 8192) :
    Calls Tryz.prog 30 #[.slice (some ⟨bb, 0, none⟩) 1 cp, .int .i64 n] w (RepeatPost w n c) := by
  obtain ⟨cs, hrunM, hle, _⟩ := Lib.run_makeNoZero (P := Tryz.prog) w #[3] 37 5 Tryz.underlying37 n (by omega)
  have hcall : (callFunc 43 #[.int .i64 (n : Int)]).run Tryz.prog w = .ok (.value (.slice (some ⟨w.heap.size, 0, none⟩) n cs.size)) ((w.alloc (.cells cs 5)).drewN 2) := by
    rw [run_callFunc_extern Tryz.func43 (by kernel_rfl) (by kernel_rfl) (by kernel_rfl) (e := Extern.BytealgMakeNoZero.makeNoZero #[3] #[37]) (by kernel_rfl), hrunM]
    rfl
  clear hrunM
  have hcell := h
  have hbl := Lib.hid (lt_of_cell h); clear h
  have hn0 : ((n : Int) == 0) = false := by rw [beq_eq_false_iff_ne]; omega
  have hn1 : ¬ (n : Int) < 0 := by omega
  have hn3 : ¬ (8192 : Int) < (n : Int) := by omega
  have hn4 : ¬ (9223372036854775807 : Int) < (n : Int) := by omega
  have hle' : (n : Int) ≤ (cs.size : Int) := by omega
  have hnn : (0 : Int) ≤ (n : Int) := by omega
  have hin : (Tryz.prog.info? 5).map (·.size) = some 1 := by kernel_rfl
  have HIN := Lib.hid hin; clear hin
  obtain ⟨cur, hcur⟩ : ∃ cur : List Value, cs = cur.toArray := ⟨cs.toList, by simp⟩
  subst hcur
  have hcl : n ≤ cur.length := by simpa using hle
  go_enter Tryz.func30, Tryz.ntmps30
  have hstart : ((w.alloc (.cells cur.toArray 5)).drewN 2).heap[w.heap.size]? = some (.cells cur.toArray 5 (0, 0)) := by
    show (w.heap.push _)[w.heap.size]? = _
    rw [Array.getElem?_push, if_pos rfl]
  have HST := Lib.hid hstart; clear hstart
  have hbel : Below w.heap.size w ((w.alloc (.cells cur.toArray 5)).drewN 2) := below_drewN ((Below.refl _ _).alloc (Nat.le_refl _) _) 2
  have HBEL := Lib.hid hbel; clear hbel
  have hsrc : ∀ j v, [Value.int .u8 c][j]? = some v → ((w.alloc (.cells cur.toArray 5)).drewN 2).cell? ((⟨bb, 0, none⟩ : Addr).add j) = some v := by
    intro j v hj
    match j, hj with
    | 0, hj =>
      simp at hj; subst hj
      exact (HBEL.out.cell (p := ⟨bb, 0, none⟩) hbl.out).trans hcell
  have HSRC := Lib.hid hsrc; clear hsrc hcell
  go_wp2_with (first | (go_at_call 42; refine (mul_one_any _ hn2 _).mono ?_; rintro e w1 ⟨rfl, rfl⟩) | (with_reducible refine wpList_copy_splice rfl (.tmp 58) (.tmp 59) 37 37 rfl 5 Tryz.underlying37 HIN.out _ _ n n 1 cp rfl rfl w.heap.size 0 cur 5 HST.out [.int .u8 c] ?c1 (fun _ => ⟨rfl, _, rfl, HSRC.out⟩) ?c2 ?c3 w.heap.size w HBEL.out (Nat.le_refl _) ?_))
  case c1 => show 1 = min 1 n; omega
  case c2 => simp; omega
  case c3 => intro v hv; simp at hv; subst hv; rfl
  intro w1 hg1 hb1
  have HR1 : Hid (RowAt w1 w.heap.size n 1 c) := by
    refine ⟨_, hg1.out, ?_, fun j hj => ?_⟩
    · rw [length_splice _ _ _ (by simp; omega)]; exact hcl
    · obtain rfl : j = 0 := by omega
      simp [splice]
  have HB1 := Lib.hid hb1
  clear hg1 hb1 HST HBEL HSRC hcall
  go_wp2_with fail
  go_loopw [10] (fun i wr => ∃ m : Nat, i = .int .i64 m ∧ 1 ≤ m ∧ m ≤ n ∧ Hid (RowAt wr w.heap.size n m c) ∧ Hid (Below w.heap.size w wr)) (fun i _ => n - (intOf i).toNat)
  case atStart => exact ⟨1, rfl, by omega, by omega, HR1, HB1⟩
  case round =>
    obtain ⟨m, rfl, hm1, hm2, HR, HB⟩ := hrel
    by_cases hlt : m < n
    · obtain ⟨cur2, hcur2, hcl2, hall⟩ := HR.out
      have HC2 := Lib.hid hcur2; clear hcur2
      have HALL := Lib.hid hall; clear hall
      obtain ⟨q, hq1, hq2, hq3⟩ : ∃ q : Nat, Hid (q = Nat.min m (n - m)) ∧ 1 ≤ q ∧ m + q ≤ n := ⟨Nat.min m (n - m), Lib.hid rfl, by show 1 ≤ min m (n - m); omega, by show m + min m (n - m) ≤ n; omega⟩
      have hsp := Lib.hid (splice_row (c := c) hcl2 HALL.out hq3)
      have hmn : min (m : Int) (n : Int) = (m : Int) := by omega
      have hne : ¬ n = m := by omega
      have hsrc : ∀ (wd : World) j v, wd.heap = wr.heap → (List.replicate q (Value.int .u8 c))[j]? = some v → wd.cell? ((⟨w.heap.size, 0, none⟩ : Addr).add j) = some v := by
        intro wd j v hwd hj
        have hjq : j < q := by
          rcases Nat.lt_or_ge j q with h | h
          · exact h
          · rw [List.getElem?_eq_none (by simpa using h)] at hj; cases hj
        have e : (⟨w.heap.size, 0, none⟩ : Addr).add j = ⟨w.heap.size, j, none⟩ := by unfold Addr.add; split <;> simp_all
        have hjm : j < m := by have := hq1.out; have h2 : Nat.min m (n - m) ≤ m := Nat.min_le_left _ _; omega
        rw [e, Lib.cell_of_heap (cs := cur2.toArray) (T := 5) (fr := (0, 0)) (by rw [hwd]; exact HC2.out)]
        have h1 := HALL.out j hjm
        rw [List.getElem?_replicate, if_pos hjq] at hj
        cases hj
        simpa using h1
      have HSRC := Lib.hid hsrc; clear hsrc
      have hone : ∀ v ∈ List.replicate q (Value.int .u8 c), v.oneCell' = true := fun v hv => by rw [List.eq_of_mem_replicate hv]; rfl
      have HONE := Lib.hid hone; clear hone
      have hfit : m + (List.replicate q (Value.int .u8 c)).length ≤ cur2.length := by rw [List.length_replicate]; omega
      have HFIT := Lib.hid hfit; clear hfit
      have hnq : (List.replicate q (Value.int .u8 c)).length = Nat.min m (n - m) := by rw [List.length_replicate]; exact hq1.out
      have HNQ := Lib.hid hnq; clear hnq
      have hlen : (List.replicate q (Value.int .u8 c)).length = q := List.length_replicate
      have HLEN := Lib.hid hlen; clear hlen
      have hsp2 := hsp
      generalize List.replicate q (Value.int .u8 c) = news at *
      go_wp2_with fail
      go_region_law (refine step_copy_splice rfl (.tmp 70) (.tmp 73) 37 37 rfl 5 Tryz.underlying37 HIN.out (some ⟨w.heap.size, m, none⟩) (some ⟨w.heap.size, 0, none⟩) (n - m) (n - m) m n (by kernel_rfl) (by kernel_rfl) w.heap.size m cur2 5 HC2.out news HNQ.out (fun _ => ⟨rfl, _, rfl, fun j v hj => HSRC.out _ j v rfl hj⟩) HFIT.out HONE.out w.heap.size w HB.out.drew (Nat.le_refl _) ?_; intro w4 hg4 hb4; rw [HLEN.out])
      have HB4 := Lib.hid hb4; clear hb4
      go_simp
      go_wp2_with fail
      go_roundw
      case rel =>
        rw [IntWalk.i64_in _ (by omega)]
        exact ⟨m + q, by go_num, by omega, by omega, ⟨_, hg4.out, hsp2.out.1, hsp2.out.2⟩, HB4⟩
      case measure =>
        rw [IntWalk.i64_in _ (by omega)]
        simp [intOf] <;> omega
    · obtain rfl : m = n := by omega
      go_wp2_with fail
      go_ret
      exact ⟨w.heap.size, rfl, Nat.le_refl _, HR.out, HB.out⟩

end Go.Proofs.YtcgaaadcbhkfoaaGreatDoor
