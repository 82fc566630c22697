/- The walk of LogsNone (chapter 18). -/
import Derived.Test.YtofllhipjaphfaaGreatDoorLg5
namespace Go.Proofs.YtofllhipjaphfaaGreatDoor
open Go Go.Proofs Go.Ev Go.RowKit Go.Ink

theorem putTs_few : ∀ (l : List (List UInt8)), (∀ x ∈ l, x.length ≤ 300) → (putTs l).length ≤ l.length * 400
  | [], _ => by simp [putTs]
  | t :: l, h => by
    have h1 := putTs_few l (fun x hx => h x (List.mem_cons_of_mem _ hx))
    have h2 := h t (List.mem_cons_self ..)
    have h3 := putN_le (t.length : Int) (by omega)
    simp only [putTs, putT, List.length_append, List.length_cons]
    omega
theorem putL_few {l : List (List UInt8)} (h : (l.length : Int) ≤ 20 ∧ ∀ x ∈ l, x.length ≤ 300) : (putL l).length ≤ 4000000 := by
  have h1 := putTs_few l h.2
  have h2 := putN_le (l.length : Int) (by omega)
  unfold putL
  rw [List.length_append]
  omega
set_option maxRecDepth 100000 in
set_option maxHeartbeats 2000000 in
theorem logsNone_law (base : List (List UInt8)) (l : List Spl) (ao al : Option Addr) (cap cal : Nat) (w : World) (hs : SlOf IsStr w ao cap base) (hl : SplOf w al cal l) (hw : Env18 w) :
    Calls Tryz.prog 3 #[.slice ao base.length cap, .slice al l.length cal] w fun r w' => r = .returned (.bool true) ∧ Below w.heap.size w w' := by
  have HS := Lib.hid hs
  have HL := Lib.hid hl
  have HW := Lib.hid hw
  have HBL := Lib.hid (beyondLines_any base ao cap 20 w hs)
  have hbA := (Below.refl w.heap.size w).alloc (Nat.le_refl _) (.cells #[.slice al l.length cal] 23)
  have HB18 := Lib.hid (beyond18_any l al cal w.heap.size _ (hl.later hbA) (by rw [Lib.cell_of_heap (heap_alloc_new _ _)]; rfl))
  have HBA := Lib.hid hbA
  clear hs hl hw hbA
  go_enter Tryz.func3, Tryz.ntmps3
  go_wp2_with fail
  refine HBL.out.mono ?_
  rintro e w1 ⟨⟨b, rfl, hq⟩, rfl⟩
  cases b
  case true =>
    clear hq
    go_wp2_with fail
    refine (lives_any HW.out).mono ?_
    rintro r w2 ⟨rfl, hb⟩
    go_wp2_with fail
    go_returns
    exact ⟨rfl, hb⟩
  have HQ := Lib.hid (putL_few (hq rfl))
  clear hq HBL
  go_wp2_with fail
  refine HB18.out.mono ?_
  rintro e w2 ⟨⟨b, rfl, -⟩, rfl⟩
  clear HB18
  cases b
  case true =>
    go_wp2_with fail
    refine (lives_any (HW.out.later HBA.out)).mono ?_
    rintro r w2 ⟨rfl, hb⟩
    have HB := Lib.hid (step2 HBA.out hb)
    clear hb
    go_wp2_with fail
    go_returns
    exact ⟨rfl, HB.out⟩
  go_wp2_with fail
  go_loopw [5, 6] (fun v i wr => ∃ k : Nat, i = .int .i64 (k : Int) ∧ k ≤ 2 ∧ Hid (NoLog wr v) ∧ Hid (Below w1.heap.size w1 wr)) (fun _ i _ => 2 - (intOf i).toNat)
  case atStart => exact ⟨0, rfl, by omega, Lib.hid (.inl rfl), HBA⟩
  case round =>
    obtain ⟨k, rfl, hk, HNO, HB⟩ := hrel
    clear HBA
    by_cases hlt : k < 2
    · have hki : (k : Int) < 2 := by omega
      have hk0 : (0 : Int) ≤ (k : Int) := by omega
      go_wp2_with fail
      refine (logAdd_any HNO.out _).mono ?_
      rintro e w1 ⟨rfl, rfl⟩
      go_wp2_with fail
      refine (logSync_any HNO.out).mono ?_
      rintro e w1 ⟨rfl, rfl⟩
      go_wp2_with fail
      go_round
      case rel => exact ⟨k + 1, by go_num, by omega, Lib.hid (.inr ⟨_, rfl, by rw [Lib.cell_of_heap (heap_alloc_new _ _)]; rfl⟩), Lib.hid (HB.out.alloc HB.out.size _)⟩
      case measure => simp [intOf]; omega
    have hki : ¬ (k : Int) < 2 := by omega
    clear HNO
    go_wp2_with fail
    refine (start_no (.inl ⟨rfl, rfl⟩) base ao cap (HS.out.later lasts_str HB.out) HQ.out (HW.out.later HB.out).f).mono ?_
    rintro e w2 ⟨rfl, hb2⟩
    have HB2 := Lib.hid (step2 HB.out hb2)
    clear hb2 HB
    go_wp2_with fail
    refine (fsNew_any _).mono ?_
    rintro e w3 ⟨rfl, hu, hb3⟩
    have HU := Lib.hid hu
    have HB3 := Lib.hid (step2 HB2.out hb3)
    have hg := HB2.out.size
    clear hb3 hu
    obtain ⟨g, hge⟩ : ∃ g, w2.heap.size = g := ⟨_, rfl⟩
    rw [hge] at HU hg ⊢
    have HGE := Lib.hid hge
    clear hge HB2
    go_wp2_with fail
    refine (stop_no (.inl ⟨rfl, rfl⟩)).mono ?_
    rintro e w4 ⟨rfl, hb4⟩
    have HU4 := Lib.hid (show FsUp w4 g from (hb4.block _ (lt_of_heap HU.out)).trans HU.out)
    have HB4 := Lib.hid (step2 HB3.out hb4)
    clear hb4 HB3 HU
    go_wp2_with fail
    refine (fsCrash_any HU4.out hg).mono ?_
    rintro e w5 ⟨rfl, hn, hb5⟩
    have HN := Lib.hid hn
    have HB5 := Lib.hid (HB4.out.trans hb5)
    clear hn hb5 HB4 HU4
    go_wp2_with fail
    refine (start_no HN.out base ao cap (HS.out.later lasts_str HB5.out) HQ.out (HW.out.later HB5.out).f).mono ?_
    rintro e w6 ⟨rfl, hb6⟩
    have HN6 := Lib.hid (HN.out.later hb6)
    have HB6 := Lib.hid (step2 HB5.out hb6)
    clear hb6 HN HB5
    go_wp2_with fail
    refine (recover_no HN6.out).mono ?_
    rintro e w7 ⟨rfl, rfl⟩
    go_wp2_with fail
    refine (stop_no HN6.out).mono ?_
    rintro e w8 ⟨rfl, hb8⟩
    have HB8 := Lib.hid (step2 HB6.out hb8)
    clear hb8 HB6 HN6
    go_wp2_with fail
    refine (lives_any (HW.out.later HB8.out)).mono ?_
    rintro e w9 ⟨rfl, hb9⟩
    have HB9 := Lib.hid (step2 HB8.out hb9)
    clear hb9
    go_wp2_with fail
    go_returns
    exact ⟨rfl, HB9.out⟩
end Go.Proofs.YtofllhipjaphfaaGreatDoor
