/- The walk of Feed. -/
import Derived.Test.YtcgaaadcbhkfoaaGreatDoorVtH
namespace Go.Proofs.YtcgaaadcbhkfoaaGreatDoor
open Go Go.Proofs Go.RowKit Go.Ink

theorem erase_par (u : Tm) (b : Bool) (h : Int) : (u.erase b h).par = u.par := by
  unfold Tm.erase
  by_cases h1 : h ≠ 0 ∧ h ≠ 2
  · rw [if_pos h1]
  · rw [if_neg h1]
    by_cases h2 : b = true ∧ h = 2
    · rw [if_pos h2]
    · rw [if_neg h2]
theorem byte_par_len (t : Tm) (c : UInt8) : (t.byte c).par.length ≤ t.par.length + 1 := by
  have hc : ∀ (u : Tm) (c : UInt8) (l : List Int), (u.command c l).par = u.par := by
    intro u c l
    unfold Tm.command
    split
    · rfl
    · simp only
      repeat' split
      all_goals first | rfl | exact erase_par _ _ _
  have hp : ∀ (u : Tm) (c : UInt8), (u.plain c).par = u.par := by
    intro u c
    unfold Tm.plain Tm.down
    repeat' split
    all_goals rfl
  unfold Tm.byte
  split
  · simp
  · split
    · rw [hp]; omega
    · split
      · simp
      · split
        · simp
        · split
          · split
            · simp
            · rw [hc]; simp
          · simp
theorem feed_par_len (t : Tm) : ∀ s : List UInt8, (t.feed s).par.length ≤ t.par.length + s.length := by
  intro s
  induction s generalizing t with
  | nil => simp [Tm.feed]
  | cons c s ih =>
    have h1 := ih (t.byte c)
    have h2 := byte_par_len t c
    show ((t.byte c).feed s).par.length ≤ _
    simp only [List.length_cons]; omega
theorem feed_next {t : Tm} {s : List UInt8} {k : Nat} {c : UInt8} (h : s[k]? = some c) : t.feed (s.take (k + 1)) = (t.feed (s.take k)).byte c := by
  rw [List.take_add_one, h, Tm.feed_append]; rfl
theorem MaxAt.kept {S : Nat → Prop} {w w' : World} (h : MaxAt w) (hk : KeepT S w w') (hn : ¬ S 0) : MaxAt w' := by
  obtain ⟨m, h⟩ := h
  exact ⟨m, (hk.cell (p := ⟨_, 0, none⟩) (lt_of_cell h) hn).trans h⟩
theorem vtS_ge {B : Nat} {w : World} {v gr cap ga : Nat} {os : List Nat} {pv : Value} {t : Tm} (h : VtAt B w v gr cap ga os pv t) : ∀ i, VtS v gr ga pv i → B ≤ i := by
  intro i e
  have hl := h.less
  rcases e with e | e | e | e
  · omega
  · omega
  · omega
  · have := h.own i e; omega
set_option maxRecDepth 100000 in
/-- The next byte's function, and what it makes of the terminal. -/
theorem next_any {B : Nat} {w : World} {v gr cap ga : Nat} {os : List Nat} {pv : Value} {t : Tm} (h : VtAt B w v gr cap ga os pv t) (hg : t.Good) (c : UInt8) (hc : c ≠ 27) (hl : t.par.length ≤ 1000000) (hm : MaxAt w) (hB : 0 < B) :
    ∃ F, (F = 25 ∨ F = 27 ∨ F = 38) ∧ escV t.esc = .func (.func F) #[] #[] ∧ Calls Tryz.prog F #[.pointer (some ⟨v, 0, none⟩), .int .u8 (c.toNat : Int)] w fun e w' => e = .returned (.tuple #[]) ∧ VtStep B w v gr cap ga pv (t.byte c) w' := by
  have hb : t.byte c = if t.esc = 0 then t.plain c else if t.esc = 1 then { t with esc := if c = 91 then 2 else 0 } else if 32 ≤ c ∧ c ≤ 63 then { t with par := t.par ++ [c] }
      else if 64 ≤ c ∧ c ≤ 126 then (match numsT t.par (-1) with | none => { t with esc := 0 } | some l => ({ t with esc := 0 } : Tm).command c l) else { t with esc := 0 } := by
    unfold Tm.byte; rw [if_neg hc]; rfl
  rw [hb]
  by_cases h0 : t.esc = 0
  · rw [if_pos h0, h0]
    exact ⟨_, .inl rfl, rfl, plain_any c h hg⟩
  · by_cases h1 : t.esc = 1
    · rw [if_neg h0, if_pos h1, h1]
      refine ⟨_, .inr (.inl rfl), rfl, (begun_any v c w h.cells.2.2.2.2.2.2.1 (h.cells.2.2.2.2.2.2.2 6)).mono ?_⟩
      rintro e w' ⟨he, hw⟩
      refine ⟨he, ?_⟩
      subst hw
      have a1 := plain_next h
      by_cases h91 : c = 91
      · rw [if_pos h91, if_pos h91]
        exact VtStep.same (a1.1.setv 6 (escV 2) { t with esc := 2 } rfl rfl rfl rfl rfl) (a1.2.setCell (.inl (.inl rfl)) _)
      · rw [if_neg h91, if_neg h91]
        exact VtStep.same a1.1 a1.2
    · have hF : escV t.esc = .func (.func 38) #[] #[] := by
        generalize t.esc = e at *
        match e, h0, h1 with
        | 0, h0, _ => exact absurd rfl h0
        | 1, _, h1 => exact absurd rfl h1
        | n + 2, _, _ => rfl
      refine ⟨_, .inr (.inr rfl), hF, ?_⟩
      rw [if_neg h0, if_neg h1]
      by_cases hp : 32 ≤ c ∧ c ≤ 63
      · rw [if_pos hp]; exact within_par h c hp hl
      · rw [if_neg hp]; exact within_end h hg c hp hl hm hB
/-- An escape begins. -/
theorem esc_mem {B : Nat} {w : World} {v gr cap ga : Nat} {os : List Nat} {pv : Value} {t : Tm} (h : VtAt B w v gr cap ga os pv t) :
    VtStep B w v gr cap ga pv (t.byte 27) ((w.setCell ⟨v, 5, none⟩ (.slice none 0 0)).setCell ⟨v, 6, none⟩ (escV 1)) := by
  rw [byte_esc]
  have hl := h.less
  obtain ⟨a1, a2, a3, ⟨b1, b2, b3, b4⟩, a5⟩ := h
  refine ⟨os, .slice none 0 0, ⟨?_, ?_, World.ownsRow_nil _ _ _ _, ⟨b1, b2, b3, b4⟩, a5⟩, ((KeepT.refl _ _).setCell (.inl (.inl rfl)) _).setCell (.inl (.inl rfl)) _, fun k e => by cases e⟩
  · rw [heap_set (heap_set a1 _) _]; rfl
  · exact a2.later ((Below.heap_setCell _ _ _ _ (by simp only []; omega)).trans (Below.heap_setCell _ _ _ _ (by simp only []; omega))) ((Below.heap_setCell _ _ _ _ (by simp only []; omega)).trans (Below.heap_setCell _ _ _ _ (by simp only []; omega)))
set_option maxRecDepth 100000 in
set_option maxHeartbeats 400000 in
/-- Bytes are written. -/
theorem feed_any {B : Nat} {w : World} {v gr cap ga : Nat} {os : List Nat} {pv : Value} {t : Tm} (h : VtAt B w v gr cap ga os pv t) (hg : t.Good) (s : List UInt8) (hl : t.par.length + s.length ≤ 1000000) (hm : MaxAt w) (hB : 0 < B) :
    Calls Tryz.prog 10 #[.pointer (some ⟨v, 0, none⟩), .string ⟨s.toArray⟩] w fun e w' => e = .returned (.int .i64 0) ∧ VtStep B w v gr cap ga pv (t.feed s) w' := by
  have hsm : s.length ≤ 1000000 := by omega
  have HSZ := Lib.hid (size_mk s)
  have c6 := h.cells.2.2.2.2.2.2.1
  have HS := Lib.hid (vtS_ge h)
  have H0 := Lib.hid (show VtStep B w v gr cap ga pv (t.feed (s.take 0)) w from by rw [List.take_zero]; exact VtStep.same h (KeepT.refl _ _))
  have HN := Lib.hid (none_any v t.esc w c6)
  have HG := Lib.hid (fun k => hg.feed (s.take k))
  have HM := Lib.hid hm
  have HL := Lib.hid (fun k => feed_par_len t (s.take k))
  clear h hg hm c6
  go_enter Tryz.func10, Tryz.ntmps10
  go_wp2_with fail
  refine HN.out.mono ?_
  rintro e w1 ⟨rfl, hw1⟩
  subst hw1
  go_wp2_with fail
  go_loopw [10] (fun i wr => ∃ k : Nat, i = .int .i64 k ∧ k ≤ s.length ∧ Hid (VtStep B w1 v gr cap ga pv (t.feed (s.take k)) wr)) (fun i _ => s.length - (intOf i).toNat)
  case atStart => exact ⟨0, rfl, by omega, H0⟩
  case round =>
    obtain ⟨k, rfl, hk, HV⟩ := hrel
    by_cases hlt : k < s.length
    · obtain ⟨c, hc⟩ : ∃ c, s[k]? = some c := ⟨_, List.getElem?_eq_getElem hlt⟩
      have hby : ∀ h, (⟨s.toArray⟩ : ByteArray)[k]'h = c := by
        intro h
        have := (List.getElem?_eq_some_iff.1 hc).2
        simpa [ByteArray.getElem_eq_getElem_data] using this
      obtain ⟨os1, pv1, hv1, hk1, hp1⟩ := HV.out
      obtain ⟨c0, c1, c2, c3, c4, c5, c6, cf⟩ := hv1.cells
      have cf5 := cf 5
      have cf6 := cf 6
      by_cases h27 : c = 27
      · have HE := Lib.hid (VtStep.trans HV.out (fun os1' pv1' ha => esc_mem ha))
        subst h27
        rw [← feed_next hc] at HE
        clear hv1 hk1 hp1 c0 c1 c2 c3 c4 cf hc
        go_wp2_with fail
        go_roundw
        case rel => exact ⟨k + 1, by go_num, by omega, HE⟩
        case measure => simp [intOf]; omega
      · obtain ⟨F, hF3, hF, hcall⟩ := next_any (hv1.drewN 1) (HG.out k) c h27 (by have := HL.out k; rw [List.length_take] at this; omega) (HM.out.kept (hk1.drewN 1) (fun e => by have := HS.out _ e; omega)) hB
        rw [hF] at c6
        have h27' : ((c.toNat : Int) == 27) = false := byte_ne 27 h27
        have HC := Lib.hid hcall
        have HE : Hid (∀ w', VtStep B (wr.drewN 1) v gr cap ga pv1 ((t.feed (s.take k)).byte c) w' → VtStep B w1 v gr cap ga pv (t.feed (s.take (k + 1))) w') := Lib.hid fun w' h => by
          rw [feed_next hc]
          obtain ⟨os2, pv2, a2, k2, p2⟩ := h
          obtain ⟨os1, pv1', a1, _, _⟩ := HV.out
          refine ⟨os2, pv2, a2, hk1.trans (KeepT.trans ((KeepT.refl _ _).drewN 1) k2 (fun _ _ e => e)) (fun i hi e => ?_), fun j e => ?_⟩
          · rcases e with e | e | e | e
            · exact .inl e
            · exact .inr (.inl e)
            · exact .inr (.inr (.inl e))
            · rcases hp1 i e with h | h
              · exact .inr (.inr (.inr h))
              · omega
          · rcases p2 j e with h | h
            · exact hp1 j h
            · exact .inr (Nat.le_trans hk1.size h)
        clear hv1 hk1 hp1 c0 c1 c2 c3 c4 c5 cf cf5 cf6 hcall hF hc
        rcases hF3 with rfl | rfl | rfl
        all_goals
          go_wp2_with fail
          go_still_tail 8, (by kernel_rfl)
          go_wp2_with fail
          refine HC.out.mono ?_
          rintro e w2 ⟨rfl, hv2⟩
          have HE2 := Lib.hid (HE.out _ hv2)
          clear hv2 HE HC
          go_wp2_with fail
          go_roundw
          case rel => exact ⟨k + 1, by go_num, by omega, HE2⟩
          case measure => simp [intOf]; omega
    · obtain rfl : k = s.length := by omega
      go_wp2_with fail
      go_returns
      exact ⟨rfl, by have := HV.out; rw [List.take_length] at this; exact this⟩
end Go.Proofs.YtcgaaadcbhkfoaaGreatDoor
