/- The reference's byte, Feed and New. -/
import Derived.Test.YtgfcnafhfgncoaaDoorRtH
import Derived.Test.YtgfcnafhfgncoaaDoorRefN
import Derived.Test.YtgfcnafhfgncoaaDoorNumber
import Derived.Test.YtgfcnafhfgncoaaDoorVtI
import Derived.Test.YtgfcnafhfgncoaaDoorVtP
namespace Go.Proofs.YtgfcnafhfgncoaaDoor
open Go Go.Proofs Go.RowKit Go.Ink

set_option maxRecDepth 100000 in
theorem refByte_esc {w : World} {r lo g cap : Nat} {bs : List (Nat × Nat)} {t : Tm} (h : RtAt w r lo g cap bs t) :
    Calls Tryd.prog 31 #[.pointer (some ⟨r, 0, none⟩), .int .u8 27] w fun e w' => e = .returned (.tuple #[]) ∧ RtStep w r lo g cap t.cells.length bs (t.byte 27) w' := by
  rw [byte_esc]
  obtain ⟨-, -, -, -, -, c5, c6⟩ := h.cells
  have f5 := h.free 5
  have f6 := h.free 6
  have HF := Lib.hid (h.two (t1 := { t with esc := 1 }) (t' := { t with esc := 1, par := [] }) (j := 5) (k := 6) (u := .int .i64 1) (v := .string ⟨#[]⟩) rfl rfl rfl rfl)
  clear h
  go_enter Tryd.func31, Tryd.ntmps31
  go_wp2_with fail
  go_returns
  exact ⟨rfl, HF.out⟩
set_option maxRecDepth 100000 in
theorem refByte_plain {w : World} {r lo g cap : Nat} {bs : List (Nat × Nat)} {t : Tm} (c : UInt8) (hc : c ≠ 27) (h0 : t.esc = 0) (h : RtAt w r lo g cap bs t) (hg : t.Good) :
    Calls Tryd.prog 31 #[.pointer (some ⟨r, 0, none⟩), .int .u8 (c.toNat : Int)] w fun e w' => e = .returned (.tuple #[]) ∧ RtStep w r lo g cap t.cells.length bs (t.byte c) w' := by
  rw [byte_plain t h0 c hc]
  obtain ⟨-, -, -, -, -, c5, c6⟩ := h.cells
  rw [h0] at c5
  have e27 : ((c.toNat : Int) == 27) = false := byte_ne 27 hc
  have HP := Lib.hid (refPlain_any c h hg)
  clear h hg hc h0
  go_enter Tryd.func31, Tryd.ntmps31
  go_wp2_with fail
  refine HP.out.mono ?_
  rintro e w1 ⟨rfl, hs⟩
  have HS := Lib.hid hs
  clear hs HP
  go_wp2_with fail
  go_returns
  exact ⟨rfl, HS.out⟩
set_option maxRecDepth 100000 in
theorem refByte_one {w : World} {r lo g cap : Nat} {bs : List (Nat × Nat)} {t : Tm} (c : UInt8) (hc : c ≠ 27) (h1 : t.esc = 1) (h : RtAt w r lo g cap bs t) :
    Calls Tryd.prog 31 #[.pointer (some ⟨r, 0, none⟩), .int .u8 (c.toNat : Int)] w fun e w' => e = .returned (.tuple #[]) ∧ RtStep w r lo g cap t.cells.length bs (t.byte c) w' := by
  have hb : t.byte c = { t with esc := if c = 91 then 2 else 0 } := by
    unfold Tm.byte; rw [if_neg hc, if_neg (by omega), if_pos h1]
  rw [hb]
  obtain ⟨-, -, -, -, -, c5, c6⟩ := h.cells
  have f5 := h.free 5
  rw [h1] at c5
  have e27 : ((c.toNat : Int) == 27) = false := byte_ne 27 hc
  have HF := Lib.hid (h.two (t1 := { t with esc := 0 }) (t' := { t with esc := 2 }) (j := 5) (k := 5) (u := .int .i64 0) (v := .int .i64 2) rfl rfl rfl rfl)
  have HG := Lib.hid (h.wordS (t' := { t with esc := 0 }) (j := 5) (u := .int .i64 0) rfl rfl)
  clear h hc h1 hb
  by_cases h91 : c = 91
  · subst h91
    rw [if_pos rfl]
    go_enter Tryd.func31, Tryd.ntmps31
    go_wp2_with fail
    go_returns
    exact ⟨rfl, HF.out⟩
  · rw [if_neg h91]
    have e91 : ((c.toNat : Int) == 91) = false := byte_ne 91 h91
    clear h91
    go_enter Tryd.func31, Tryd.ntmps31
    go_wp2_with fail
    go_returns
    exact ⟨rfl, HG.out⟩
set_option maxRecDepth 100000 in
set_option maxHeartbeats 1000000 in
theorem refByte_par {w : World} {r lo g cap : Nat} {bs : List (Nat × Nat)} {t : Tm} (c : UInt8) (hc : 32 ≤ c ∧ c ≤ 63) (h0 : t.esc ≠ 0) (h1 : t.esc ≠ 1) (hpl : t.par.length ≤ 1000000) (h : RtAt w r lo g cap bs t) :
    Calls Tryd.prog 31 #[.pointer (some ⟨r, 0, none⟩), .int .u8 (c.toNat : Int)] w fun e w' => e = .returned (.tuple #[]) ∧ RtStep w r lo g cap t.cells.length bs (t.byte c) w' := by
  have h27 : c ≠ 27 := by rintro rfl; exact absurd hc.1 (by decide)
  have hb : t.byte c = { t with par := t.par ++ [c] } := by
    unfold Tm.byte; rw [if_neg h27, if_neg h0, if_neg h1, if_pos hc]
  rw [hb]
  obtain ⟨-, -, -, -, -, c5, c6⟩ := h.cells
  have f6 := h.free 6
  have e27 : ((c.toNat : Int) == 27) = false := byte_ne 27 h27
  have ee0 : ((t.esc : Int) == 0) = false := by rw [beq_eq_false_iff_ne]; omega
  have ee1 : ((t.esc : Int) == 1) = false := by rw [beq_eq_false_iff_ne]; omega
  have hlo : (32 : Int) ≤ (c.toNat : Int) := byte_le 32 hc.1
  have hhi : (c.toNat : Int) ≤ 63 := by have := UInt8.le_iff_toNat_le.1 hc.2; have e : (63 : UInt8).toNat = 63 := rfl; omega
  have hml : ¬ 9223372036854775807 < t.par.length + ([c] : List UInt8).length := by simp; omega
  have H := Lib.hid h
  clear h hc hb h27
  go_enter Tryd.func31, Tryd.ntmps31
  go_wp2_with fail
  have hcv : (convert 39 9 (.slice (some ⟨w.heap.size, 0, none⟩) 1 1)).run Tryd.prog (w.alloc (.cells #[.int .u8 (c.toNat : Int)] 5)).drew = .ok (.string ⟨#[c]⟩) (w.alloc (.cells #[.int .u8 (c.toNat : Int)] 5)).drew := one_conv w.drew c
  have hrl := lt_of_cell c6
  have hne : ¬ r = w.heap.size := by have : r < w.heap.size := hrl; omega
  have d6 : (w.alloc (.cells #[.int .u8 (c.toNat : Int)] 5)).cell? ⟨r, 6, none⟩ = some (.string ⟨t.par.toArray⟩) := (((Below.refl w.heap.size w).alloc (Nat.le_refl _) _).cell (p := ⟨r, 6, none⟩) hrl).trans c6
  have g6 : (w.alloc (.cells #[.int .u8 (c.toNat : Int)] 5)).frozen? ⟨r, 6, none⟩ = false := (H.out.later ((Below.refl w.heap.size w).alloc (Nat.le_refl _) _)).free 6
  have hml' : ¬ 9223372036854775807 < t.par.length + 1 := by omega
  have HF : Hid (RtStep w r lo g cap t.cells.length bs { t with par := t.par ++ [c] } ((w.setCell ⟨r, 6, none⟩ (.string ((⟨t.par.toArray⟩ : ByteArray) ++ ⟨#[c]⟩))).alloc (.cells #[.int .u8 (c.toNat : Int)] 5)).drew) := Lib.hid (by
    rw [show ((⟨t.par.toArray⟩ : ByteArray) ++ ⟨#[c]⟩) = ⟨(t.par ++ [c]).toArray⟩ from mk_append t.par [c]]
    refine RtStep.same ((H.out.word (t' := { t with par := t.par ++ [c] }) (j := 6) rfl rfl).later (((Below.refl _ _).alloc (Nat.le_refl _) _).drew)) ?_
    exact ((((KeepT.refl _ w).setCell (.inl (.inl rfl)) _).alloc _).drew))
  go_region
  go_wp2_with fail
  go_returns
  exact ⟨rfl, HF.out⟩
set_option maxRecDepth 100000 in
set_option maxHeartbeats 1000000 in
theorem refByte_end {w : World} {r lo g cap : Nat} {bs : List (Nat × Nat)} {t : Tm} (c : UInt8) (h27 : c ≠ 27) (hc : ¬ (32 ≤ c ∧ c ≤ 63)) (h0 : t.esc ≠ 0) (h1 : t.esc ≠ 1) (hpl : t.par.length ≤ 1000000) (h : RtAt w r lo g cap bs t) (hg : t.Good) :
    Calls Tryd.prog 31 #[.pointer (some ⟨r, 0, none⟩), .int .u8 (c.toNat : Int)] w fun e w' => e = .returned (.tuple #[]) ∧ RtStep w r lo g cap t.cells.length bs (t.byte c) w' := by
  obtain ⟨T, hT⟩ : ∃ T, t.byte c = T := ⟨_, rfl⟩
  rw [hT]
  have hb := hT
  unfold Tm.byte at hb
  rw [if_neg h27, if_neg h0, if_neg h1, if_neg hc] at hb
  obtain ⟨-, -, -, -, -, c5, c6⟩ := h.cells
  have f5 := h.free 5
  have e27 : ((c.toNat : Int) == 27) = false := byte_ne 27 h27
  have ee0 : ((t.esc : Int) == 0) = false := by rw [beq_eq_false_iff_ne]; omega
  have ee1 : ((t.esc : Int) == 1) = false := by rw [beq_eq_false_iff_ne]; omega
  have HS := Lib.hid (h.wordS (t' := { t with esc := 0 }) (j := 5) (u := .int .i64 0) rfl rfl)
  have HA := Lib.hid (h.word (t' := { t with esc := 0 }) (j := 5) (u := .int .i64 0) rfl rfl)
  have HK : Hid (KeepT (RtS r g cap t.cells.length bs) w (w.setCell ⟨r, 5, none⟩ (.int .i64 0))) := Lib.hid ((KeepT.refl _ _).setCell (.inl (.inl rfl)) _)
  have hg0 : ({ t with esc := 0 } : Tm).Good := ⟨hg.rows, hg.cols, hg.many, hg.each, hg.cell, hg.row, hg.col⟩
  have HCM := Lib.hid (refCommand_any HA.out hg0 hpl c)
  by_cases hh : 64 ≤ c ∧ c ≤ 126
  · rw [if_pos hh] at hb
    have hlo : (64 : Int) ≤ (c.toNat : Int) := byte_le 64 hh.1
    have hlo2 : (32 : Int) ≤ (c.toNat : Int) := by omega
    have hhi : (c.toNat : Int) ≤ 126 := by have := UInt8.le_iff_toNat_le.1 hh.2; have e : (126 : UInt8).toNat = 126 := rfl; omega
    have hno : ¬ (c.toNat : Int) ≤ 63 := by omega
    have HT : Hid ((match numsT t.par (-1) with | none => ({ t with esc := 0 } : Tm) | some l => ({ t with esc := 0 } : Tm).command c l) = T) := Lib.hid hb
    clear h hc h27 hb hh hg hg0 h0 h1 hT
    go_enter Tryd.func31, Tryd.ntmps31
    go_wp2_with fail
    refine HCM.out.mono ?_
    rintro e w1 ⟨rfl, hs⟩
    have HS2 := Lib.hid (RtStep.behind HK.out hs)
    clear hs HCM
    go_wp2_with fail
    go_returns
    refine ⟨rfl, ?_⟩
    have := HS2.out
    rw [← HT.out]
    exact this
  · rw [if_neg hh] at hb
    subst hb
    have hn1 : ((32 : Int) ≤ (c.toNat : Int) → ¬ (c.toNat : Int) ≤ 63) := fun a b => hc ⟨UInt8.le_iff_toNat_le.2 (by show 32 ≤ c.toNat; omega), UInt8.le_iff_toNat_le.2 (by show c.toNat ≤ 63; omega)⟩
    have hn2 : ((64 : Int) ≤ (c.toNat : Int) → ¬ (c.toNat : Int) ≤ 126) := fun a b => hh ⟨UInt8.le_iff_toNat_le.2 (by show 64 ≤ c.toNat; omega), UInt8.le_iff_toNat_le.2 (by show c.toNat ≤ 126; omega)⟩
    clear h hc h27 hh hg hg0 h0 h1 hT HCM HA HK
    by_cases k1 : (32 : Int) ≤ (c.toNat : Int)
    · have k2 := hn1 k1
      have k3 : (64 : Int) ≤ (c.toNat : Int) := by omega
      have k4 := hn2 k3
      clear hn1 hn2
      go_enter Tryd.func31, Tryd.ntmps31
      go_wp2_with fail
      go_returns
      exact ⟨rfl, HS.out⟩
    · have k3 : ¬ (64 : Int) ≤ (c.toNat : Int) := by omega
      clear hn1 hn2
      go_enter Tryd.func31, Tryd.ntmps31
      go_wp2_with fail
      go_returns
      exact ⟨rfl, HS.out⟩
theorem refByte_any {w : World} {r lo g cap : Nat} {bs : List (Nat × Nat)} {t : Tm} (c : UInt8) (hpl : t.par.length ≤ 1000000) (h : RtAt w r lo g cap bs t) (hg : t.Good) :
    Calls Tryd.prog 31 #[.pointer (some ⟨r, 0, none⟩), .int .u8 (c.toNat : Int)] w fun e w' => e = .returned (.tuple #[]) ∧ RtStep w r lo g cap t.cells.length bs (t.byte c) w' := by
  by_cases h27 : c = 27
  · subst h27; exact refByte_esc h
  by_cases h0 : t.esc = 0
  · exact refByte_plain c h27 h0 h hg
  by_cases h1 : t.esc = 1
  · exact refByte_one c h27 h1 h
  by_cases hc : 32 ≤ c ∧ c ≤ 63
  · exact refByte_par c hc h0 h1 hpl h
  · exact refByte_end c h27 hc h0 h1 hpl h hg
set_option maxRecDepth 100000 in
set_option maxHeartbeats 1000000 in
theorem refFeed_any {w : World} {r lo g cap : Nat} {bs : List (Nat × Nat)} {t : Tm} (s : List UInt8) (hl : t.par.length + s.length ≤ 1000000) (h : RtAt w r lo g cap bs t) (hg : t.Good) :
    Calls Tryd.prog 15 #[.pointer (some ⟨r, 0, none⟩), .string ⟨s.toArray⟩] w fun e w' => e = .returned (.tuple #[]) ∧ RtStep w r lo g cap t.cells.length bs (t.feed s) w' := by
  have hsm : s.length ≤ 1000000 := by omega
  have HSZ := size_mk s
  have H0 := Lib.hid (show RtStep w r lo g cap t.cells.length bs (t.feed (s.take 0)) w from by rw [List.take_zero]; exact h.step)
  have HG := Lib.hid hg
  have HL := Lib.hid hl
  clear h hg hl
  go_enter Tryd.func15, Tryd.ntmps15
  go_wp2_with fail
  go_loopw [4] (fun i wr => ∃ k : Nat, i = .int .i64 k ∧ k ≤ s.length ∧ Hid (RtStep w r lo g cap t.cells.length bs (t.feed (s.take k)) wr)) (fun i _ => s.length - (intOf i).toNat)
  case atStart => exact ⟨0, rfl, by omega, H0⟩
  case round =>
    obtain ⟨k, rfl, hk, HR⟩ := hrel
    clear H0
    by_cases hlt : k < s.length
    · have hlti : (k : Int) < (s.length : Int) := by omega
      obtain ⟨c, hc⟩ : ∃ c, s[k]? = some c := ⟨_, List.getElem?_eq_getElem hlt⟩
      have hby : ∀ h, (⟨s.toArray⟩ : ByteArray)[k]'h = c := fun h => by
        obtain ⟨_, h2⟩ := List.getElem?_eq_some_iff.1 hc
        rw [← h2]; rfl
      have HNX := Lib.hid (feed_next (t := t) hc)
      have hpk : (t.feed (s.take k)).par.length ≤ 1000000 := by
        have h1 := feed_par_len t (s.take k)
        have h2 := HL.out
        rw [List.length_take] at h1
        omega
      have HP := Lib.hid hpk
      have HGK := Lib.hid (HG.out.feed (s.take k))
      clear hc hpk
      go_wp2_with fail
      obtain ⟨g1, cap1, bs1, a1, k1, p1⟩ := HR.out
      refine (refByte_any c HP.out a1 HGK.out).mono ?_
      rintro e w2 ⟨rfl, hs⟩
      have HR2 : Hid (RtStep w r lo g cap t.cells.length bs (t.feed (s.take (k + 1))) w2) := Lib.hid (by
        rw [HNX.out]
        obtain ⟨g2, cap2, bs2, a2, k2, p2⟩ := hs
        refine ⟨g2, cap2, bs2, a2, k1.trans k2 (fun i hi hs => ?_), fun i e => ?_⟩
        · rcases p1 i hs with h | h
          · exact h
          · omega
        · rcases p2 i e with h | h
          · exact p1 i h
          · exact .inr (Nat.le_trans k1.size h))
      clear a1 k1 p1 hs HR
      go_wp2_with fail
      go_roundw
      case rel => exact ⟨k + 1, by go_num, by omega, HR2⟩
      case measure => simp [intOf]; omega
    · obtain rfl : k = s.length := by omega
      go_wp2_with fail
      go_returns
      have := HR.out
      rw [List.take_length] at this
      exact ⟨rfl, this⟩
end Go.Proofs.YtgfcnafhfgncoaaDoor
/- The reference's New; a terminal and the reference's, side by side. -/
namespace Go.Proofs.YtgfcnafhfgncoaaDoor
open Go Go.Proofs Go.RowKit Go.Ink

def RtNew (w : World) (rows cols : Nat) (e : Ending) (w' : World) : Prop :=
  ∃ r lo g cap bs, e = .returned (.pointer (some ⟨r, 0, none⟩)) ∧ RtAt w' r lo g cap bs (Tm.start rows cols) ∧ w.heap.size ≤ lo ∧ Below w.heap.size w w'
set_option maxRecDepth 100000 in
set_option maxHeartbeats 400000 in
theorem rtNew_no (m n : Int) (w : World) (hno : sizedB m n = false) :
    Calls Tryd.prog 12 #[.int .i64 m, .int .i64 n] w fun e w' => e = .returned (.pointer none) ∧ Below w.heap.size w w' := by
  go_enter Tryd.func12, Tryd.ntmps12
  go_wp2_with fail
  refine (refNew_not m n w hno).mono ?_
  rintro e w1 ⟨rfl, hb⟩
  have HB := Lib.hid (hb.alloc hb.size (.cells #[.int .i64 0, .int .i64 0, .slice none 0 0, .int .i64 0, .int .i64 0] 34 (0, 0)))
  clear hb
  go_wp2_with fail
  go_returns
  exact ⟨rfl, HB.out⟩
set_option maxRecDepth 100000 in
set_option maxHeartbeats 400000 in
theorem rtNew_yes (rows cols : Nat) (w : World) (h1 : 2 ≤ rows) (h2 : rows ≤ 60) (h3 : 8 ≤ cols) (h4 : cols ≤ 132) :
    Calls Tryd.prog 12 #[.int .i64 rows, .int .i64 cols] w (RtNew w rows cols) := by
  go_enter Tryd.func12, Tryd.ntmps12
  go_wp2_with fail
  refine (refNewO rows cols w h1 h2 h3 h4).mono ?_
  rintro e w1 ⟨gr, cap, bs, rfl, ho, hb⟩
  have HF : Hid (RtNew w rows cols (.returned (.pointer (some ⟨w1.heap.size + 1, 0, none⟩))) ((w1.alloc (.cells #[.int .i64 (rows : Int), .int .i64 (cols : Int), .slice (some ⟨gr, 0, none⟩) rows cap, .int .i64 0, .int .i64 0] 34 (0, 0))).alloc (.cells #[.int .i64 (rows : Int), .int .i64 (cols : Int), .slice (some ⟨gr, 0, none⟩) rows cap, .int .i64 0, .int .i64 0, .int .i64 0, .string ⟨#[]⟩] 38 (0, 0)))) := Lib.hid (by
    have hb2 : Below w1.heap.size w1 ((w1.alloc (.cells #[.int .i64 (rows : Int), .int .i64 (cols : Int), .slice (some ⟨gr, 0, none⟩) rows cap, .int .i64 0, .int .i64 0] 34 (0, 0))).alloc (.cells #[.int .i64 (rows : Int), .int .i64 (cols : Int), .slice (some ⟨gr, 0, none⟩) rows cap, .int .i64 0, .int .i64 0, .int .i64 0, .string ⟨#[]⟩] 38 (0, 0))) := ((Below.refl _ _).alloc (Nat.le_refl _) _).alloc (by simp) _
    have hs : (w1.alloc (.cells #[.int .i64 (rows : Int), .int .i64 (cols : Int), .slice (some ⟨gr, 0, none⟩) rows cap, .int .i64 0, .int .i64 0] 34 (0, 0))).heap.size = w1.heap.size + 1 := by simp
    have hlen : (Tm.start rows cols).cells.length = rows := by simp [Tm.start]
    have hsz := hb.size
    have hlt := ho.lt
    refine ⟨w1.heap.size + 1, w.heap.size + 2, gr, cap, bs, rfl, ⟨?_, ?_, ?_, ?_⟩, by omega, hb.trans (hb2.mono hsz)⟩
    · rw [hlen, ← hs]; exact heap_alloc_new _ _
    · rw [hlen]; exact ho.later hb2
    · rw [hlen]; intro e; have := (hlt _ e).2; omega
    · have := (hlt gr (.inl rfl)); omega)
  clear ho hb
  go_wp2_with fail
  go_returns
  exact HF.out
/-- A terminal and the reference's, which share no block. -/
structure BothP (w0 w : World) (B v : Nat) (t1 : Tm) (S : Nat → Prop) (r lo g cap : Nat) (bs : List (Nat × Nat)) (t2 : Tm) : Prop where
  one : OneP w0 w B v t1 S
  ref : RtAt w r lo g cap bs t2
  good : t2.Good
  ap : ∀ i, S i → ¬ RtS r g cap t2.cells.length bs i
  lo : B ≤ lo
theorem BothP.later {w0 w w' : World} {B v : Nat} {t1 : Tm} {S : Nat → Prop} {r lo g cap : Nat} {bs : List (Nat × Nat)} {t2 : Tm} (h : BothP w0 w B v t1 S r lo g cap bs t2) (hb : Below w.heap.size w w') : BothP w0 w' B v t1 S r lo g cap bs t2 :=
  ⟨h.one.later hb, h.ref.later hb, h.good, h.ap, h.lo⟩
theorem BothP.fed {w0 w w' : World} {B v : Nat} {t1 : Tm} {S S' : Nat → Prop} {r lo g cap : Nat} {bs : List (Nat × Nat)} {t2 : Tm} {s : List UInt8} (h : BothP w0 w B v t1 S r lo g cap bs t2) (hf : FedP w B v (t1.feed s) S w' S') : BothP w0 w' B v (t1.feed s) S' r lo g cap bs t2 :=
  ⟨h.one.fed hf, h.ref.kept hf.keep (fun i hi hs => h.ap i hs hi), h.good, fun i e e2 => by
    rcases hf.new i e with h' | h'
    · exact h.ap i h' e2
    · have := (h.ref.lts i e2).2; omega, h.lo⟩
theorem BothP.ran {w0 w w' : World} {B v : Nat} {t1 : Tm} {S : Nat → Prop} {r lo g cap : Nat} {bs : List (Nat × Nat)} {t2 : Tm} (s : List UInt8) (h : BothP w0 w B v t1 S r lo g cap bs t2) (hs : RtStep w r lo g cap t2.cells.length bs (t2.feed s) w') : ∃ g' cap' bs', BothP w0 w' B v t1 S r lo g' cap' bs' (t2.feed s) := by
  obtain ⟨g', cap', bs', h1, h2, h3⟩ := hs
  refine ⟨g', cap', bs', h.one.kept h2 (fun i e => h.ap i e) (fun i e => Nat.le_trans h.lo (h.ref.lts i e).1), h1, h.good.feed s, fun i e e2 => ?_, h.lo⟩
  rcases h3 i e2 with h' | h'
  · exact h.ap i e h'
  · have := h.one.slt i e; omega
end Go.Proofs.YtgfcnafhfgncoaaDoor
