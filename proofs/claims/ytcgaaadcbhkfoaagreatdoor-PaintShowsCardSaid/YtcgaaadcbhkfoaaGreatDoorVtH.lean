/- The walk of within: a byte of an escape's parameters, or its command. -/
import Derived.Test.YtcgaaadcbhkfoaaGreatDoorVtG
import Derived.Test.YtcgaaadcbhkfoaaGreatDoorConv
import Derived.Maps.AppendAt
namespace Go.Proofs.YtcgaaadcbhkfoaaGreatDoor
open Go Go.Proofs Go.RowKit Go.Ink

theorem byte1_info : (Tryz.prog.info? 5).map (fun i => (i.zero, i.size, i.bytes)) = some (some (.int .u8 0), 1, 1) := by kernel_rfl
def byteVs (l : List UInt8) : List Value := l.map fun c => .int .u8 (c.toNat : Int)
theorem own_bytes {w : World} {B : Nat} {v : Value} {l : List UInt8} (h : w.ownsRow B 5 1 v l.length (byteVs l)) : ∃ ao cap, v = .slice ao l.length cap ∧ SlOf IsByte w ao cap l := by
  rcases h.2 with ⟨rfl, h0⟩ | ⟨g, cap, cur, rfl, hg, hh, h1, h2, h3, h4⟩
  · have : l = [] := List.eq_nil_of_length_eq_zero h0
    subst this
    exact ⟨none, 0, rfl, by simp, by simp [maxLen], fun _ => rfl, fun k x h => by simp at h⟩
  · refine ⟨_, _, rfl, h1, h2, by simp, fun k c hk => ⟨g, 0, _, rfl, ?_, rfl⟩⟩
    rw [Lib.cell_of_heap hh, Nat.zero_add]
    have hkl := (List.getElem?_eq_some_iff.1 hk).1
    have h5 : (cur.toList.take (l.length * 1))[k]? = (byteVs l)[k]? := by rw [h4]
    rw [List.getElem?_take, if_pos (by omega)] at h5
    simpa [byteVs, hk] using h5
/-- What a byte of the parameters leaves. -/
theorem par_mem {B : Nat} {w w2 : World} {v gr cap ga : Nat} {os : List Nat} {pv pv' : Value} {t : Tm} {c : UInt8} {o : Obj} (h : VtAt B w v gr cap ga os pv t)
    (hown : w2.ownsRow (v + 1) 5 1 pv' (t.par.length + 1) ((t.par.map fun c => Value.int .u8 (c.toNat : Int)) ++ [.int .u8 (c.toNat : Int)])) (hgr : (w.alloc o).grownBy w2 pv.ownBlock) (hat : pv'.ownBlock = pv.ownBlock ∨ pv'.ownBlock = some (w.heap.size + 1)) :
    VtStep B w v gr cap ga pv { t with par := t.par ++ [c] } (w2.setCell ⟨v, 5, none⟩ pv') := by
  have hk : KeepT (VtS v gr ga pv) w w2 := ((KeepT.refl _ _).alloc o).grown hgr (fun k e => .inl (.inr (.inr (.inr e))))
  have hlt := h.own
  have hl := h.less
  have hold : ∀ i, i < w.heap.size → i ≤ v → w2.heap[i]? = w.heap[i]? := fun i h1 h2 => by
    refine (hgr.block i (by simp; omega) (fun e => ?_)).trans (Below.heap_alloc w o i h1)
    have := hlt i e.symm; omega
  have hv := lt_of_heap h.head
  obtain ⟨b1, b2, b3, b4⟩ := hl
  refine ⟨os, pv', ⟨?_, ?_, ?_, ⟨b1, b2, b3, b4⟩, h.fits⟩, hk.setCell (.inl (.inl rfl)) _, fun k e => ?_⟩
  · rw [heap_set ((hold v hv (Nat.le_refl _)).trans h.head)]; rfl
  · exact h.grid.later ((Below.heap_setCell _ _ _ _ (by simp only []; omega)).trans (hold gr (by omega) (by omega))) ((Below.heap_setCell _ _ _ _ (by simp only []; omega)).trans (hold ga (by omega) (by omega)))
  · have := ownsRow_setCell_below hown (a := ⟨v, 5, none⟩) (by simp) pv'
    simpa using this
  · rcases hat with e' | e'
    · exact .inl (e'.symm.trans e)
    · rw [e'] at e; injection e with e; exact .inr (by omega)
set_option maxRecDepth 100000 in
/-- A byte of the parameters. -/
theorem within_par {B : Nat} {w : World} {v gr cap ga : Nat} {os : List Nat} {pv : Value} {t : Tm} (h : VtAt B w v gr cap ga os pv t) (c : UInt8) (hc : 32 ≤ c ∧ c ≤ 63) (hl : t.par.length ≤ 1000000) :
    Calls Tryz.prog 38 #[.pointer (some ⟨v, 0, none⟩), .int .u8 (c.toNat : Int)] w fun e w' => e = .returned (.tuple #[]) ∧ VtStep B w v gr cap ga pv { t with par := t.par ++ [c] } w' := by
  obtain ⟨i0, hi, hz0, hz1, hz2⟩ := info_parts byte1_info
  have hlo : (32 : Int) ≤ (c.toNat : Int) := byte_le 32 hc.1
  have hhi : (c.toNat : Int) ≤ 63 := by have := UInt8.le_iff_toNat_le.1 hc.2; have e : (63 : UInt8).toNat = 63 := rfl; omega
  obtain ⟨c0, c1, c2, c3, c4, c5, c6, cf⟩ := h.cells
  have cf5 := cf 5
  have hvl := lt_of_heap h.head
  have HOWN := Lib.hid h.par
  have H := Lib.hid h
  clear h c0 c1 c2 c3 c4 c6 cf hc
  go_enter Tryz.func38, Tryz.ntmps38
  go_wp2_with (at_builtin; refine wpList_append_own_at _ rfl _ _ 37 rfl (v + 1) 5 i0 (.int .u8 0) 1 1 Tryz.underlying37 hi hz0 hz1 hz2 rfl (by decide) _ _ _ rfl (HOWN.out.alloc _) ⟨w.heap.size, 0, none⟩ 1 1 [.int .u8 (c.toNat : Int)] rfl rfl (news_one _ _ _) (news_ok rfl) (by unfold maxLen; omega) (by omega) (by simp; omega) ?_)
  intro pv' w2 hown' hgrow _ hat
  obtain ⟨aop, cpp, rfl⟩ := ownsRow_shape hown'
  have HS := Lib.hid (par_mem (c := c) H.out hown' hgrow hat)
  have hv2 : w2.heap[v]? = w.heap[v]? := (hgrow.block v (by simp; omega) (fun e => by have := H.out.own v e.symm; omega)).trans (Below.heap_alloc w _ v hvl)
  have hv3 := hv2.trans H.out.head
  have d5 : w2.cell? ⟨v, 5, none⟩ = some pv := by rw [Lib.cell_of_heap hv3]; rfl
  have df5 := Lib.frozen_of_heap hv3 5
  clear hown' hgrow hat hv2 hv3 HOWN
  go_wp2_with fail
  go_returns
  exact ⟨rfl, HS.out⟩
/-- The next byte is no part of an escape. -/
theorem plain_next {B : Nat} {w : World} {v gr cap ga : Nat} {os : List Nat} {pv : Value} {t : Tm} (h : VtAt B w v gr cap ga os pv t) :
    VtAt B (w.setCell ⟨v, 6, none⟩ (escV 0)) v gr cap ga os pv { t with esc := 0 } ∧ KeepT (VtS v gr ga pv) w (w.setCell ⟨v, 6, none⟩ (escV 0)) :=
  ⟨h.setv 6 _ { t with esc := 0 } rfl rfl rfl rfl rfl, (KeepT.refl _ _).setCell (.inl (.inl rfl)) _⟩
theorem VtAt.lts {B : Nat} {w : World} {v gr cap ga : Nat} {os : List Nat} {pv : Value} {t : Tm} (h : VtAt B w v gr cap ga os pv t) : ∀ i, VtS v gr ga pv i → i < w.heap.size := by
  intro i e
  have hl := h.less
  have hv := lt_of_heap h.head
  rcases e with e | e | e | e
  · omega
  · omega
  · omega
  · exact (h.par.lt i e).2
theorem numsP_in {s : List UInt8} {l : List Int} (h : numsP s = some l) : l ≠ [] ∧ (∀ a ∈ l, -1 ≤ a ∧ a ≤ 9999) ∧ l.length ≤ s.length + 1 := by
  unfold numsP at h
  split at h
  · injection h with h
    subst h
    refine ⟨fun e => segs_ne s (List.map_eq_nil_iff.1 e), fun a ha => ?_, ?_⟩
    · simp only [List.mem_map] at ha
      obtain ⟨d, _, rfl⟩ := ha
      exact seg_in
    · rw [List.length_map, ← split_len]
      have := Lib.countB_le ⟨#[59]⟩ (by decide) _ ⟨s.toArray⟩ (Nat.le_refl _)
      rw [size_mk] at this
      omega
  · cases h
set_option maxRecDepth 100000 in
set_option maxHeartbeats 400000 in
/-- A byte that ends an escape. -/
theorem within_end {B : Nat} {w : World} {v gr cap ga : Nat} {os : List Nat} {pv : Value} {t : Tm} (h : VtAt B w v gr cap ga os pv t) (hg : t.Good) (c : UInt8) (hc : ¬ (32 ≤ c ∧ c ≤ 63)) (hl : t.par.length ≤ 1000000) (hm : MaxAt w) (hB : 0 < B) :
    Calls Tryz.prog 38 #[.pointer (some ⟨v, 0, none⟩), .int .u8 (c.toNat : Int)] w fun e w' => e = .returned (.tuple #[]) ∧ VtStep B w v gr cap ga pv
      (if 64 ≤ c ∧ c ≤ 126 then (match numsT t.par (-1) with | none => { t with esc := 0 } | some l => ({ t with esc := 0 } : Tm).command c l) else { t with esc := 0 }) w' := by
  rw [numsP_eq]
  obtain ⟨aop, cpp, rfl, hsl⟩ := own_bytes h.par
  obtain ⟨h1, hk1⟩ := plain_next h
  have hm1 : MaxAt (w.setCell ⟨v, 6, none⟩ (escV 0)) := by
    obtain ⟨m, hm⟩ := hm
    exact ⟨m, (hk1.cell (p := ⟨_, 0, none⟩) (lt_of_cell hm) (fun e => by
      have hl := h.less
      rcases e with e | e | e | e
      · simp only [] at e; omega
      · simp only [] at e; omega
      · simp only [] at e; omega
      · have := h.own _ e; simp only [] at this; omega)).trans hm⟩
  have hcv : (convert 37 9 (.slice aop t.par.length cpp)).run Tryz.prog (w.setCell ⟨v, 6, none⟩ (.func (.func 25) #[] #[])) = .ok (.string ⟨t.par.toArray⟩) (w.setCell ⟨v, 6, none⟩ (.func (.func 25) #[] #[])) := by
    have hk2 : KeepT (fun k => k = v) w (w.setCell ⟨v, 6, none⟩ (escV 0)) := (KeepT.refl (fun k => k = v) w).setCell (p := ⟨v, 6, none⟩) (.inl rfl) _
    have hsl1 : SlOf IsByte (w.setCell ⟨v, 6, none⟩ (escV 0)) aop cpp t.par := hsl.kept hk2 (fun b off e hs => by
      have := h.own b (by rw [e]; rfl); omega) (fun _ _ h => h)
    exact hsl1.convert Tryz.underlying37 Tryz.underlying5 Tryz.underlying9 (Below.refl _ _)
  obtain ⟨T', hT⟩ : ∃ T', (if 64 ≤ c ∧ c ≤ 126 then (match numsP t.par with | none => { t with esc := 0 } | some l => ({ t with esc := 0 } : Tm).command c l) else { t with esc := 0 }) = T' := ⟨_, rfl⟩
  rw [hT]
  have HT1 : Hid (numsP t.par = none ∨ ¬ (64 ≤ c ∧ c ≤ 126) → T' = { t with esc := 0 }) := Lib.hid fun h => by
    rw [← hT]
    rcases h with h | h
    · rw [h]; split <;> rfl
    · rw [if_neg h]
  have HT2 : Hid (∀ l, numsP t.par = some l → 64 ≤ c ∧ c ≤ 126 → T' = ({ t with esc := 0 } : Tm).command c l) := Lib.hid fun l h h' => by
    rw [← hT, if_pos h', h]
  have HG1 : Hid (({ t with esc := 0 } : Tm).Good) := Lib.hid (hg.esc 0 t.par)
  have hci : (64 ≤ c ∧ c ≤ 126) ↔ ((64 : Int) ≤ (c.toNat : Int) ∧ (c.toNat : Int) ≤ 126) := by
    rw [UInt8.le_iff_toNat_le, UInt8.le_iff_toNat_le]
    show (64 ≤ c.toNat ∧ c.toNat ≤ 126) ↔ _
    omega
  have HCI := Lib.hid hci
  clear hT hci hg
  obtain ⟨c0, c1, c2, c3, c4, c5, c6, cf⟩ := h.cells
  have cf6 := cf 6
  have HV := Lib.hid h1
  have HK := Lib.hid hk1
  have HM := Lib.hid hm1
  have hsz1 : (w.setCell ⟨v, 6, none⟩ (escV 0)).heap.size = w.heap.size := by simp [World.setCell]
  have HSZ := Lib.hid hsz1
  have HOW := Lib.hid h.own
  have HLT := Lib.hid h.lts
  have HPAR := Lib.hid (fun l (e : numsP t.par = some l) => numsP_in e)
  have hlow : ¬ ((32 : Int) ≤ (c.toNat : Int)) ∨ ¬ ((c.toNat : Int) ≤ 63) := by
    by_cases h1 : 32 ≤ c
    · right; intro e; exact hc ⟨h1, UInt8.le_iff_toNat_le.2 (by show c.toNat ≤ 63; omega)⟩
    · left; intro e; exact h1 (UInt8.le_iff_toNat_le.2 (by show 32 ≤ c.toNat; omega))
  clear h h1 hk1 hm1 hsz1 c0 c1 c2 c3 c4 cf hc hsl hm
  rcases hlow with hlo | hlo
  all_goals
    by_cases hlo2 : (32 : Int) ≤ (c.toNat : Int)
  all_goals
    first
    | (exfalso; omega)
    | skip
  all_goals
    go_enter Tryz.func38, Tryz.ntmps38
    go_wp2_with fail
  all_goals
    refine (numbers_any t.par _ hl HM.out).mono ?_
    rintro e w2 hp
    have HV2 := Lib.hid (HV.out.later hp.below)
    have HK2 : Hid (KeepT (VtS v gr ga (.slice aop t.par.length cpp)) w w2) := Lib.hid (HK.out.then_below hp.below)
    have HZ2 := Lib.hid hp.below.size
    rcases hn : numsP t.par with _ | l
    · obtain rfl := hp.no hn
      have HN := Lib.hid (HT1.out (.inl hn))
      clear hp hn hcv
      by_cases h64 : (64 : Int) ≤ (c.toNat : Int)
      all_goals by_cases h126 : (c.toNat : Int) ≤ 126
      all_goals
        go_wp2_with fail
        all_goals
          go_returns
          exact ⟨rfl, by rw [HN.out]; exact VtStep.same HV2.out HK2.out⟩
    · obtain ⟨g, cp, rfl, hown⟩ := hp.yes l hn
      obtain ⟨hl1, hl2, hl3⟩ := HPAR.out l hn
      have HOWN := Lib.hid hown
      have HNN := Lib.hid hn
      by_cases hin : (64 : Int) ≤ (c.toNat : Int) ∧ (c.toNat : Int) ≤ 126
      · obtain ⟨h64, h126⟩ := hin
        have HTT := Lib.hid (HT2.out l hn (HCI.out.2 ⟨h64, h126⟩))
        have hgl : w.heap.size ≤ g := by
          have := (hown.lt g rfl).1
          rw [HSZ.out] at this
          exact this
        have HCMD := Lib.hid (command_any HV2.out HG1.out c g cp _ l hl1 hl2 hown hp.below.size (by
          intro e
          have := HLT.out g e
          omega) (by unfold maxLen; omega))
        clear hp hn hcv hown
        go_wp2_with fail
        refine HCMD.out.mono ?_
        rintro e w3 ⟨rfl, os3, pv3, hv3, hk3, hp3⟩
        have HFIN : Hid (VtStep B w v gr cap ga (.slice aop t.par.length cpp) T' w3) := Lib.hid (by
          rw [HTT.out]
          refine ⟨os3, pv3, hv3, HK2.out.trans hk3 (fun i hi hs => ?_), fun k e => ?_⟩
          · rcases hs with hs | hs
            · exact hs
            · injection hs with hs; simp only [] at hs; omega
          · rcases hp3 k e with h | h
            · exact .inl h
            · exact .inr (Nat.le_trans HK2.out.size h))
        clear hv3 hk3 hp3 HCMD
        go_wp2_with fail
        go_returns
        exact ⟨rfl, HFIN.out⟩
      · have HN := Lib.hid (HT1.out (.inr (fun e => hin (HCI.out.1 e))))
        clear hp hn hcv hown
        by_cases h64 : (64 : Int) ≤ (c.toNat : Int)
        · have h126 : ¬ (c.toNat : Int) ≤ 126 := fun e => hin ⟨h64, e⟩
          clear hin
          go_wp2_with fail
          all_goals
            go_returns
            exact ⟨rfl, by rw [HN.out]; exact VtStep.same HV2.out HK2.out⟩
        · clear hin
          go_wp2_with fail
          all_goals
            go_returns
            exact ⟨rfl, by rw [HN.out]; exact VtStep.same HV2.out HK2.out⟩
end Go.Proofs.YtcgaaadcbhkfoaaGreatDoor
