/- A line editor (chapter 25): a line that asks for text, taken; the dot that ends the text. -/
import Derived.Test.YtdljidgmdjndgaaGreatDoorEt1
import Derived.Test.YtdljidgmdjndgaaGreatDoorEt2
import Derived.StillTailTactics
import Derived.Test.YtdljidgmdjndgaaGreatDoorCo1
namespace Go.Proofs.YtdljidgmdjndgaaGreatDoor
open Go Go.Proofs Go.Ev Go.RowKit Go.Ink Go.Sort

theorem cmdLA_arr (lv sv : Value) : (cmdLA lv sv).toArray = #[lv, sv, .int .u8 97, .int .i64 0, .int .i64 0, .string ⟨#[]⟩, .int .i64 0, .int .u8 0, .string ⟨#[]⟩, .string ⟨#[]⟩, .bool false, .int .i64 0, .string ⟨#[]⟩, .string ⟨#[]⟩, .int .u8 0] := rfl
set_option maxRecDepth 100000 in
theorem cmdsText_a (w : World) (la : Option Addr) (n cap : Nat) : Calls Tryz.prog 35 #[.agg #[.slice la n cap, .slice none 0 0, .int .u8 97, .int .i64 0, .int .i64 0, .string ⟨#[]⟩, .int .i64 0, .int .u8 0, .string ⟨#[]⟩, .string ⟨#[]⟩, .bool false, .int .i64 0, .string ⟨#[]⟩, .string ⟨#[]⟩, .int .u8 0]] w fun e w' => e = .returned (.bool true) ∧ Below w.heap.size w w' := by
  have HA := Lib.hid (below_alloc w (.cells #[.slice la n cap, .slice none 0 0, .int .u8 97, .int .i64 0, .int .i64 0, .string ⟨#[]⟩, .int .i64 0, .int .u8 0, .string ⟨#[]⟩, .string ⟨#[]⟩, .bool false, .int .i64 0, .string ⟨#[]⟩, .string ⟨#[]⟩, .int .u8 0] 64))
  go_enter Tryz.func35, Tryz.ntmps35
  go_wp2_with fail
  go_returns
  exact ⟨rfl, HA.out⟩
theorem parse_arr {k : Nat} (hk : k < 7) {w : World} (hw : 6 ≤ w.heap.size) : Calls Tryz.prog 32 #[.string ⟨#[UInt8.ofNat (48 + k), 97]⟩] w fun e w' => ∃ lb lq lc, e = .returned (.tuple #[.agg #[.slice (some ⟨lb, lq, none⟩) 1 lc, .slice none 0 0, .int .u8 97, .int .i64 0, .int .i64 0, .string ⟨#[]⟩, .int .i64 0, .int .u8 0, .string ⟨#[]⟩, .string ⟨#[]⟩, .bool false, .int .i64 0, .string ⟨#[]⟩, .string ⟨#[]⟩, .int .u8 0], .int .i64 0]) ∧ NumRowQ w' lb lq [k] ∧ 1 ≤ lc ∧ w.heap.size ≤ lb ∧ Below w.heap.size w w' := (parse_any hk hw).mono fun _ _ ⟨lb, lq, lc, he, h⟩ => ⟨lb, lq, lc, he, h⟩
noncomputable def isF (r : R (V × H)) : Bool := match r with
  | .ok (.bool false, _) => true
  | _ => false
theorem isF_ok {r : R (V × H)} (h : isF r = true) : ∃ H', r = .ok (.bool false, H') := by
  unfold isF at h
  split at h
  · exact ⟨_, rfl⟩
  · cases h
set_option maxRecDepth 100000 in
theorem mineD_run : isF (runTop Tryz.prog hooks23 [] 3000 60 36 [.agg [.opq 0, .opq 1, .int .u8 97, .int .i64 0, .int .i64 0, .str 0 0, .int .i64 0, .int .u8 0, .str 0 0, .str 0 0, .bool false, .int .i64 0, .str 0 0, .str 0 0, .int .u8 0]] (h0 6)) = true := by decide +kernel
theorem mineD_a {w : World} (hw : 6 ≤ w.heap.size) (la : Option Addr) (n cap : Nat) (sa : Option Addr) (m scap : Nat) :
    Calls Tryz.prog 36 #[.agg (cmdLA (.slice la n cap) (.slice sa m scap)).toArray] w fun e w' => e = .returned (.bool false) ∧ Below w.heap.size w w' := by
  obtain ⟨H', h1⟩ := isF_ok mineD_run
  refine (runTop_calls no_count mixed hooks23_ok (by intro p hp; cases hp) h1 (mnX (.slice la n cap) (.slice sa m scap) (.int .i64 0)) (vars 6) _ w (vars_rep hw) (vars_glob (by kernel_rfl)) (DenL.one ?_)).mono fun e' w' ⟨x, he, G', q1, q2, q3⟩ => ?_
  · unfold cmdLA
    simp only [Den]
    refine ⟨_, rfl, ?_⟩
    have hs : Den (mnX (.slice la n cap) (.slice sa m scap) (.int .i64 0)) (vars 6) (.str 0 0) (.string ⟨#[]⟩) := by
      simp only [Den]
      exact ⟨by decide, rfl⟩
    have ho : ∀ (G : Gh) (i : Nat) (x : Value), x = mnX (.slice la n cap) (.slice sa m scap) (.int .i64 0) i → (∀ cs, x ≠ .agg cs) → Den (mnX (.slice la n cap) (.slice sa m scap) (.int .i64 0)) G (.opq i) x := fun G i x h1 h2 => by
      simp only [Den]
      exact ⟨h1, h2⟩
    exact DenL.cons (ho _ 0 _ rfl (by simp)) (DenL.cons (ho _ 1 _ rfl (by simp)) (DenL.cons (by simp [Den]) (DenL.cons (by simp [Den]) (DenL.cons (by simp [Den]) (DenL.cons hs (DenL.cons (by simp [Den]) (DenL.cons (by simp [Den]) (DenL.cons hs (DenL.cons hs (DenL.cons (by simp [Den]) (DenL.cons (by simp [Den]) (DenL.cons hs (DenL.cons hs (DenL.one (by simp [Den])))))))))))))))
  · simp only [Den] at q1
    subst q1
    exact ⟨he, q3.below (vars_ro _)⟩
theorem heap_setCells {b : Nat} {T : TypeId} {fr : Nat × Nat} : ∀ (vs : List Value) (o : Nat) (cs : Array Value) (w : World), w.heap[b]? = some (.cells cs T fr) → (w.setCells b o vs).heap[b]? = some (.cells (vs.foldl (fun (p : Array Value × Nat) v => (p.1.setIfInBounds p.2 v, p.2 + 1)) (cs, o)).1 T fr)
  | [], _, _, _, h => h
  | v :: vs, o, cs, w, h => heap_setCells vs (o + 1) (cs.setIfInBounds o v) _ (heap_set h v)
section
variable {S : Nat → Prop} {w w' : World} {d : Nat} {c f lv tx : Value} {nm : Int} {tk : Bool}
theorem EdB.there4 (h : EdB w d c f lv nm tk tx) : w.there d 4 15 := fun j hj => by
  refine ⟨?_, h.fz _⟩
  obtain ⟨v, hv⟩ : ∃ v, (edC c f lv nm tk tx)[4 + j]? = some v := ⟨_, List.getElem?_eq_getElem (by show 4 + j < 25; omega)⟩
  rw [h.at (4 + j) hv]
  rfl
theorem EdB.setCmd (h : EdB w d c f lv nm tk tx) (lv' : Value) : EdB (w.setCells d 4 (cmdLA lv' (.slice none 0 0))) d c f lv' 97 tk tx := (heap_setCells _ 4 _ _ h).trans (by kernel_rfl)
set_option maxRecDepth 100000 in
set_option maxHeartbeats 1000000 in
theorem edCommand_a {q : Addr} {k : Nat} {s : ByteArray} (hs : s = ⟨#[UInt8.ofNat (48 + k), 97]⟩) (hk : k < 7) (hw : 6 ≤ w.heap.size) (h : EdB w d (.pointer (some q)) f lv nm false tx) :
    Calls Tryz.prog 22 #[.pointer (some ⟨d, 0, none⟩), .string s] w fun e w' => e = .returned (.tuple #[.string ⟨#[]⟩, .slice none 0 0, .int .i64 0]) ∧ ∃ lb lq lc, EdB w' d (.pointer (some q)) f (.slice (some ⟨lb, lq, none⟩) 1 lc) 97 true (.slice none 0 0) ∧ NumRowQ w' lb lq [k] ∧ 1 ≤ lc ∧ w.heap.size ≤ lb ∧ KeepT (Only d) w w' := by
  have HE := Lib.hid h
  have hP := parse_arr hk hw
  rw [← hs] at hP
  have HP := Lib.hid hP
  have hdl := h.lt
  clear h hw hk hP hs
  go_enter Tryz.func22, Tryz.ntmps22
  go_wp2_with fail
  refine HP.out.mono ?_
  rintro e w1 ⟨lb, lq, lc, rfl, hn, hlc, hlb, hb1⟩
  have HN := Lib.hid hn
  have HLC := Lib.hid hlc
  have HLB := Lib.hid hlb
  have HB1 := Lib.hid hb1
  clear hn hlc hlb hb1
  go_upto_region 10 with fail
  generalize hwA : w1.alloc _ = wA
  have HA := Lib.hid (show Below w1.heap.size w1 wA from hwA ▸ below_alloc w1 _)
  have HX := Lib.hid (show wA.heap[w1.heap.size]? = some (.cells (cmdLA (.slice (some ⟨lb, lq, none⟩) 1 lc) (.slice none 0 0)).toArray 64 (0, 0)) from hwA ▸ heap_alloc_at w1 _)
  clear hwA
  obtain ⟨CM, hCM⟩ : ∃ CM : List Value, CM = cmdLA (.slice (some ⟨lb, lq, none⟩) 1 lc) (.slice none 0 0) := ⟨_, rfl⟩
  have HT := Lib.hid (show ∀ X : World, Calls Tryz.prog 35 #[.agg CM.toArray] X fun e w' => e = .returned (.bool true) ∧ Below X.heap.size X w' from fun X => by rw [hCM]; exact cmdsText_a X (some ⟨lb, lq, none⟩) 1 lc)
  have HCI := Lib.hid (show (Tryz.prog.info? 64).map (·.size) = some CM.length by rw [hCM]; kernel_rfl)
  have HCO := Lib.hid (show CM.toArray.all (·.oneCell') = true by rw [hCM, List.all_toArray]; unfold cmdLA; simp only [List.all_cons, List.all_nil]; rfl)
  have HCL := Lib.hid (show CM.toArray.size = 15 by rw [hCM]; rfl)
  have HCE := Lib.hid hCM
  rw [← hCM] at HX
  have HG1 := Lib.hid (show wA.rangeAt w1.heap.size 0 CM from fun j v hj => by rw [Nat.zero_add, Lib.cell_of_heap HX.out]; simpa using hj)
  clear hCM
  go_wp2_with (refine wpList_load_mid rfl 64 _ rfl w1.heap.size 0 rfl CM _ HG1.out Tryz.underlying64 rfl HCI.out ?_)
  refine (HT.out _).mono ?_
  rintro e w2 ⟨rfl, hb2⟩
  have HB2 := Lib.hid (HB1.out.trans ((HA.out.trans (hb2.mono HA.out.size)).mono HB1.out.size))
  have HX2 := Lib.hid ((hb2.block _ (lt_of_heap HX.out)).trans HX.out)
  have hs2 := HE.out.later HB2.out
  have HG := Lib.hid (show w2.rangeAt w1.heap.size 0 CM from fun j v hj => by rw [Nat.zero_add, Lib.cell_of_heap HX2.out]; simpa using hj)
  have HNN := Lib.hid (HN.out.later (HA.out.trans (hb2.mono HA.out.size)))
  have HTH := Lib.hid hs2.there4
  have s4 := hs2.setCmd (.slice (some ⟨lb, lq, none⟩) 1 lc)
  rw [← HCE.out] at s4
  have e19 := s4.at 19 rfl
  have e20 := s4.at 20 rfl
  have f19 := s4.fz 19
  have s19 := s4.set19 true
  have e20' := s19.at 20 rfl
  have f20 := s19.fz 20
  have HS := Lib.hid (s19.set20 (.slice none 0 0))
  have HK := Lib.hid (keepIn (eqIn d) (keepIn (eqIn d) (keep_setCellsX (S := Only d) d (eqIn d) CM 4 (KeepT.refl _ w2)) 19 (.bool true)) 20 (.slice none 0 0))
  clear hb2 hs2 s4 s19
  go_wp2_with (first
    | refine wpList_load_mid rfl 64 _ rfl w1.heap.size 0 rfl CM _ HG.out Tryz.underlying64 rfl HCI.out ?_
    | refine wpList_store_mid rfl 64 _ _ rfl d 4 CM.toArray rfl rfl (by rw [HCL.out]; exact HTH.out) (by rw [HCL.out]; kernel_rfl) HCO.out ?_)
  go_returns
  have hkk : KeepT (Only d) w _ := (KeepT.of_below (S := Only d) HB2.out).trans HK.out (fun _ _ h => h)
  exact ⟨rfl, lb, lq, lc, HS.out, HNN.out.kept HK.out (by unfold Only; have := HLB.out; omega), HLC.out, HLB.out, hkk⟩
theorem setCell_idem {b j : Nat} {cs : Array Value} {T : TypeId} {fr : Nat × Nat} {v : Value} (h : w.heap[b]? = some (.cells cs T fr)) (hv : cs[j]? = some v) : w.setCell ⟨b, j, none⟩ v = w := by
  have hh : (w.setCell ⟨b, j, none⟩ v).heap = w.heap := by
    apply Array.ext_getElem?
    intro i
    by_cases e : i = b
    · subst e
      rw [heap_set h, h]
      have : cs.setIfInBounds j v = cs := by
        apply Array.ext_getElem?
        intro m
        rw [Array.getElem?_setIfInBounds]
        split
        · rename_i e
          subst e
          split
          · rw [hv]
          · rename_i h2
            rw [Array.getElem?_eq_none (by omega)]
        · rfl
      rw [this]
    · exact Below.heap_setCell _ _ _ _ e
  cases w
  simp only [World.setCell] at hh ⊢
  rw [hh]
theorem EdB.same22 (h : EdB w d c f lv nm tk tx) : w.setCell ⟨d, 22, none⟩ (.bool false) = w := setCell_idem h rfl
theorem EdB.same24 (h : EdB w d c f lv nm tk tx) : w.setCell ⟨d, 24, none⟩ (.bool false) = w := setCell_idem h rfl
end
end Go.Proofs.YtdljidgmdjndgaaGreatDoor
/- A line editor (chapter 25): Step at a line that asks for text, and at the dot that ends it. -/
namespace Go.Proofs.YtdljidgmdjndgaaGreatDoor
open Go Go.Proofs Go.Ev Go.RowKit Go.Ink Go.Sort

section
variable {S : Nat → Prop} {w w' : World} {d : Nat} {f lv tx : Value} {nm : Int} {tk : Bool}
set_option maxRecDepth 100000 in
set_option maxHeartbeats 1000000 in
theorem stepCmd {q : Addr} {k : Nat} {s : ByteArray} (hs : s = ⟨#[UInt8.ofNat (48 + k), 97]⟩) (hk : k < 7) (hw : 6 ≤ w.heap.size) (h : EdB w d (.pointer (some q)) f lv nm false tx) :
    Calls Tryz.prog 8 #[.pointer (some ⟨d, 0, none⟩), .string s] w fun e w' => e = .returned (.tuple #[.string ⟨#[]⟩, .slice none 0 0, .int .i64 0]) ∧ ∃ lb lq lc, EdB w' d (.pointer (some q)) f (.slice (some ⟨lb, lq, none⟩) 1 lc) 97 true (.slice none 0 0) ∧ NumRowQ w' lb lq [k] ∧ 1 ≤ lc ∧ w.heap.size ≤ lb ∧ KeepT (Only d) w w' := by
  have h0 := h.at 0 rfl
  have h23 := h.at 23 rfl
  have h24 := h.at 24 rfl
  have f24 := h.fz 24
  have hsame := h.same24
  have h19 := h.at 19 rfl
  have HC := Lib.hid (edCommand_a hs hk hw h)
  clear h hs hk hw
  go_enter Tryz.func8, Tryz.ntmps8
  go_wp2_with fail
  refine (edNone_b h0).mono ?_
  rintro e w1 ⟨rfl, rfl⟩
  go_wp2_with fail
  refine HC.out.mono ?_
  rintro e w2 ⟨rfl, hx⟩
  have HX := Lib.hid hx
  clear hx
  go_wp2_with fail
  go_returns
  exact ⟨rfl, HX.out⟩
/-- The buffer and the editor are turned. -/
def Two3 (c d x : Nat) : Prop := x = c ∨ x = d
set_option maxRecDepth 100000 in
set_option maxHeartbeats 1000000 in
theorem edDoes_a {c t i k lb lq lc r : Nat} {dirty : Bool} {undo : Option Addr} {dn : Value} {ps : List (List Line)} {text : List Line} {ai : Option Addr} {ci : Nat} (hw : 6 ≤ w.heap.size) (h : EdB w d (.pointer (some ⟨c, 0, none⟩)) f lv nm tk tx)
    (hc : CoreB w c t (k : Int) [] r dirty undo none none dn) (hreg : NewRegs w r) (ht : TabOf S w t ps) (hr : NumRowQ w lb lq [i]) (hlb : lb ≠ c) (hlc : 1 ≤ lc) (hS : ∀ x, S x → x < w.heap.size) (hSc : S c) (hps : ps.length ≤ 1000) (hk : k ≤ manyS ps) (hM : manyS ps + text.length ≤ 2000) (hck : checkL text = 0) (hi : SlOf IsStr w ai ci text) (hia : ∀ b off, ai = some ⟨b, off, none⟩ → b ≠ c ∧ b < w.heap.size) (h3 : i ≤ manyS ps) (hdc : d ≠ c) :
    Calls Tryz.prog 23 #[.pointer (some ⟨d, 0, none⟩), .agg (cmdLA (.slice (some ⟨lb, lq, none⟩) 1 lc) (.slice none 0 0)).toArray, .slice ai text.length ci] w fun e w' => ∃ v, e = .returned (.tuple #[.string ⟨#[]⟩, v, .int .i64 0]) ∧ EdB w' d (.pointer (some ⟨c, 0, none⟩)) f lv nm tk tx ∧ EndA w w' c (layS ps.flatten text i) (i + text.length) := by
  obtain ⟨CM, hCM⟩ : ∃ CM : List Value, CM = cmdLA (.slice (some ⟨lb, lq, none⟩) 1 lc) (.slice none 0 0) := ⟨_, rfl⟩
  have HT := Lib.hid (show ∀ X : World, 6 ≤ X.heap.size → Calls Tryz.prog 36 #[.agg CM.toArray] X fun e w' => e = .returned (.bool false) ∧ Below X.heap.size X w' from fun X hX => by rw [hCM]; exact mineD_a hX (some ⟨lb, lq, none⟩) 1 lc none 0 0)
  have HRN := Lib.hid (show ∀ X : World, Below w.heap.size w X → Calls Tryz.prog 38 #[.pointer (some ⟨c, 0, none⟩), .agg #[.slice (some ⟨lb, lq, none⟩) 1 lc, .slice none 0 0, .int .u8 97, .int .i64 0, .int .i64 0, .string ⟨#[]⟩, .int .i64 0, .int .u8 0, .string ⟨#[]⟩, .string ⟨#[]⟩, .bool false, .int .i64 0, .string ⟨#[]⟩, .string ⟨#[]⟩, .int .u8 0], .slice ai text.length ci] X fun e w' => ∃ v, e = .returned (.tuple #[.string ⟨#[]⟩, v, .int .i64 0]) ∧ EndA X w' c (layS ps.flatten text i) (i + text.length) from fun X hb => by
    have hz := hb.size
    exact runsRunA_ok (by omega) (hc.later hb) (hreg.later hb) (ht.later hb) (hr.later hb) (.inl rfl) hlb (fun b hb => by cases hb) hlc (fun x hx => by have := hS x hx; omega) hSc hps hk hM hck (hi.later lasts_str hb) (fun b off hb' => ⟨(hia b off hb').1, by have := (hia b off hb').2; omega⟩) h3)
  have HCI := Lib.hid (show (Tryz.prog.info? 64).map (·.size) = some CM.length by rw [hCM]; kernel_rfl)
  have HCE := Lib.hid hCM
  have HE := Lib.hid h
  have HX := Lib.hid (heap_alloc_at w (.cells CM.toArray 64))
  have HA := Lib.hid (below_alloc w (.cells CM.toArray 64))
  rw [← hCM]
  have hne : ¬ Only c d := by unfold Only; exact hdc
  have hcl : c < w.heap.size := hc.lt
  clear h hc hreg ht hr hS hi hia hck hCM
  go_enter Tryz.func23, Tryz.ntmps23
  go_upto_region 1 with fail
  generalize hwA : w.alloc _ = wA
  rw [hwA] at HA HX
  clear hwA
  have HG1 := Lib.hid (show wA.rangeAt w.heap.size 0 CM from fun j v hj => by rw [Nat.zero_add, Lib.cell_of_heap HX.out]; simpa using hj)
  go_wp2_with (refine wpList_load_mid rfl 64 _ rfl w.heap.size 0 rfl CM _ HG1.out Tryz.underlying64 rfl HCI.out ?_)
  refine (HT.out wA (Nat.le_trans hw HA.out.size)).mono ?_
  rintro e w1 ⟨rfl, hb1⟩
  have HB1 := Lib.hid (HA.out.trans (hb1.mono HA.out.size))
  have hX1 := (hb1.block _ (lt_of_heap HX.out)).trans HX.out
  have b0 : w1.cell? ⟨w.heap.size, 0, none⟩ = some (.slice (some ⟨lb, lq, none⟩) 1 lc) := by rw [Lib.cell_of_heap hX1, HCE.out]; rfl
  have b1 : w1.cell? ⟨w.heap.size, 1, none⟩ = some (.slice none 0 0) := by rw [Lib.cell_of_heap hX1, HCE.out]; rfl
  have b2 : w1.cell? ⟨w.heap.size, 2, none⟩ = some (.int .u8 97) := by rw [Lib.cell_of_heap hX1, HCE.out]; rfl
  have b3 : w1.cell? ⟨w.heap.size, 3, none⟩ = some (.int .i64 0) := by rw [Lib.cell_of_heap hX1, HCE.out]; rfl
  have b4 : w1.cell? ⟨w.heap.size, 4, none⟩ = some (.int .i64 0) := by rw [Lib.cell_of_heap hX1, HCE.out]; rfl
  have b5 : w1.cell? ⟨w.heap.size, 5, none⟩ = some (.string ⟨#[]⟩) := by rw [Lib.cell_of_heap hX1, HCE.out]; rfl
  have b6 : w1.cell? ⟨w.heap.size, 6, none⟩ = some (.int .i64 0) := by rw [Lib.cell_of_heap hX1, HCE.out]; rfl
  have b7 : w1.cell? ⟨w.heap.size, 7, none⟩ = some (.int .u8 0) := by rw [Lib.cell_of_heap hX1, HCE.out]; rfl
  have b8 : w1.cell? ⟨w.heap.size, 8, none⟩ = some (.string ⟨#[]⟩) := by rw [Lib.cell_of_heap hX1, HCE.out]; rfl
  have b9 : w1.cell? ⟨w.heap.size, 9, none⟩ = some (.string ⟨#[]⟩) := by rw [Lib.cell_of_heap hX1, HCE.out]; rfl
  have b10 : w1.cell? ⟨w.heap.size, 10, none⟩ = some (.bool false) := by rw [Lib.cell_of_heap hX1, HCE.out]; rfl
  have b11 : w1.cell? ⟨w.heap.size, 11, none⟩ = some (.int .i64 0) := by rw [Lib.cell_of_heap hX1, HCE.out]; rfl
  have b12 : w1.cell? ⟨w.heap.size, 12, none⟩ = some (.string ⟨#[]⟩) := by rw [Lib.cell_of_heap hX1, HCE.out]; rfl
  have b13 : w1.cell? ⟨w.heap.size, 13, none⟩ = some (.string ⟨#[]⟩) := by rw [Lib.cell_of_heap hX1, HCE.out]; rfl
  have b14 : w1.cell? ⟨w.heap.size, 14, none⟩ = some (.int .u8 0) := by rw [Lib.cell_of_heap hX1, HCE.out]; rfl
  have hs1 := HE.out.later HB1.out
  have c0 := hs1.at 0 rfl
  have HE1 := Lib.hid hs1
  clear hb1 hX1 hs1
  go_wp2_with fail
  have HSS := Lib.hid (show ∀ X : World, KeepT (Only c) w1 X → (X.cell? ⟨d, 0, none⟩ = some (.pointer (some ⟨c, 0, none⟩)) ∧ X.cell? ⟨w.heap.size, 0, none⟩ = some (.slice (some ⟨lb, lq, none⟩) 1 lc) ∧ X.cell? ⟨w.heap.size, 1, none⟩ = some (.slice none 0 0) ∧ X.cell? ⟨w.heap.size, 2, none⟩ = some (.int .u8 97) ∧ X.cell? ⟨w.heap.size, 3, none⟩ = some (.int .i64 0) ∧ X.cell? ⟨w.heap.size, 4, none⟩ = some (.int .i64 0) ∧ X.cell? ⟨w.heap.size, 5, none⟩ = some (.string ⟨#[]⟩) ∧ X.cell? ⟨w.heap.size, 6, none⟩ = some (.int .i64 0) ∧ X.cell? ⟨w.heap.size, 7, none⟩ = some (.int .u8 0) ∧ X.cell? ⟨w.heap.size, 8, none⟩ = some (.string ⟨#[]⟩) ∧ X.cell? ⟨w.heap.size, 9, none⟩ = some (.string ⟨#[]⟩) ∧ X.cell? ⟨w.heap.size, 10, none⟩ = some (.bool false) ∧ X.cell? ⟨w.heap.size, 11, none⟩ = some (.int .i64 0) ∧ X.cell? ⟨w.heap.size, 12, none⟩ = some (.string ⟨#[]⟩) ∧ X.cell? ⟨w.heap.size, 13, none⟩ = some (.string ⟨#[]⟩) ∧ X.cell? ⟨w.heap.size, 14, none⟩ = some (.int .u8 0)) from fun X hX => by
    have kk : ∀ (b : Nat) (j : Nat) (v : Value), ¬ Only c b → w1.cell? ⟨b, j, none⟩ = some v → X.cell? ⟨b, j, none⟩ = some v := fun b j v hb h => (hX.cell (p := ⟨b, j, none⟩) (lt_of_cell h) hb).trans h
    have hx : ¬ Only c w.heap.size := by have := hcl; unfold Only; omega
    exact ⟨kk d 0 _ hne c0, kk _ 0 _ hx b0, kk _ 1 _ hx b1, kk _ 2 _ hx b2, kk _ 3 _ hx b3, kk _ 4 _ hx b4, kk _ 5 _ hx b5, kk _ 6 _ hx b6, kk _ 7 _ hx b7, kk _ 8 _ hx b8, kk _ 9 _ hx b9, kk _ 10 _ hx b10, kk _ 11 _ hx b11, kk _ 12 _ hx b12, kk _ 13 _ hx b13, kk _ 14 _ hx b14⟩)
  go_region_held3 (fun w' => w'.cell? ⟨d, 0, none⟩ = some (.pointer (some ⟨c, 0, none⟩)) ∧ w'.cell? ⟨w.heap.size, 0, none⟩ = some (.slice (some ⟨lb, lq, none⟩) 1 lc) ∧ w'.cell? ⟨w.heap.size, 1, none⟩ = some (.slice none 0 0) ∧ w'.cell? ⟨w.heap.size, 2, none⟩ = some (.int .u8 97) ∧ w'.cell? ⟨w.heap.size, 3, none⟩ = some (.int .i64 0) ∧ w'.cell? ⟨w.heap.size, 4, none⟩ = some (.int .i64 0) ∧ w'.cell? ⟨w.heap.size, 5, none⟩ = some (.string ⟨#[]⟩) ∧ w'.cell? ⟨w.heap.size, 6, none⟩ = some (.int .i64 0) ∧ w'.cell? ⟨w.heap.size, 7, none⟩ = some (.int .u8 0) ∧ w'.cell? ⟨w.heap.size, 8, none⟩ = some (.string ⟨#[]⟩) ∧ w'.cell? ⟨w.heap.size, 9, none⟩ = some (.string ⟨#[]⟩) ∧ w'.cell? ⟨w.heap.size, 10, none⟩ = some (.bool false) ∧ w'.cell? ⟨w.heap.size, 11, none⟩ = some (.int .i64 0) ∧ w'.cell? ⟨w.heap.size, 12, none⟩ = some (.string ⟨#[]⟩) ∧ w'.cell? ⟨w.heap.size, 13, none⟩ = some (.string ⟨#[]⟩) ∧ w'.cell? ⟨w.heap.size, 14, none⟩ = some (.int .u8 0))
    (first | exact ⟨c0, b0, b1, b2, b3, b4, b5, b6, b7, b8, b9, b10, b11, b12, b13, b14⟩ | exact HSS.out _ hk2 | go_keep)
    (first
      | ((with_reducible refine (HRN.out _ HB1.out.drew).mono ?_); rintro e w2 ⟨v, rfl, t', r', dirty', undo', hc2, ht2, hk2'⟩; have hk2 := (KeepT.of_below (S := Only c) (Below.refl w1.heap.size w1).drew).trans hk2' (fun _ _ h => h))
      | (fail "no arm"))
  have hs2 : EdB w2 d (.pointer (some ⟨c, 0, none⟩)) f lv nm tk tx := (hk2.block d HE1.out.lt hne).trans HE1.out
  have hsame := hs2.same22
  have h22 := hs2.at 22 rfl
  have f22 := hs2.fz 22
  have HE2 := Lib.hid hs2
  have HC2 := Lib.hid hc2
  have HT2 := Lib.hid ht2
  have HK2 := Lib.hid ((KeepT.of_below (S := Only c) HB1.out).trans hk2 (fun _ _ h => h))
  clear hs2 hc2 ht2 hk2
  go_wp2_with fail
  go_returns
  exact ⟨v, rfl, HE2.out, t', r', dirty', undo', HC2.out, HT2.out, HK2.out⟩
set_option maxRecDepth 100000 in
set_option maxHeartbeats 1000000 in
theorem stepDot {c t i k lb lq lc r : Nat} {dirty : Bool} {undo : Option Addr} {dn : Value} {ps : List (List Line)} {text : List Line} {ai : Option Addr} {ci : Nat} (hw : 6 ≤ w.heap.size) (h : EdB w d (.pointer (some ⟨c, 0, none⟩)) f (.slice (some ⟨lb, lq, none⟩) 1 lc) 97 true (.slice ai text.length ci))
    (hc : CoreB w c t (k : Int) [] r dirty undo none none dn) (hreg : NewRegs w r) (hgd : r ≠ d) (ht : TabOf S w t ps) (hr : NumRowQ w lb lq [i]) (hlb : lb ≠ c) (hlbd : lb ≠ d) (hlc : 1 ≤ lc) (hS : ∀ x, S x → x < w.heap.size) (hSc : S c) (hSd : S d) (hps : ps.length ≤ 1000) (hk : k ≤ manyS ps) (hM : manyS ps + text.length ≤ 2000) (hck : checkL text = 0) (hi : SlOf IsStr w ai ci text) (hia : ∀ b off, ai = some ⟨b, off, none⟩ → b ≠ c ∧ b ≠ d ∧ b < w.heap.size) (h3 : i ≤ manyS ps) (hdc : d ≠ c) :
    Calls Tryz.prog 8 #[.pointer (some ⟨d, 0, none⟩), .string ⟨#[46]⟩] w fun e w' => ∃ v, e = .returned (.tuple #[.string ⟨#[]⟩, v, .int .i64 0]) ∧ EdB w' d (.pointer (some ⟨c, 0, none⟩)) f (.slice (some ⟨lb, lq, none⟩) 1 lc) 97 false (.slice none 0 0) ∧ ∃ t' S' ps', CoreOf S' w' c t' ((i + text.length : Nat) : Int) ps' ∧ ps'.flatten = layS ps.flatten text i ∧ KeepT (Two3 c d) w w' := by
  have h0 := h.at 0 rfl
  have h23 := h.at 23 rfl
  have h24 := h.at 24 rfl
  have f24 := h.fz 24
  have hsame := h.same24
  have h19 := h.at 19 rfl
  have h20 := h.at 20 rfl
  have f19 := h.fz 19
  have s19 := h.set19 false
  have e20 := s19.at 20 rfl
  have f20 := s19.fz 20
  have s20 := s19.set20 (.slice none 0 0)
  have k2 : KeepT (Only d) w ((w.setCell ⟨d, 19, none⟩ (.bool false)).setCell ⟨d, 20, none⟩ (.slice none 0 0)) := keepIn (eqIn d) (keepIn (eqIn d) (KeepT.refl _ w) 19 _) 20 _
  generalize hwZ : (w.setCell ⟨d, 19, none⟩ (.bool false)).setCell ⟨d, 20, none⟩ (.slice none 0 0) = wZ at s20 k2
  obtain ⟨CM, hCM⟩ : ∃ CM : List Value, CM = cmdLA (.slice (some ⟨lb, lq, none⟩) 1 lc) (.slice none 0 0) := ⟨_, rfl⟩
  have HCI := Lib.hid (show (Tryz.prog.info? 64).map (·.size) = some CM.length by rw [hCM]; kernel_rfl)
  have HG := Lib.hid (show wZ.rangeAt d 4 CM from fun j v hj => by
    rw [hCM] at hj
    refine s20.at (4 + j) ?_
    unfold edC cmdLA at *
    match j, hj with
    | 0, hj | 1, hj | 2, hj | 3, hj | 4, hj | 5, hj | 6, hj | 7, hj | 8, hj | 9, hj | 10, hj | 11, hj | 12, hj | 13, hj | 14, hj => exact hj
    | j + 15, hj => simp at hj)
  have hz := k2.size
  have HD := Lib.hid (edDoes_a (w := wZ) (Nat.le_trans hw hz) s20 (hc.kept k2 (by unfold Only; omega)) (hreg.kept k2 (fun x hx hlt => by
      unfold Only at hx
      subst hx
      exact ⟨_, _, _, h, by decide⟩)) (ht.kept (k2.mono (fun x _ hx => by unfold Only at hx; subst hx; exact hSd))) (hr.kept k2 (by unfold Only; exact hlbd)) hlb hlc (fun x hx => Nat.lt_of_lt_of_le (hS x hx) hz) hSc hps hk hM hck (SlOf.kept k2 hi (fun b off hb => by unfold Only; exact (hia b off hb).2.1) (fun _ _ h => h)) (fun b off hb => ⟨(hia b off hb).1, Nat.lt_of_lt_of_le (hia b off hb).2.2 hz⟩) h3 hdc)
  rw [← hCM] at HD
  have HK := Lib.hid k2
  have hMf := manyS_flat ps
  clear h hc hreg ht hr hi s19 s20 k2 hS hia hck hCM
  go_enter Tryz.func8, Tryz.ntmps8
  go_wp2_with fail
  refine (edNone_b h0).mono ?_
  rintro e w1 ⟨rfl, rfl⟩
  go_upto_region 13 with fail
  go_wp2_with (refine wpList_load_mid rfl 64 _ rfl d 4 rfl CM _ HG.out Tryz.underlying64 rfl HCI.out ?_)
  refine HD.out.mono ?_
  rintro e w2 ⟨v, rfl, hs2, t', r', dirty', undo', hc2, ⟨S', ps', hs', ht2, hfl, hln⟩, hk2⟩
  have HE2 := Lib.hid hs2
  have HC2 := Lib.hid hc2
  have HT2 := Lib.hid ht2
  have HFL := Lib.hid hfl
  have HK2 := Lib.hid (show KeepT (Two3 c d) w1 w2 from (HK.out.mono (fun _ _ h => .inr h)).trans hk2 (fun _ _ h => .inl h))
  clear hs2 hc2 ht2 hfl hk2
  go_wp2_with fail
  go_returns
  refine ⟨v, rfl, HE2.out, t', S', ps', ⟨HC2.out.c0, HC2.out.c1, HT2.out, hln, ?_⟩, HFL.out, HK2.out⟩
  rw [manyS_flat, HFL.out]
  unfold layS
  simp only [List.length_append, List.length_take, List.length_drop]
  omega
end
end Go.Proofs.YtdljidgmdjndgaaGreatDoor
/- EdText (chapter 25): a line editor made of lines. -/
namespace Go.Proofs.YtdljidgmdjndgaaGreatDoor
open Go Go.Proofs Go.Ev Go.RowKit Go.Ink Go.Sort

set_option maxRecDepth 100000 in
set_option maxHeartbeats 2000000 in
theorem coreNew_apart (l : List Line) (ao : Option Addr) (cap : Nat) (w : World) (hl : SlOf IsStr w ao cap l) (hlen : l.length ≤ 100000) (h0 : checkL l = 0) :
    Calls Tryz.prog 7 #[.slice ao l.length cap] w fun e w' => ∃ c t r, e = .returned (.tuple #[.pointer (some ⟨c, 0, none⟩), .int .i64 0]) ∧ TabOf (Only c) w' t (ofS [l]) ∧ CoreB w' c t (l.length : Int) [] r false none none none (.slice none 0 0) ∧ NewRegs w' r ∧ w.heap.size ≤ c ∧ Below w.heap.size w w' := by
  have HT := Lib.hid ((tabNew_any (S := fun _ => False) l ao cap w hl hlen (fun _ h => h.elim)).mono (R' := fun e w' => ∃ b, e = .returned (.pointer (some ⟨b, 0, none⟩)) ∧ TabOf (fun _ => False) w' b (ofS [l]) ∧ Below w.heap.size w w') fun e w' h => by
    unfold NewTab at h
    rw [if_pos h0] at h
    exact h)
  clear hl h0
  go_enter Tryz.func7, Tryz.ntmps7
  go_wp2_with fail
  refine HT.out.mono ?_
  rintro e w1 ⟨t, rfl, ht, hb1⟩
  have HTB := Lib.hid ht
  have HB1 := Lib.hid hb1
  clear ht hb1
  go_wp2_with fail
  refine (regsNew_any _).mono ?_
  rintro e w2 ⟨r, rfl, hr, hrl, hb2⟩
  have HB2 := Lib.hid (HB1.out.trans (hb2.mono HB1.out.size))
  have HT2 := Lib.hid (HTB.out.later hb2)
  have HR := Lib.hid hr
  clear hr hrl hb2
  go_wp2_with fail
  go_returns
  refine ⟨w2.heap.size, t, r, rfl, ?_, (heap_alloc_at _ _).trans rfl, HR.out.later ((Below.refl _ _).alloc (Nat.le_refl _) _), HB2.out.size, HB2.out.alloc HB2.out.size _⟩
  exact (HT2.out.apart (S' := Only w2.heap.size) (fun k hk => by unfold Only at hk; exact .inr (Nat.le_of_eq hk.symm))).later ((Below.refl _ _).alloc (Nat.le_refl _) _)
theorem filesNew_l (w : World) : Calls Tryz.prog 17 #[.int .i64 100000] w fun e w' => e = .returned (.tuple #[.pointer (some ⟨w.heap.size, 0, none⟩), .int .i64 0]) ∧ Below w.heap.size w w' := by
  go_enter Tryz.func17, Tryz.ntmps17
  go_wp2_with fail
  go_returns
  exact ⟨rfl, (Below.refl _ _).alloc (Nat.le_refl _) _⟩
set_option maxRecDepth 100000 in
set_option maxHeartbeats 1000000 in
theorem edNew_b {c t r N q : Nat} {w : World} (hc : CoreB w c t (N : Int) [] r false none none none (.slice none 0 0)) :
    Calls Tryz.prog 18 #[.pointer (some ⟨c, 0, none⟩), .pointer (some ⟨q, 0, none⟩), .string ⟨#[]⟩, .bool false] w fun e w' => e = .returned (.tuple #[.pointer (some ⟨w.heap.size, 0, none⟩), .int .i64 0]) ∧ EdB w' w.heap.size (.pointer (some ⟨c, 0, none⟩)) (.pointer (some ⟨q, 0, none⟩)) (.slice none 0 0) 0 false (.slice none 0 0) ∧ Below w.heap.size w w' := by
  have HR := Lib.hid (coreRegs_of hc)
  clear hc
  go_enter Tryz.func18, Tryz.ntmps18
  go_wp2_with fail
  refine HR.out.mono ?_
  rintro e w1 ⟨rfl, rfl⟩
  go_wp2_with fail
  go_returns
  exact ⟨rfl, (heap_alloc_at _ _).trans rfl, (Below.refl _ _).alloc (Nat.le_refl _) _⟩
/-- A line editor of these lines. -/
def MadeB (w w' : World) (base : List Line) (d : Nat) : Prop := ∃ c t r q, EdB w' d (.pointer (some ⟨c, 0, none⟩)) (.pointer (some ⟨q, 0, none⟩)) (.slice none 0 0) 0 false (.slice none 0 0) ∧ CoreB w' c t (base.length : Int) [] r false none none none (.slice none 0 0) ∧ TabOf (Two3 c d) w' t (ofS [base]) ∧ NewRegs w' r ∧ r ≠ d ∧ d ≠ c ∧ w.heap.size ≤ c ∧ w.heap.size ≤ d ∧ Below w.heap.size w w'
set_option maxRecDepth 100000 in
set_option maxHeartbeats 1000000 in
theorem made_ok (base : List Line) (ao : Option Addr) (cap : Nat) (w : World) (hl : SlOf IsStr w ao cap base) (hlen : base.length ≤ 100000) (hck : checkL base = 0) :
    Calls Tryz.prog 6 #[.slice ao base.length cap, .bool false] w fun e w' => ∃ d, e = .returned (.pointer (some ⟨d, 0, none⟩)) ∧ MadeB w w' base d := by
  have HL := Lib.hid hl
  have HK := Lib.hid hck
  clear hl hck
  go_enter Tryz.func6, Tryz.ntmps6
  go_wp2_with fail
  refine (filesNew_l _).mono ?_
  rintro e w1 ⟨rfl, hb1⟩
  have HB1 := Lib.hid hb1
  clear hb1
  go_wp2_with fail
  refine (coreNew_apart base ao cap _ (HL.out.later lasts_str HB1.out) hlen HK.out).mono ?_
  rintro e w2 ⟨c, t, r, rfl, hT, hC, hR, hcge, hb2⟩
  have HT := Lib.hid hT
  have HC := Lib.hid hC
  have HR := Lib.hid hR
  have HG := Lib.hid hcge
  have HB2 := Lib.hid (HB1.out.trans (hb2.mono HB1.out.size))
  clear hT hC hR hcge hb2
  go_wp2_with fail
  refine (edNew_b (q := w.heap.size) HC.out).mono ?_
  rintro e w3 ⟨rfl, hE, hb3⟩
  have HE := Lib.hid hE
  have HB3 := Lib.hid hb3
  clear hE hb3
  go_wp2_with fail
  go_returns
  refine ⟨_, rfl, c, t, r, w.heap.size, HE.out, HC.out.later HB3.out, (HT.out.apart (S' := Two3 c w2.heap.size) (fun x hx => ?_)).later HB3.out, HR.out.later HB3.out, ?_, ?_, Nat.le_trans HB1.out.size HG.out, HB2.out.size, HB2.out.trans (HB3.out.mono HB2.out.size)⟩
  · rcases hx with h | h
    · exact .inl h
    · exact .inr (Nat.le_of_eq h.symm)
  · obtain ⟨m, clk, h1, _⟩ := HR.out
    have := lt_of_heap h1
    omega
  · have := HC.out.lt
    omega
set_option maxRecDepth 100000 in
theorem made_no (base : List Line) (ao : Option Addr) (cap : Nat) (w : World) (hl : SlOf IsStr w ao cap base) (hlen : base.length ≤ 100000) (hck : ¬ checkL base = 0) :
    Calls Tryz.prog 6 #[.slice ao base.length cap, .bool false] w fun e w' => e = .returned (.pointer none) ∧ Below w.heap.size w w' := by
  have HL := Lib.hid hl
  have HK := Lib.hid (fun (X : World) (h : SlOf IsStr X ao cap base) => coreNew_no base ao cap X h hlen hck)
  clear hl hck
  go_enter Tryz.func6, Tryz.ntmps6
  go_wp2_with fail
  refine (filesNew_l _).mono ?_
  rintro e w1 ⟨rfl, hb1⟩
  have HB1 := Lib.hid hb1
  clear hb1
  go_wp2_with fail
  refine (HK.out _ (HL.out.later lasts_str HB1.out)).mono ?_
  rintro e w2 ⟨rfl, rfl⟩
  go_wp2_with fail
  go_returns
  exact ⟨rfl, HB1.out⟩
end Go.Proofs.YtdljidgmdjndgaaGreatDoor
