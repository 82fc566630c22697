/- The walk of EdText (chapter 25). -/
import Derived.Test.YtdljidgmdjndgaaGreatDoorEt3
import Derived.Test.YtdljidgmdjndgaaGreatDoorRm0
import Derived.Test.YtdljidgmdjndgaaGreatDoorConv
namespace Go.Proofs.YtdljidgmdjndgaaGreatDoor
open Go Go.Proofs Go.Ev Go.RowKit Go.Ink Go.Sort

theorem byte_at {x : List UInt8} {j : Nat} {c : UInt8} (h : x[j]? = some c) : ∀ h, (⟨x.toArray⟩ : ByteArray)[j]'h = c := fun _ => by
  obtain ⟨_, rfl⟩ := List.getElem?_eq_some_iff.1 h
  rfl
theorem num_k (n2 : UInt8) (N : Nat) : ∃ D : Nat, (wrap64 (n2.toNat : Int)).tmod ((N : Int) + 1) = (D : Int) ∧ D ≤ N := by
  have hu : n2.toNat < 256 := n2.toNat_lt
  have hm := Nat.mod_lt n2.toNat (show 0 < N + 1 by omega)
  refine ⟨n2.toNat % (N + 1), ?_, by omega⟩
  rw [show wrap64 (n2.toNat : Int) = (n2.toNat : Int) by unfold wrap64; omega]
  rfl
theorem conv_two (w : World) (K : Nat) (hK : K ≤ 6) :
    (Go.convert 31 9 (.slice (some ⟨w.heap.size, 0, none⟩) 2 2)).run Tryz.prog (w.alloc (.cells #[.int .u8 (48 + (K : Int)), .int .u8 97] 5)) =
      .ok (.string ⟨#[UInt8.ofNat (48 + K), 97]⟩) (w.alloc (.cells #[.int .u8 (48 + (K : Int)), .int .u8 97] 5)) := by
  have e : ((UInt8.ofNat (48 + K)).toNat : Int) = 48 + (K : Int) := by rw [UInt8.toNat_ofNat']; omega
  rw [← e]
  clear e
  generalize UInt8.ofNat (48 + K) = c0
  refine SlOf.convert (l := [c0, 97]) (w := w.alloc (.cells #[.int .u8 (c0.toNat : Int), .int .u8 97] 5)) ⟨by simp, by unfold maxLen; omega, by simp, fun k c hk => ?_⟩ Tryz.underlying31 Tryz.underlying5 Tryz.underlying9 (Below.refl _ _)
  have hb := heap_alloc_at w (.cells #[.int .u8 (c0.toNat : Int), .int .u8 97] 5)
  match k, hk with
  | 0, hk => simp at hk; subst hk; exact ⟨w.heap.size, 0, _, rfl, by rw [Lib.cell_of_heap hb]; rfl, rfl⟩
  | 1, hk => simp at hk; subst hk; exact ⟨w.heap.size, 0, _, rfl, by rw [Lib.cell_of_heap hb]; rfl, rfl⟩
theorem coreAllN_of {S : Nat → Prop} {w : World} {c t : Nat} {cur : Int} {ps : List (List Line)} (h : CoreOf S w c t cur ps) (F : List Line) (hF : ps.flatten = F) :
    Calls Tryz.prog 12 #[.pointer (some ⟨c, 0, none⟩), .int .i64 1, .int .i64 (manyS ps : Int)] w fun e' w' => ∃ ao cap, e' = .returned (.slice ao F.length cap) ∧ SlOf IsStr w' ao cap F ∧ Below w.heap.size w w' := by
  refine (coreLinesAll_of h).mono ?_
  rintro e w' ⟨v, rfl, ho, hb⟩
  rw [manyS_flat, Nat.sub_self, List.drop_zero, Nat.sub_zero, List.take_length, hF] at ho
  obtain ⟨ao, cap, rfl, hs⟩ := ho.slOf
  exact ⟨ao, cap, rfl, hs, hb⟩
theorem ne_ten {c : UInt8} (h : ¬ c = 10) : ((c.toNat : Int) == 10) = false := by
  rw [beq_eq_false_iff_ne]
  intro e
  have h2 : c.toNat = (10 : UInt8).toNat := by
    show c.toNat = 10
    omega
  exact h (UInt8.toNat_inj.1 h2)
set_option maxRecDepth 100000 in
set_option maxHeartbeats 2000000 in
theorem edText_law (base text : List Line) (ao1 ao2 : Option Addr) (cap1 cap2 : Nat) (n : UInt8) (w : World) (h1 : SlOf IsStr w ao1 cap1 base) (h2 : SlOf IsStr w ao2 cap2 text) (hs : 6 ≤ w.heap.size) (ht : TabW w) :
    Calls Tryz.prog 3 #[.slice ao1 base.length cap1, .slice ao2 text.length cap2, .int .u8 (n.toNat : Int)] w fun e w' => e = .returned (.bool true) ∧ Below w.heap.size w w' := by
  have hc1 : base.length ≤ 9223372036854775807 := Nat.le_trans h1.1 h1.2.1
  have hc2 : text.length ≤ 9223372036854775807 := Nat.le_trans h2.1 h2.2.1
  have H1 := Lib.hid h1
  have H2 := Lib.hid h2
  have HS := Lib.hid hs
  have HLV := Lib.hid (fun (X : World) (hb : Below w.heap.size w X) => lives_any (w := X) ⟨Nat.le_trans hs hb.size, ht.later hb⟩)
  clear h1 h2 hs ht
  go_enter Tryz.func3, Tryz.ntmps3
  go_wp2_with fail
  refine (beyondText_any base ao1 cap1 6 _ H1.out).mono ?_
  rintro e w1 ⟨⟨b, rfl, hb⟩, rfl⟩
  cases b
  case true =>
    clear hb
    go_wp2_with fail
    refine (HLV.out _ (Below.refl _ _)).mono ?_
    rintro e w2 ⟨rfl, hb2⟩
    have HB2 := Lib.hid hb2
    clear hb2
    go_wp2_with fail
    go_returns
    exact ⟨rfl, HB2.out⟩
  have h6 : base.length ≤ 6 := by have := (hb rfl).1; omega
  clear hb
  go_wp2_with fail
  refine (beyondText_any text ao2 cap2 10 _ H2.out).mono ?_
  rintro e w1 ⟨⟨b, rfl, hb⟩, rfl⟩
  cases b
  case true =>
    clear hb
    go_wp2_with fail
    refine (HLV.out _ (Below.refl _ _)).mono ?_
    rintro e w2 ⟨rfl, hb2⟩
    have HB2 := Lib.hid hb2
    clear hb2
    go_wp2_with fail
    go_returns
    exact ⟨rfl, HB2.out⟩
  have h10 : text.length ≤ 10 := by have := (hb rfl).1; omega
  have H20 := Lib.hid (hb rfl).2
  clear hb
  go_wp2_with fail
  go_loop [7] (fun iv => ∃ k : Nat, iv = .int .i64 (k : Int) ∧ k ≤ text.length ∧ Hid (∀ j x, j < k → text[j]? = some x → x ≠ [46] ∧ (10 : UInt8) ∉ x)) (fun iv => text.length - (intOf iv).toNat)
  case atStart => exact ⟨0, rfl, by omega, Lib.hid (fun j x hj => by omega)⟩
  case round =>
    obtain ⟨k, rfl, hk, HT⟩ := hrel
    by_cases hlt : k < text.length
    · obtain ⟨x, hkx⟩ : ∃ x, text[k]? = some x := ⟨_, List.getElem?_eq_getElem hlt⟩
      obtain ⟨g1, off1, u, hao1, hcell1, hu⟩ := H2.out.2.2.2 k x hkx
      have hu' : u = .string ⟨x.toArray⟩ := hu
      subst hu'
      subst hao1
      have HKX := Lib.hid hkx
      have hxl : x.length ≤ 20 := H20.out x (List.mem_of_getElem? hkx)
      clear hu hkx
      by_cases hx : x = [46]
      · have hxb : (x == [46]) = true := by rw [beq_iff_eq]; exact hx
        clear hx
        go_wp2_with fail
        refine (HLV.out _ (Below.refl _ _)).mono ?_
        rintro e w2 ⟨rfl, hb2⟩
        have HB2 := Lib.hid hb2
        clear hb2
        go_wp2_with fail
        go_returns
        exact ⟨rfl, HB2.out⟩
      · have hxb : (x == [46]) = false := by rw [beq_eq_false_iff_ne]; exact hx
        have HX := Lib.hid hx
        clear hx
        go_wp2_with fail
        go_loop [8] (fun jv => ∃ j : Nat, jv = .int .i64 (j : Int) ∧ j ≤ x.length ∧ Hid (∀ i, i < j → x[i]? ≠ some 10)) (fun jv => x.length - (intOf jv).toNat)
        case atStart => exact ⟨0, rfl, by omega, Lib.hid (fun i hi => by omega)⟩
        case round =>
          obtain ⟨j, rfl, hj, HJ⟩ := hrel
          have HSX := size_mk x
          by_cases hjt : j < x.length
          · obtain ⟨c, hjc⟩ : ∃ c, x[j]? = some c := ⟨_, List.getElem?_eq_getElem hjt⟩
            have hby := byte_at hjc
            have HJC := Lib.hid hjc
            clear hjc
            by_cases hc : c = 10
            · subst hc
              go_wp2_with fail
              refine (HLV.out _ (Below.refl _ _)).mono ?_
              rintro e w2 ⟨rfl, hb2⟩
              have HB2 := Lib.hid hb2
              clear hb2
              go_wp2_with fail
              go_returns
              exact ⟨rfl, HB2.out⟩
            · have hci := ne_ten hc
              have hcj : ¬ (c.toNat : Int) = 10 := by simpa using hci
              have HNC := Lib.hid hc
              clear hc
              go_wp2_with fail
              go_round
              case rel => exact ⟨j + 1, by go_num, by omega, Lib.hid (fun i hi => by
                by_cases e : i = j
                · subst e
                  rw [HJC.out]
                  intro h
                  injection h with h
                  exact HNC.out h
                · exact HJ.out i (by omega))⟩
              case measure => simp [intOf]; omega
          · have hjl : j = x.length := by omega
            subst hjl
            go_wp2_with fail
            go_round
            case rel => exact ⟨k + 1, by go_num, by omega, Lib.hid (fun i y hi hy => by
              by_cases e : i = k
              · subst e
                rw [HKX.out] at hy
                injection hy with hy
                subst hy
                refine ⟨HX.out, fun hm => ?_⟩
                obtain ⟨m, hm1, hm2⟩ := List.mem_iff_getElem.1 hm
                exact HJ.out m hm1 (by rw [List.getElem?_eq_getElem hm1, hm2])
              · exact HT.out i y (by omega) hy)⟩
            case measure => simp [intOf]; omega
    · have hkl : k = text.length := by omega
      subst hkl
      have HTT := Lib.hid (show ∀ x ∈ text, x ≠ [46] ∧ (10 : UInt8) ∉ x from fun x hx => by
        obtain ⟨j, hj, rfl⟩ := List.mem_iff_getElem.1 hx
        exact HT.out j _ hj (List.getElem?_eq_getElem hj))
      clear HT
      by_cases hck : checkL base = 0
      · have HCK := Lib.hid hck
        clear hck
        go_wp2_with fail
        refine (made_ok base ao1 cap1 _ H1.out (by omega) HCK.out).mono ?_
        rintro e w2 ⟨d, rfl, c, t, r, q, hE, hC, hT, hR, hrd, hdc, hcw, hdw, hb2⟩
        have HE := Lib.hid hE
        have HC := Lib.hid hC
        have HT := Lib.hid hT
        have HR := Lib.hid hR
        have HF := Lib.hid (⟨hrd, hdc, hcw, hdw⟩ : r ≠ d ∧ d ≠ c ∧ w1.heap.size ≤ c ∧ w1.heap.size ≤ d)
        have HB2 := Lib.hid hb2
        clear hE hC hT hR hrd hdc hcw hdw hb2
        go_upto_region 18 with fail
        obtain ⟨K, hKe, hK⟩ := num_k n base.length
        rw [hKe]
        clear hKe
        have hcv := fun w : World => conv_two w K (by omega)
        obtain ⟨SK, hSK⟩ : ∃ SK : ByteArray, SK = ⟨#[UInt8.ofNat (48 + K), 97]⟩ := ⟨_, rfl⟩
        rw [← hSK] at hcv
        have HSK := Lib.hid hSK
        clear hSK
        go_wp2_with fail
        generalize hwA : w2.alloc _ = wA
        have HA := Lib.hid (show Below w2.heap.size w2 wA from hwA ▸ below_alloc w2 _)
        clear hwA
        have hz2 := HB2.out.size
        have hzA := HA.out.size
        refine (stepCmd HSK.out (by omega) (Nat.le_trans HS.out (Nat.le_trans hz2 hzA)) (HE.out.later HA.out)).mono ?_
        rintro e w3 ⟨rfl, lb, lq, lc, hE3, hN3, hlc, hlb, hk3⟩
        obtain ⟨frd, fdc, fcw, fdw⟩ := HF.out
        have hcl := HC.out.lt
        have hdl := HE.out.lt
        have hz3 := hk3.size
        have HE3 := Lib.hid hE3
        have HN3 := Lib.hid hN3
        have HC3 := Lib.hid ((HC.out.later HA.out).kept hk3 (by unfold Only; omega))
        have HR3 := Lib.hid ((HR.out.later HA.out).kept hk3 (fun x hx hlt => by
          unfold Only at hx
          subst hx
          exact ⟨_, _, _, HE.out.later HA.out, by decide⟩))
        have HT3 := Lib.hid ((HT.out.later HA.out).kept (hk3.mono (fun x _ hx => by unfold Only at hx; subst hx; exact .inr rfl)))
        have HB3 := Lib.hid ((HB2.out.trans (HA.out.mono hz2)).trans (hk3.below (Nat.le_trans hz2 hzA) (fun x hx => by unfold Only at hx; omega)))
        have HLB := Lib.hid (⟨by omega, by omega⟩ : lb ≠ c ∧ lb ≠ d)
        have HLC := Lib.hid hlc
        have HFF := Lib.hid (⟨frd, fdc, fcw, fdw⟩ : r ≠ d ∧ d ≠ c ∧ w1.heap.size ≤ c ∧ w1.heap.size ≤ d)
        have hdB : d < w3.heap.size := by omega
        have hcB : c < w3.heap.size := by omega
        clear hE3 hN3 hk3 hlc hlb hcv HF frd fdc fcw
        go_wp2_with fail
        go_loopw [14] (fun iv wr => ∃ (k : Nat) (v : Value), iv = .int .i64 (k : Int) ∧ k ≤ text.length ∧ Hid (EdB wr d (.pointer (some ⟨c, 0, none⟩)) (.pointer (some ⟨q, 0, none⟩)) (.slice (some ⟨lb, lq, none⟩) 1 lc) 97 true v) ∧ Hid (OwnStrs wr w3.heap.size v (text.take k)) ∧ Hid (KeepT (Only d) w3 wr)) (fun iv _ => text.length - (intOf iv).toNat)
        case atStart => exact ⟨0, _, rfl, by omega, HE3, Lib.hid (by rw [List.take_zero]; exact OwnStrs.nil _ _), Lib.hid (KeepT.refl _ _)⟩
        case round =>
          obtain ⟨k, v, rfl, hk, HEr, HOr, HKr⟩ := hrel
          have hzr := HKr.out.size
          have HBr := Lib.hid (HB3.out.trans (HKr.out.below HB3.out.size (fun x hx => by unfold Only at hx; omega)))
          by_cases hlt : k < text.length
          · obtain ⟨x, hkx⟩ : ∃ x, text[k]? = some x := ⟨_, List.getElem?_eq_getElem hlt⟩
            obtain ⟨g1, off1, u, hao1, hcell1, hu⟩ := (H2.out.later lasts_str HBr.out).2.2.2 k x hkx
            have hu' : u = .string ⟨x.toArray⟩ := hu
            subst hu'
            subst hao1
            have HST := Lib.hid (stepText (x := x) HEr.out HOr.out hdB hzr (by rw [List.length_take]; omega) (HTT.out x (List.mem_of_getElem? hkx)).1)
            have HTK := Lib.hid (show text.take k ++ [x] = text.take (k + 1) by
              obtain ⟨h, rfl⟩ := List.getElem?_eq_some_iff.1 hkx
              rw [List.take_succ_eq_append_getElem h])
            clear hu hkx
            go_wp2_with fail
            refine HST.out.mono ?_
            rintro e w5 ⟨rfl, v5, hE5, hO5, hk5⟩
            have HE5 := Lib.hid hE5
            rw [HTK.out] at hO5
            have HO5 := Lib.hid hO5
            have HK5 := Lib.hid (HKr.out.trans hk5 (fun i hi h => by
              rcases h with h | h
              · exact h
              · omega))
            clear hE5 hO5 hk5
            go_wp2_with fail
            refine (edText_b HE5.out).mono ?_
            rintro e w6 ⟨rfl, rfl⟩
            go_wp2_with fail
            go_roundw
            case rel => exact ⟨k + 1, v5, by go_num, by omega, HE5, HO5, HK5⟩
            case measure => simp [intOf]; omega
          · have hkl : k = text.length := by omega
            subst hkl
            rw [List.take_length] at HOr
            obtain ⟨ai, ci, hv, hsT⟩ := HOr.out.slOf
            subst hv
            have hia : ∀ b off, ai = some ⟨b, off, none⟩ → b ≠ c ∧ b ≠ d ∧ b < wr.heap.size := fun b off hb => by
              subst hb
              have := HOr.out.lt b rfl
              omega
            obtain ⟨q1, q2, q3, q4⟩ := HFF.out
            have hckT : checkL text = 0 := checkL_ok.2 ⟨fun t ht => (HTT.out t ht).2, by omega, fun t ht => by have := H20.out t ht; omega⟩
            have hmo := manyS_one base
            have hol := ofS_len [base]
            simp only [List.length_singleton] at hol
            have HD := Lib.hid (stepDot (S := Two3 c d) (i := K) (k := base.length) (ps := ofS [base]) (Nat.le_trans HS.out HBr.out.size) HEr.out (HC3.out.kept HKr.out (by unfold Only; omega)) (HR3.out.kept HKr.out (fun x hx hlt => by
              unfold Only at hx
              subst hx
              exact ⟨_, _, _, HE3.out, by decide⟩)) HFF.out.1 (HT3.out.kept (HKr.out.mono (fun x _ hx => .inr hx))) (HN3.out.kept HKr.out (by unfold Only; exact HLB.out.2)) HLB.out.1 HLB.out.2 HLC.out (fun x hx => by rcases hx with h | h <;> omega) (.inl rfl) (.inr rfl) (by omega) (by omega) (by omega) hckT hsT hia (by omega) HFF.out.2.1)
            rw [ofS_one] at HD
            clear hia hckT hmo hol hsT
            go_wp2_with fail
            refine HD.out.mono ?_
            rintro e w5 ⟨vd, rfl, hE5, t', S', ps', hCo, hF5, hk5⟩
            have HE5 := Lib.hid hE5
            have HCo := Lib.hid hCo
            have HF5 := Lib.hid hF5
            have HB5 := Lib.hid (HBr.out.trans (hk5.below HBr.out.size (fun x hx => by
              have := HFF.out
              rcases hx with h | h <;> omega)))
            have HTL := Lib.hid (show (base.take K).length = K by rw [List.length_take]; omega)
            have HDL := Lib.hid (show (base.drop K).length = base.length - K by rw [List.length_drop])
            have HLY := Lib.hid (show layS base text K = base.take K ++ text ++ base.drop K by rfl)
            clear hE5 hCo hF5 hk5 HD
            go_wp2_with (refine wpList_cut_h rfl _ _ rfl ao1 _ cap1 rfl base rfl (H1.out.later lasts_str HB5.out) _ rfl K rfl hK ?_)
            intro ao6 c6 hs6
            have HS6 := Lib.hid hs6
            clear hs6
            refine wpList_append_any rfl _ _ rfl w5.heap.size _ [] rfl (OwnStrs.nil _ _) _ _ _ (base.take K) HTL.out rfl HS6.out (Nat.le_refl _) (by have := HTL.out; simp only [List.length_nil]; omega) ?_
            intro v6 w6 ho6 hb6
            have HO6 := Lib.hid ho6
            have HB6 := Lib.hid hb6
            have HBW6 := Lib.hid (HB5.out.trans (hb6.mono HB5.out.size))
            clear ho6 hb6
            go_wp2_with (at_builtin; refine wpList_append_any rfl _ _ rfl w5.heap.size _ _ rfl HO6.out ao2 _ cap2 text rfl rfl (H2.out.later lasts_str HBW6.out) HB6.out.size (by have := HTL.out; simp only [List.nil_append]; omega) ?_)
            intro v7 w7 ho7 hb7
            have HO7 := Lib.hid ho7
            have HB7 := Lib.hid (HB6.out.trans hb7)
            have HBW7 := Lib.hid (HB5.out.trans (HB7.out.mono HB5.out.size))
            clear ho7 hb7
            go_wp2_with (refine wpList_cut_l rfl _ _ rfl ao1 _ cap1 rfl base rfl (H1.out.later lasts_str HBW7.out) _ rfl K rfl hK ?_)
            intro ao8 c8 hs8
            have HS8 := Lib.hid hs8
            clear hs8
            refine wpList_append_any rfl _ _ rfl w5.heap.size _ _ rfl HO7.out _ _ _ (base.drop K) HDL.out rfl HS8.out HB7.out.size (by have := HTL.out; have := HDL.out; simp only [List.nil_append, List.length_append]; omega) ?_
            rw [← HLY.out]
            intro v9 w9 ho9 hb9
            have HB9 := Lib.hid (HB7.out.trans hb9)
            have HBW9 := Lib.hid (HB5.out.trans (HB9.out.mono HB5.out.size))
            obtain ⟨a9, k9, hv9, hs9⟩ := ho9.slOf
            subst hv9
            have HS9 := Lib.hid hs9
            have HE9 := Lib.hid (HE5.out.later HB9.out)
            have HC9 := Lib.hid (HCo.out.later HB9.out)
            have HSL := Lib.hid (sameS_self (layS base text K))
            clear ho9 hb9 hs9
            go_wp2_with fail
            refine (edCore_b HE9.out).mono ?_
            rintro e wA2 ⟨rfl, rfl⟩
            go_wp2_with fail
            refine (edText_b HE9.out).mono ?_
            rintro e wA3 ⟨rfl, rfl⟩
            go_wp2_with fail
            refine (coreN_of HC9.out).mono ?_
            rintro e wA4 ⟨rfl, rfl⟩
            go_wp2_with fail
            refine (coreAllN_of HC9.out (layS base text K) HF5.out).mono ?_
            rintro e w10 ⟨ao10, cap10, rfl, hs10, hb10⟩
            have HS10 := Lib.hid hs10
            have HBW10 := Lib.hid (step2 HBW9.out hb10)
            have HSN := Lib.hid (HS9.out.later lasts_str hb10)
            have HC10 := Lib.hid (HC9.out.later hb10)
            clear hs10 hb10
            go_wp2_with fail
            refine (same17_any (layS base text K) (layS base text K) ao10 a9 cap10 k9 _ HS10.out HSN.out).mono ?_
            rintro e w11 ⟨rfl, n11, rfl⟩
            rw [HSL.out]
            have HBW11 := Lib.hid (HBW10.out.trans (below_draw _ n11))
            have HC11 := Lib.hid (HC10.out.later (below_draw _ n11))
            go_wp2_with fail
            refine (coreCur_of HC11.out).mono ?_
            rintro e w12 ⟨rfl, rfl⟩
            go_wp2_with fail
            refine (HLV.out _ HBW11.out).mono ?_
            rintro e w13 ⟨rfl, hb13⟩
            have HB13 := Lib.hid (step2 HBW11.out hb13)
            clear hb13
            go_wp2_with fail
            go_returns
            exact ⟨rfl, HB13.out⟩
      · have HM := Lib.hid (made_no base ao1 cap1 w1 H1.out (by omega) hck)
        have HN := Lib.hid (fun (X : World) (h : SlOf IsStr X ao1 cap1 base) => coreNew_no base ao1 cap1 X h (by omega) hck)
        clear hck
        go_wp2_with fail
        refine HM.out.mono ?_
        rintro e w2 ⟨rfl, hb2⟩
        have HB2 := Lib.hid hb2
        clear hb2
        go_wp2_with fail
        refine (HN.out _ (H1.out.later lasts_str HB2.out)).mono ?_
        rintro e w3 ⟨rfl, rfl⟩
        go_wp2_with fail
        refine (HLV.out _ HB2.out).mono ?_
        rintro e w4 ⟨rfl, hb4⟩
        have HB4 := Lib.hid (step2 HB2.out hb4)
        clear hb4
        go_wp2_with fail
        go_returns
        exact ⟨rfl, HB4.out⟩
end Go.Proofs.YtdljidgmdjndgaaGreatDoor
