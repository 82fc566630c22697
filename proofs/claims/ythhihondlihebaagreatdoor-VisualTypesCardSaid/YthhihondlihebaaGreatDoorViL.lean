/- The walk of VisualTypes (chapter 28). -/
import Derived.Test.YthhihondlihebaaGreatDoorViK
import Derived.Test.YthhihondlihebaaGreatDoorVsL
import Derived.Test.YthhihondlihebaaGreatDoorSm17
import Derived.Deep.Cut
namespace Go.Proofs.YthhihondlihebaaGreatDoor
open Go Go.Proofs Go.Ev Go.RowKit Go.Ink Go.Sort

theorem byte_atV {x : List UInt8} {j : Nat} {c : UInt8} (h : x[j]? = some c) : ∀ h, (⟨x.toArray⟩ : ByteArray)[j]'h = c := fun _ => by
  obtain ⟨_, rfl⟩ := List.getElem?_eq_some_iff.1 h
  rfl
theorem num_kV (n2 : UInt8) (N : Nat) : ∃ D : Nat, (wrap64 (n2.toNat : Int)).tmod ((N : Int) + 1) = (D : Int) ∧ D ≤ N := by
  have hu : n2.toNat < 256 := n2.toNat_lt
  have hm := Nat.mod_lt n2.toNat (show 0 < N + 1 by omega)
  refine ⟨n2.toNat % (N + 1), ?_, by omega⟩
  rw [show wrap64 (n2.toNat : Int) = (n2.toNat : Int) by unfold wrap64; omega]
  rfl
theorem ne_tenV {c : UInt8} (h : ¬ c = 10) : ((c.toNat : Int) == 10) = false := by
  rw [beq_eq_false_iff_ne]
  intro e
  have h2 : c.toNat = (10 : UInt8).toNat := by
    show c.toNat = 10
    omega
  exact h (UInt8.toNat_inj.1 h2)
theorem wrap_lenV (n : Nat) (h : n ≤ 100) : wrap64 ((n : Int) + 1) = (n : Int) + 1 ∧ ¬ ((n : Int) + 1) = 0 ∧ IntKind.i64.wrap ((n : Int) + 1) = (n : Int) + 1 := by
  refine ⟨by unfold wrap64; omega, by omega, ?_⟩
  rw [IntKind.wrap_i64]; omega
theorem wrap_predV (n : Nat) (h : n ≤ 100) : wrap64 ((n : Int) - 1) = (n : Int) - 1 := by unfold wrap64; omega
theorem wrap_twoV (a b : Nat) (h : a + b ≤ 100) : wrap64 ((a : Int) + (b : Int)) = (a : Int) + (b : Int) ∧ wrap64 ((a : Int) + (b : Int) + 1) = (a : Int) + (b : Int) + 1 := by constructor <;> (unfold wrap64; omega)
theorem tySnoc {text : List UInt8} {j : Nat} {u : UInt8} (h : text[j]? = some u) (s : List Line × Line) : (text.take (j + 1)).foldl tyS s = tyS ((text.take j).foldl tyS s) u := by
  rw [List.take_add_one, h, Option.toList_some, List.foldl_append]
  rfl
theorem extr_nat (s : List UInt8) (a b : Nat) : (⟨s.toArray⟩ : ByteArray).extract a b = ⟨((s.drop a).take (b - a)).toArray⟩ := extractV s a b
theorem no10 {x : Line} (h : checkL [x] = 0) : (10 : UInt8) ∉ x := by
  intro hx
  unfold checkL at h
  rw [if_pos (by simp [hx])] at h
  cases h
theorem offL_ge : ∀ L : List Line, L.length ≤ offL L L.length
  | [] => by simp
  | l :: r => by
    have h := offL_ge r
    have e : offL (l :: r) (l :: r).length = l.length + 1 + offL r r.length := by simp [offL]
    rw [e, List.length_cons]
    omega
theorem sum_factsV (o l n : Nat) (h : o + l ≤ n) : ¬ (n : Int) < (o : Int) + (l : Int) ∧ (0 : Int) ≤ (o : Int) + (l : Int) ∧ (o : Int) + (l : Int) ≤ (n : Int) ∧ ((o : Int) + (l : Int)).toNat = o + l := by
  refine ⟨by omega, by omega, by omega, by omega⟩
theorem sum_facts1V (o l n : Nat) (h : o + l + 1 ≤ n) : (0 : Int) ≤ (o : Int) + (l : Int) + 1 ∧ (o : Int) + (l : Int) + 1 ≤ (n : Int) ∧ ((o : Int) + (l : Int) + 1).toNat = o + l + 1 ∧ (o : Int) + (l : Int) ≤ (o : Int) + (l : Int) + 1 := by
  refine ⟨by omega, by omega, by omega, by omega⟩
theorem next_offV (o l : Nat) : ((o + l + 1 : Nat) : Int) = (o : Int) + (l : Int) + 1 := by omega
def FewL (x : Line) (b : Bool) : Prop := b = false → x.length ≤ 20
set_option maxHeartbeats 1000000 in
theorem visBeyond1 (x : Line) (ao : Option Addr) (cap : Nat) (w : World) (hs : SlOf IsStr w ao cap [x]) :
    Calls Tryz.prog 6 #[.slice ao 1 cap, .string ⟨#[]⟩, .int .i64 0] w fun e w' => SomeB (FewL x) e ∧ w' = w := by
  have HB := Lib.hid (beyondText_any [x] ao cap 8 w hs)
  go_enter Tryz.func6, Tryz.ntmps6
  go_wp2_with fail
  refine HB.out.mono ?_
  rintro e w1 ⟨⟨b, rfl, hb⟩, rfl⟩
  cases b
  case true =>
    clear hb
    go_wp2_with fail
    go_returns
    exact ⟨.mk true (fun h => by cases h), rfl⟩
  have HX := Lib.hid (show x.length ≤ 20 from (hb rfl).2 x (by simp))
  clear hb
  go_wp2_with fail
  go_loop [7] (fun iv => iv = .int .i64 0) (fun _ => 0)
  case atStart => rfl
  case round =>
    obtain rfl := hrel
    go_wp2_with fail
    go_returns
    exact ⟨.mk false (fun _ => HX.out), rfl⟩
set_option maxHeartbeats 1000000 in
theorem begun_no (x : Line) (ao : Option Addr) (cap : Nat) (w : World) (hs : SlOf IsStr w ao cap [x]) (h0 : checkL [x] ≠ 0) :
    Calls Tryz.prog 8 #[.slice ao 1 cap] w fun e w' => e = .returned (.tuple #[.pointer none, .pointer none]) ∧ w' = w := by
  have HN := Lib.hid (coreNew_no [x] ao cap w hs (by simp) h0)
  clear h0
  go_enter Tryz.func8, Tryz.ntmps8
  go_wp2_with fail
  refine HN.out.mono ?_
  rintro e w1 ⟨rfl, rfl⟩
  go_wp2_with fail
  go_returns
  exact ⟨rfl, rfl⟩
set_option maxRecDepth 100000 in
set_option maxHeartbeats 4000000 in
theorem visualTypes_law (line : Line) (col : UInt8) (text : List UInt8) (w : World) (hs : 4 ≤ w.heap.size) (ht : TabW w) :
    Calls Tryz.prog 4 #[.string ⟨line.toArray⟩, .int .u8 (col.toNat : Int), .string ⟨text.toArray⟩] w fun e w' => e = .returned (.bool true) ∧ Below w.heap.size w w' := by
  have HS := Lib.hid hs
  have HLV := Lib.hid (fun (X : World) (hb : Below w.heap.size w X) => lives28_any (w := X) (Nat.le_trans hs hb.size) (ht.later hb))
  have hsl := size_mk line
  have hst := size_mk text
  have hb0 := below_alloc w (.cells #[.string ⟨line.toArray⟩] 9)
  have HBY := Lib.hid (visBeyond1 line (some ⟨w.heap.size, 0, none⟩) 1 (w.alloc (.cells #[.string ⟨line.toArray⟩] 9)) (slOf_oneV (heap_alloc_at w _)))
  have HB0 := Lib.hid hb0
  clear hs ht hb0
  go_enter Tryz.func4, Tryz.ntmps4
  go_wp2_with fail
  refine HBY.out.mono ?_
  generalize w.alloc (.cells #[.string ⟨line.toArray⟩] 9) = w0 at *
  rintro e w1 ⟨⟨b, rfl, hb⟩, rfl⟩
  cases b
  case true =>
    clear hb
    go_wp2_with fail
    refine (HLV.out _ HB0.out).mono ?_
    rintro e w2 ⟨rfl, hb2⟩
    have HB2 := Lib.hid (HB0.out.trans (hb2.mono HB0.out.size))
    clear hb2
    go_wp2_with fail
    go_returns
    exact ⟨rfl, HB2.out⟩
  have HL20 := Lib.hid (show line.length ≤ 20 from hb rfl)
  clear hb HBY
  by_cases h30 : 30 < text.length
  · have h30i : (30 : Int) < (text.length : Int) := by omega
    go_wp2_with fail
    refine (HLV.out _ HB0.out).mono ?_
    rintro e w2 ⟨rfl, hb2⟩
    have HB2 := Lib.hid (HB0.out.trans (hb2.mono HB0.out.size))
    clear hb2
    go_wp2_with fail
    go_returns
    exact ⟨rfl, HB2.out⟩
  have h30i : ¬ (30 : Int) < (text.length : Int) := by omega
  have HT30 := Lib.hid (show text.length ≤ 30 from Nat.le_of_not_lt h30)
  clear h30
  go_wp2_with fail
  go_loop [7] (fun iv => ∃ k : Nat, iv = .int .i64 (k : Int) ∧ k ≤ text.length ∧ Hid (∀ j u, j < k → text[j]? = some u → u = 10 ∨ (32 ≤ u.toNat ∧ u.toNat ≤ 126))) (fun iv => text.length - (intOf iv).toNat)
  case atStart => exact ⟨0, rfl, by omega, Lib.hid (fun j u hj => by omega)⟩
  case round =>
    obtain ⟨k, rfl, hk, HT⟩ := hrel
    by_cases hlt : k < text.length
    · obtain ⟨c, hkc⟩ : ∃ c, text[k]? = some c := ⟨_, List.getElem?_eq_getElem hlt⟩
      have hby := byte_atV hkc
      have HKC := Lib.hid hkc
      have hki : (k : Int) < (text.length : Int) := by omega
      clear hkc
      by_cases hc : c = 10
      · subst hc
        go_wp2_with fail
        go_round
        case rel => exact ⟨k + 1, by go_num, by omega, Lib.hid (fun j u hj hu => by
          by_cases e : j = k
          · subst e; rw [HKC.out] at hu; cases hu; exact .inl rfl
          · exact HT.out j u (by omega) hu)⟩
        case measure => simp [intOf] <;> omega
      · have hcb := ne_tenV hc
        have hcn : ¬ (c.toNat : Int) = 10 := by simpa using hcb
        by_cases h32 : c.toNat < 32
        · have h32i : (c.toNat : Int) < 32 := by omega
          go_wp2_with fail
          refine (HLV.out _ HB0.out).mono ?_
          rintro e w2 ⟨rfl, hb2⟩
          have HB2 := Lib.hid (HB0.out.trans (hb2.mono HB0.out.size))
          clear hb2
          go_wp2_with fail
          go_returns
          exact ⟨rfl, HB2.out⟩
        · have h32i : ¬ (c.toNat : Int) < 32 := by omega
          by_cases h126 : 126 < c.toNat
          · have h126i : (126 : Int) < (c.toNat : Int) := by omega
            go_wp2_with fail
            refine (HLV.out _ HB0.out).mono ?_
            rintro e w2 ⟨rfl, hb2⟩
            have HB2 := Lib.hid (HB0.out.trans (hb2.mono HB0.out.size))
            clear hb2
            go_wp2_with fail
            go_returns
            exact ⟨rfl, HB2.out⟩
          · have h126i : ¬ (126 : Int) < (c.toNat : Int) := by omega
            have HCC := Lib.hid (show 32 ≤ c.toNat ∧ c.toNat ≤ 126 from ⟨Nat.le_of_not_lt h32, Nat.le_of_not_lt h126⟩)
            go_wp2_with fail
            go_round
            case rel => exact ⟨k + 1, by go_num, by omega, Lib.hid (fun j u hj hu => by
              by_cases e : j = k
              · subst e; rw [HKC.out] at hu; cases hu; exact .inr HCC.out
              · exact HT.out j u (by omega) hu)⟩
            case measure => simp [intOf] <;> omega
    · have hki : ¬ (k : Int) < (text.length : Int) := by omega
      have HTX := Lib.hid (show ∀ u ∈ text, u = 10 ∨ (32 ≤ u.toNat ∧ u.toNat ≤ 126) from fun u hu => by
        obtain ⟨j, hj⟩ := List.getElem?_of_mem hu
        exact HT.out j u (by have := (List.getElem?_eq_some_iff.1 hj).1; omega) hj)
      clear HT hlt
      go_wp2_with fail
      have hbB := below_alloc w1 (.cells #[.string ⟨line.toArray⟩] 9)
      have HSX := Lib.hid (slOf_oneV (heap_alloc_at w1 (.cells #[.string ⟨line.toArray⟩] 9)))
      have HZ1 := Lib.hid (lt_of_heap (heap_alloc_at w1 (.cells #[.string ⟨line.toArray⟩] 9)))
      generalize w1.alloc (.cells #[.string ⟨line.toArray⟩] 9) = wB at *
      have HBB := Lib.hid (HB0.out.trans (hbB.mono HB0.out.size))
      clear hbB
      by_cases hck : checkL [line] = 0
      case neg =>
        have HNO := Lib.hid (begun_no line _ 1 wB HSX.out hck)
        have HCN := Lib.hid (fun (X : World) (h : SlOf IsStr X (some ⟨wB.heap.size, 0, none⟩) 1 [line]) => coreNew_no [line] _ 1 X h (by simp) hck)
        clear hck
        refine HNO.out.mono ?_
        rintro e w2 ⟨rfl, rfl⟩
        have hbC := below_alloc w2 (.cells #[.string ⟨line.toArray⟩] 9)
        have HSC := Lib.hid (slOf_oneV (heap_alloc_at w2 (.cells #[.string ⟨line.toArray⟩] 9)))
        have HCM := Lib.hid (HCN.out _ HSC.out)
        have HBC := Lib.hid (HBB.out.trans (hbC.mono HBB.out.size))
        clear hbC
        go_wp2_with fail
        refine HCM.out.mono ?_
        generalize w2.alloc (.cells #[.string ⟨line.toArray⟩] 9) = wC at *
        rintro e w3 ⟨rfl, rfl⟩
        go_wp2_with fail
        refine (HLV.out _ HBC.out).mono ?_
        rintro e w4 ⟨rfl, hb4⟩
        have HB4 := Lib.hid (HBC.out.trans (hb4.mono HBC.out.size))
        clear hb4
        go_wp2_with fail
        go_returns
        exact ⟨rfl, HB4.out⟩
      have HCK := Lib.hid hck
      have HBG := Lib.hid (visBegun line _ 1 HSX.out hck (by have := HL20.out; omega))
      clear hck
      refine HBG.out.mono ?_
      rintro e w2 ⟨c, d, t, r, rfl, q1, q2, q3, q4, q5, q6, q7⟩
      have HI2 := Lib.hid (show IdleAt wB.heap.size w2 c d t r line (firstP line) from ⟨q1, q2, q3, q4, q5, q6⟩)
      have HB2 := Lib.hid q7
      have HX := Lib.hid (show line.length ≤ 1000000 by have := HL20.out; omega)
      have HZB := Lib.hid (Nat.le_trans HS.out HBB.out.size)
      have HS0 := Lib.hid (idle_0 HI2.out (Nat.le_trans HZB.out HB2.out.size) HB2.out.size HX.out (by have := okp_first (F := [line]) (n := 0) (by simp); exact this))
      unfold stepV at HS0
      clear q1 q2 q3 q4 q5 q6 q7
      go_wp2_with fail
      refine HS0.out.mono ?_
      rintro e w3 ⟨rfl, q1, q2⟩
      have HI3 := Lib.hid q1
      have HB3 := Lib.hid (HB2.out.trans (q2.mono (Nat.le_refl _)))
      clear q1 q2
      obtain ⟨hwl1, hwl2, hwl3⟩ := wrap_lenV line.length (by have := HL20.out; omega)
      go_upto_region 14 with fail
      obtain ⟨K, hKe, hK⟩ := num_kV col line.length
      rw [hKe]
      have HKL := Lib.hid hK
      have hwk := wrap_predV K (by have := HL20.out; omega)
      have hK20 : K ≤ 20 := by have := HL20.out; omega
      clear hKe hwl1 hwl2 hwl3 hK
      go_wp2_with fail
      go_loopw [13] (fun iv wr => ∃ j : Nat, iv = .int .i64 (j : Int) ∧ j ≤ K - 1 ∧ Hid (IdleAt wB.heap.size wr c d t r line j ∧ Below wB.heap.size wB wr)) (fun iv _ => K - 1 - (intOf iv).toNat)
      case atStart => exact ⟨0, rfl, by omega, Lib.hid ⟨HI3.out, HB3.out⟩⟩
      case round =>
        obtain ⟨j, rfl, hj, HIJ⟩ := hrel
        by_cases hjk : j + 1 < K
        · have hji : (j : Int) < (K : Int) - 1 := by omega
          have HSL := Lib.hid (idle_l HIJ.out.1 (Nat.le_trans HZB.out HIJ.out.2.size) HIJ.out.2.size HX.out (by have := HKL.out; omega))
          unfold stepV at HSL
          go_wp2_with fail
          refine HSL.out.mono ?_
          rintro e wj ⟨rfl, q1, q2⟩
          have HIN := Lib.hid (⟨q1, HIJ.out.2.trans (q2.mono (Nat.le_refl _))⟩ : IdleAt wB.heap.size wj c d t r line (j + 1) ∧ Below wB.heap.size wB wj)
          clear q1 q2 HSL
          go_wp2_with fail
          go_roundw
          case rel => exact ⟨j + 1, by go_num, by omega, HIN⟩
          case measure => simp [intOf] <;> omega
        · have hji : ¬ (j : Int) < (K : Int) - 1 := by omega
          have HJE := Lib.hid (show j = K - 1 by omega)
          go_upto_if 99 with fail
          go_cut [] from 98 to 104 (fun wx => Hid (TypeAt wB.heap.size wx c d ([], line.take K) (line.drop K) 0 ∧ Below wB.heap.size wB wx))
          case first =>
            by_cases h0 : K = 0
            · have h0i : ((K : Int) == 0) = true := by rw [beq_iff_eq]; omega
              have HST := Lib.hid (idle_i (show IdleAt wB.heap.size wr c d t r line 0 from by have h := HIJ.out.1; rw [HJE.out, h0] at h; exact h) (Nat.le_trans HZB.out HIJ.out.2.size) HIJ.out.2.size)
              rw [show line.take 0 = line.take K by rw [h0], show line.drop 0 = line.drop K by rw [h0]] at HST
              unfold stepV at HST
              clear h0 hj hjk
              go_wp2_with fail
              refine HST.out.mono ?_
              rintro e wz ⟨rfl, q1, q2⟩
              have HZZ := Lib.hid (⟨q1, HIJ.out.2.trans (q2.mono (Nat.le_refl _))⟩ : TypeAt wB.heap.size wz c d ([], line.take K) (line.drop K) 0 ∧ Below wB.heap.size wB wz)
              clear q1 q2
              go_wp2_with fail
              go_meet
              case rel => exact HZZ
            · have h0i : ((K : Int) == 0) = false := by rw [beq_eq_false_iff_ne]; omega
              have HST := Lib.hid (idle_a (show IdleAt wB.heap.size wr c d t r line (K - 1) from by have h := HIJ.out.1; rw [HJE.out] at h; exact h) (by omega) HKL.out HX.out (Nat.le_trans HZB.out HIJ.out.2.size) HIJ.out.2.size)
              unfold stepV at HST
              go_wp2_with fail
              refine HST.out.mono ?_
              rintro e wz ⟨rfl, q1, q2⟩
              have HZZ := Lib.hid (⟨q1, HIJ.out.2.trans (q2.mono (Nat.le_refl _))⟩ : TypeAt wB.heap.size wz c d ([], line.take K) (line.drop K) 0 ∧ Below wB.heap.size wB wz)
              clear q1 q2
              go_wp2_with fail
              go_meet
              case rel => exact HZZ
          case rest =>
            have HC0 := hcut
            clear hcut HI3 HB3 HIJ hji hjk hj hwk HJE
            obtain ⟨A, hA⟩ : ∃ A, line.take K = A := ⟨_, rfl⟩
            obtain ⟨Z, hZ⟩ : ∃ Z, line.drop K = Z := ⟨_, rfl⟩
            rw [hA, hZ] at HC0
            have he1 : (⟨line.toArray⟩ : ByteArray).extract 0 K = ⟨A.toArray⟩ := by rw [extractV, ← hA]; simp
            have he2 : (⟨line.toArray⟩ : ByteArray).extract K line.length = ⟨Z.toArray⟩ := by rw [extractV, ← hZ, List.take_of_length_le (by simp)]
            have hAl : A.length = K := by rw [← hA, List.length_take]; have := HKL.out; omega
            have hZl : Z.length = line.length - K := by rw [← hZ, List.length_drop]
            have HOK := Lib.hid (show TyOk 20 (([] : List Line), A) Z from ⟨fun x hx => (by cases hx), by simp only; have := HKL.out; have := HL20.out; omega, fun h => no10 HCK.out (List.mem_of_mem_take (hA ▸ h)), fun h => no10 HCK.out (List.mem_of_mem_drop (hZ ▸ h))⟩)
            have HLN := Lib.hid (show A.length + Z.length = line.length by have := HKL.out; omega)
            have HE12 := Lib.hid (⟨he1, he2⟩ : (⟨line.toArray⟩ : ByteArray).extract 0 K = ⟨A.toArray⟩ ∧ (⟨line.toArray⟩ : ByteArray).extract K line.length = ⟨Z.toArray⟩)
            clear hA hZ he1 he2 hAl hZl
            go_wp2_with fail
            go_loopw [14, 15, 16, 17, 18] (fun iv _ _ _ _ wr => ∃ j : Nat, iv = .int .i64 (j : Int) ∧ j ≤ text.length ∧ Hid (TypeAt wB.heap.size wr c d ((text.take j).foldl tyS ([], A)) Z j ∧ Below wB.heap.size wB wr)) (fun iv _ _ _ _ _ => text.length - (intOf iv).toNat)
            case atStart => exact ⟨0, rfl, by omega, HC0⟩
            case round =>
              obtain ⟨j, rfl, hj, HIJ⟩ := hrel
              have HTK := Lib.hid (⟨TyOk.all (text.take j) HOK.out, (ty_size (text.take j) ([], A)).1, by rw [List.length_take]; omega⟩ : TyOk (20 + (text.take j).length) ((text.take j).foldl tyS ([], A)) Z ∧ ((text.take j).foldl tyS ([], A)).1.length ≤ ([] : List Line).length + (text.take j).length ∧ (text.take j).length ≤ text.length)
              by_cases hlt2 : j < text.length
              · obtain ⟨u, hju⟩ : ∃ u, text[j]? = some u := ⟨_, List.getElem?_eq_getElem hlt2⟩
                have hby := byte_atV hju
                have HJU := Lib.hid hju
                have hki2 : (j : Int) < (text.length : Int) := by omega
                have HST := Lib.hid (type_step (HTX.out u (List.mem_of_getElem? hju)) HIJ.out.1 HTK.out.1 (by have := HTK.out.2.2; have := HT30.out; omega) (by have h2 := HTK.out.2.1; have h3 := HTK.out.2.2; have := HT30.out; simp only [List.length_nil] at h2; omega) (by have := HT30.out; omega) (Nat.le_trans HZB.out HIJ.out.2.size) HIJ.out.2.size)
                rw [← tySnoc hju] at HST
                unfold stepV at HST
                clear hju
                go_wp2_with fail
                refine HST.out.mono ?_
                rintro e wj ⟨rfl, q1, q2⟩
                have HIN := Lib.hid (⟨q1, HIJ.out.2.trans (q2.mono (Nat.le_refl _))⟩ : TypeAt wB.heap.size wj c d ((text.take (j + 1)).foldl tyS ([], A)) Z (j + 1) ∧ Below wB.heap.size wB wj)
                clear q1 q2 HST
                go_wp2_with fail
                go_roundw
                case rel => exact ⟨j + 1, by go_num, by omega, HIN⟩
                case measure => simp [intOf] <;> omega
              · have hki2 : ¬ (j : Int) < (text.length : Int) := by omega
                have hje : j = text.length := by omega
                have HTE := Lib.hid (show TypeAt wB.heap.size wr c d (text.foldl tyS ([], A)) Z text.length ∧ Below wB.heap.size wB wr from by have h := HIJ.out; rw [hje, List.take_length] at h; exact h)
                have HOE := Lib.hid (⟨TyOk.all text HOK.out, (ty_size text ([], A)).1⟩ : TyOk (20 + text.length) (text.foldl tyS ([], A)) Z ∧ (text.foldl tyS ([], A)).1.length ≤ ([] : List Line).length + text.length)
                have HSE := Lib.hid (type_end HTE.out.1 HOE.out.1 (by have := HT30.out; omega) (by have h2 := HOE.out.2; have := HT30.out; simp only [List.length_nil] at h2; omega) HTE.out.2.size)
                have HLW := Lib.hid (ty_law A Z text)
                obtain ⟨L, hL⟩ : ∃ L, (text.foldl tyS ([], A)).1 ++ [(text.foldl tyS ([], A)).2 ++ Z] = L := ⟨_, rfl⟩
                rw [hL] at HSE HLW
                have HLS := Lib.hid (show ShortL 50 L ∧ L ≠ [] from ⟨fun x hx => by have h := HOE.out.1.lines x (by rw [hL]; exact hx); exact ⟨Nat.le_trans h.1 (by have := HT30.out; omega), h.2⟩, by rw [← hL]; simp⟩)
                unfold stepV at HSE
                clear hje hL HIJ HTK HC0
                go_wp2_with fail
                clear hlt2 hki2
                refine HSE.out.mono ?_
                rintro e wE ⟨ao, cap, rfl, q1, q2⟩
                have HEE := Lib.hid (⟨q1, HTE.out.2.trans (q2.mono (Nat.le_refl _))⟩ : EndAt wE c d L ∧ Below wB.heap.size wB wE)
                clear q1 q2 HSE HTE
                go_upto_region 28 with fail
                obtain ⟨he1, he2⟩ := HE12.out
                have hap1 : (⟨A.toArray⟩ : ByteArray) ++ ⟨text.toArray⟩ = ⟨(A ++ text).toArray⟩ := mk_append _ _
                have hap2 : (⟨(A ++ text).toArray⟩ : ByteArray) ++ ⟨Z.toArray⟩ = ⟨(A ++ text ++ Z).toArray⟩ := mk_append _ _
                have hov1 : ¬ 9223372036854775807 < A.length + text.length := by have := HLN.out; have := HL20.out; have := HT30.out; omega
                have hov2 : ¬ 9223372036854775807 < A.length + text.length + Z.length := by have := HLN.out; have := HL20.out; have := HT30.out; omega
                have hKi : K ≤ line.length := HKL.out
                go_region
                obtain ⟨W4, hW4⟩ : ∃ W4, joinLF L = W4 := ⟨_, rfl⟩
                rw [hW4] at HLW
                have HWW := HLW
                rw [show A ++ (text ++ Z) = W4 from by rw [← List.append_assoc]; exact HWW.out.symm]
                have HJL := Lib.hid hW4
                have hWl : W4.length ≤ 60 := by have h := HWW.out; rw [h, List.length_append, List.length_append]; have := HLN.out; have := HL20.out; have := HT30.out; omega
                have hsw := size_mk W4
                clear hap1 hap2 hov1 hov2 he1 he2 hKi hW4 HLW
                go_wp2_with fail
                go_loopw [24, 25, 26] (fun av iv _ wr => ∃ j : Nat, av = .int .i64 ((offL L j : Nat) : Int) ∧ iv = .int .i64 ((j : Int) + 1) ∧ j ≤ L.length ∧ Hid (EndAt wr c d L ∧ Below wB.heap.size wB wr)) (fun _ iv _ _ => L.length + 1 - (intOf iv).toNat)
                case atStart => exact ⟨0, by rw [offL_zero]; rfl, rfl, by omega, Lib.hid ⟨HEE.out.1.later (Below.refl _ _).drew, HEE.out.2.trans ((Below.refl _ _).drew.mono HEE.out.2.size)⟩⟩
                case round =>
                  obtain ⟨j, rfl, rfl, hj, HEJ⟩ := hrel
                  obtain ⟨⟨⟨v, hv, hvm⟩, S4, t4, cur4, ps4, hco, hfl⟩, hbj⟩ := HEJ.out
                  have hLm : L.length ≤ 61 := by have h1 := (join_pos L).1; have h2 : L.length ≤ offL L L.length := offL_ge L; rw [HJL.out] at h1; omega
                  have HN := Lib.hid (coreN_of hco)
                  rw [manyS_flat, hfl] at HN
                  have HN2 := Lib.hid (fun (X : World) (hb : Below wr.heap.size wr X) => coreN_of (hco.later hb))
                  rw [manyS_flat, hfl] at HN2
                  have HMO := Lib.hid (visMode hv)
                  rw [hvm] at HMO
                  have HLI := Lib.hid (fun (X : World) (hb : Below wr.heap.size wr X) (x : Line) (hx : L[j]? = some x) => coreLine_of (hco.later hb) (j + 1) x (by omega) (by rw [hfl, Nat.add_sub_cancel]; exact hx))
                  have hcv : (((j + 1 : Nat) : Int)) = (j : Int) + 1 := by omega
                  rw [hcv] at HLI
                  clear hv hvm hco hfl hbj hcv
                  by_cases hlt3 : j < L.length
                  · obtain ⟨x, hxj⟩ : ∃ x, L[j]? = some x := ⟨_, List.getElem?_eq_getElem hlt3⟩
                    have HXJ := Lib.hid hxj
                    have HLX := Lib.hid (fun (X : World) (hb : Below wr.heap.size wr X) => HLI.out X hb x hxj)
                    have hja := join_at hxj
                    rw [HJL.out] at hja
                    obtain ⟨hj1, hj2, hj3⟩ := hja
                    obtain ⟨o, ho⟩ : ∃ o, offL L j = o := ⟨_, rfl⟩
                    rw [ho] at hj1 hj2 hj3
                    have HOO := Lib.hid ho
                    rw [ho]
                    have hsx := size_mk x
                    have hnj : (j : Int) + 1 ≤ (L.length : Int) := by omega
                    obtain ⟨hnw, hz0, hz1, hz2⟩ := sum_factsV o x.length W4.length hj1
                    have hex : (⟨W4.toArray⟩ : ByteArray).extract o (o + x.length) = ⟨x.toArray⟩ := by rw [extr_nat, Nat.add_sub_cancel_left, hj2]
                    have hxx : (x == x) = true := by rw [beq_iff_eq]
                    have HJ3 := Lib.hid hj3
                    clear ho hxj hj1 hj2 hj3
                    go_wp2_with fail
                    refine HN.out.mono ?_
                    rintro e wn ⟨rfl, rfl⟩
                    go_wp2_with fail
                    refine (HLX.out _ (Below.refl _ _)).mono ?_
                    rintro e wx ⟨rfl, hbx⟩
                    have HBX := Lib.hid hbx
                    clear hbx
                    by_cases hl : j + 1 < L.length
                    · have hni : (j : Int) + 1 < (L.length : Int) := by clear hz2; omega
                      obtain ⟨hk1, hk2⟩ := HJ3.out hl
                      obtain ⟨hy0, hy1, hy2, hy3⟩ := sum_facts1V o x.length W4.length hk1
                      have hex2 : (⟨W4.toArray⟩ : ByteArray).extract (o + x.length) (o + x.length + 1) = ⟨#[10]⟩ := by rw [extr_nat, Nat.add_sub_cancel_left, hk2]
                      clear hk1 hk2 hl
                      go_wp2_with fail
                      refine ((HN2.out _ HBX.out)).mono ?_
                      rintro e wn2 ⟨rfl, rfl⟩

                      go_wp2_with fail
                      go_roundw
                      case rel => exact ⟨j + 1, by rw [offL_succ HXJ.out, HOO.out, next_offV], by go_num, by omega, Lib.hid ⟨HEJ.out.1.later HBX.out, HEJ.out.2.trans (HBX.out.mono HEJ.out.2.size)⟩⟩
                      case measure => simp [intOf] <;> omega
                    · have hni : ¬ (j : Int) + 1 < (L.length : Int) := by clear hz2; omega
                      clear hl
                      go_wp2_with fail
                      refine ((HN2.out _ HBX.out)).mono ?_
                      rintro e wn2 ⟨rfl, rfl⟩
                      go_wp2_with fail
                      go_roundw
                      case rel => exact ⟨j + 1, by rw [offL_succ HXJ.out, HOO.out, next_offV], by go_num, by omega, Lib.hid ⟨HEJ.out.1.later HBX.out, HEJ.out.2.trans (HBX.out.mono HEJ.out.2.size)⟩⟩
                      case measure => simp [intOf] <;> omega
                  · have hnj : ¬ (j : Int) + 1 ≤ (L.length : Int) := by omega
                    have HJE := Lib.hid (show j = L.length by omega)
                    have hoe : offL L j = W4.length + 1 := by rw [HJE.out, join_end HLS.out.2, HJL.out]
                    rw [hoe]
                    have hce : (((W4.length + 1 : Nat) : Int)) = (W4.length : Int) + 1 := by omega
                    rw [hce]
                    clear hoe hce
                    have HFN := Lib.hid (fun (X : World) (hb : Below wB.heap.size wB X) => HLV.out X (HBB.out.trans (hb.mono HBB.out.size)))
                    by_cases h0 : text = []
                    · subst h0
                      go_wp2_with fail
                      refine HN.out.mono ?_
                      rintro e wn ⟨rfl, rfl⟩
                      go_wp2_with fail
                      refine HMO.out.mono ?_
                      rintro e wn2 ⟨rfl, rfl⟩
                      go_wp2_with fail
                      refine (HFN.out _ HEJ.out.2).mono ?_
                      rintro e wz ⟨rfl, hbz⟩
                      have HBZ := Lib.hid (HBB.out.trans ((HEJ.out.2.trans (hbz.mono HEJ.out.2.size)).mono HBB.out.size))
                      clear hbz
                      go_wp2_with fail
                      go_returns
                      exact ⟨rfl, HBZ.out⟩
                    · have htb : (text == []) = false := by rw [beq_eq_false_iff_ne]; exact h0
                      have htp : (0 : Int) < (text.length : Int) := by have := List.length_pos_iff.2 h0; omega
                      have htq : (text.length : Int) > 0 := htp
                      have htd : decide ((text.length : Int) > 0) = true := decide_eq_true htp
                      have HHT := Lib.hid h0
                      clear h0
                      go_wp2_with fail
                      refine HN.out.mono ?_
                      rintro e wn ⟨rfl, rfl⟩
                      go_wp2_with fail
                      refine HMO.out.mono ?_
                      rintro e wn2 ⟨rfl, rfl⟩
                      go_wp2_with fail
                      refine (HFN.out _ HEJ.out.2).mono ?_
                      rintro e wz ⟨rfl, hbz⟩
                      have HBZ := Lib.hid (HBB.out.trans ((HEJ.out.2.trans (hbz.mono HEJ.out.2.size)).mono HBB.out.size))
                      clear hbz
                      go_wp2_with fail
                      go_returns
                      exact ⟨rfl, HBZ.out⟩
end Go.Proofs.YthhihondlihebaaGreatDoor
