/- The walks of the reference's Name, of Mine and the reference's Mine (chapter 24). -/
import Derived.Test.YthcdhfgoaaiciaaGreatDoorDk1
import Derived.Test.YthcdhfgoaaiciaaGreatDoorDkZ
set_option linter.unusedVariables false
set_option linter.unusedSimpArgs false
namespace Go.Proofs.YthcdhfgoaaiciaaGreatDoor
open Go Go.Proofs Go.RowKit Go.Ink Go.Ev

set_option maxHeartbeats 1000000 in
theorem refName_any (s : List UInt8) (w : World) (hs : s.length ≤ 100) :
    Calls Tryz.prog 6 #[.string ⟨s.toArray⟩] w fun e w' => e = .returned (.bool (nameB s)) ∧ w' = w := by
  obtain ⟨r, hr⟩ : ∃ r, nameB s = r := ⟨_, rfl⟩
  rw [hr]
  have HR := Lib.hid hr
  have HSZ := size_mk s
  clear hr
  by_cases h0 : s = []
  · subst h0
    go_enter Tryz.func6, Tryz.ntmps6
    go_wp2_with fail
    go_returns
    exact ⟨by rw [← HR.out]; rfl, rfl⟩
  have h0b : (s == []) = false := by simpa using h0
  by_cases h16 : 16 < s.length
  · have h16i : (16 : Int) < (s.length : Int) := by omega
    have HF := Lib.hid (show nameB s = false by unfold nameB; rw [decide_eq_true h16]; simp)
    go_enter Tryz.func6, Tryz.ntmps6
    go_wp2_with fail
    go_returns
    exact ⟨by rw [← HR.out, HF.out]; rfl, rfl⟩
  have h16i : ¬ (16 : Int) < (s.length : Int) := by omega
  have HN : Hid (nameB s = (!(s.take 3 == logL) && !(s.any badC))) := Lib.hid (by unfold nameB; rw [h0b, decide_eq_false h16]; rfl)
  have loop : ∀ (hp : (s.take 3 == logL) = false), Hid ((s.take 3 == logL) = false) := fun hp => Lib.hid hp
  by_cases hp : (s.take 3 == logL) = true
  · have h3 : 3 ≤ s.length := by
      have := congrArg List.length (beq_iff_eq.1 hp)
      simp [logL] at this
      omega
    have h3i : (3 : Int) ≤ (s.length : Int) := by omega
    have hx := take_mk s 3
    have HP := Lib.hid hp
    obtain ⟨x, hxx⟩ : ∃ x, s.take 3 = x := ⟨_, rfl⟩
    rw [hxx] at hx HP HN
    have hq : (x == [108, 111, 103]) = true := HP.out
    clear loop hp hxx
    go_enter Tryz.func6, Tryz.ntmps6
    go_wp2_with fail
    go_returns
    exact ⟨by rw [← HR.out, HN.out, HP.out]; rfl, rfl⟩
  have hpf : (s.take 3 == logL) = false := by simpa using hp
  have HP := loop hpf
  clear loop hp
  have key : ∀ (K : Prop), K → K := fun _ h => h
  by_cases h3 : 3 ≤ s.length
  · have h3i : (3 : Int) ≤ (s.length : Int) := by omega
    have hx := take_mk s 3
    obtain ⟨x, hxx⟩ : ∃ x, s.take 3 = x := ⟨_, rfl⟩
    rw [hxx] at hx HP HN hpf
    have hq : (x == [108, 111, 103]) = false := hpf
    clear hxx hpf key
    go_enter Tryz.func6, Tryz.ntmps6
    go_wp2_with fail
    go_loop [3] (fun i => ∃ k : Nat, i = .int .i64 k ∧ k ≤ s.length ∧ Hid (Hno badC s k)) (fun i => s.length - (intOf i).toNat)
    case atStart => exact ⟨0, rfl, by omega, Lib.hid fun j y hj => by omega⟩
    case round =>
      obtain ⟨k, rfl, hk, HNo⟩ := hrel
      clear hx hq
      by_cases hlt : k < s.length
      · have hki : (k : Int) < (s.length : Int) := by omega
        have HK := Lib.hid (List.getElem?_eq_getElem hlt)
        have hby : ∀ h, (⟨s.toArray⟩ : ByteArray)[k]'h = s[k]'hlt := fun h => rfl
        have HB := Lib.hid (show badC (s[k]'hlt) = decide ((s[k]'hlt).toNat < 33 ∨ 125 < (s[k]'hlt).toNat) from rfl)
        generalize s[k]'hlt = c at *
        have hc : c.toNat < 256 := c.toNat_lt
        by_cases h1 : c.toNat < 33
        · have h1i : (c.toNat : Int) < 33 := by omega
          have HT := Lib.hid (show badC c = true by rw [HB.out]; simp [h1])
          go_wp2_with fail
          go_ret
          exact ⟨by rw [← HR.out, HN.out, any_yes HK.out HT.out]; simp, rfl⟩
        · have h1i : ¬ (c.toNat : Int) < 33 := by omega
          by_cases h2 : 125 < c.toNat
          · have h2i : (125 : Int) < (c.toNat : Int) := by omega
            have HT := Lib.hid (show badC c = true by rw [HB.out]; simp [h2])
            go_wp2_with fail
            go_ret
            exact ⟨by rw [← HR.out, HN.out, any_yes HK.out HT.out]; simp, rfl⟩
          · have h2i : ¬ (125 : Int) < (c.toNat : Int) := by omega
            have HT := Lib.hid (show badC c = false by rw [HB.out]; simp [h1, h2])
            go_wp2_with fail
            go_round
            case rel => exact ⟨k + 1, by go_num, by omega, Lib.hid (HNo.out.next HK.out HT.out)⟩
            case measure => simp [intOf]; omega
      · have hki : ¬ (k : Int) < (s.length : Int) := by omega
        obtain rfl : k = s.length := by omega
        go_wp2_with fail
        go_ret
        exact ⟨by rw [← HR.out, HN.out, any_no HNo.out, HP.out]; rfl, rfl⟩
  · have h3i : ¬ (3 : Int) ≤ (s.length : Int) := by omega
    clear hpf key
    go_enter Tryz.func6, Tryz.ntmps6
    go_wp2_with fail
    go_loop [3] (fun i => ∃ k : Nat, i = .int .i64 k ∧ k ≤ s.length ∧ Hid (Hno badC s k)) (fun i => s.length - (intOf i).toNat)
    case atStart => exact ⟨0, rfl, by omega, Lib.hid fun j y hj => by omega⟩
    case round =>
      obtain ⟨k, rfl, hk, HNo⟩ := hrel
      by_cases hlt : k < s.length
      · have hki : (k : Int) < (s.length : Int) := by omega
        have HK := Lib.hid (List.getElem?_eq_getElem hlt)
        have hby : ∀ h, (⟨s.toArray⟩ : ByteArray)[k]'h = s[k]'hlt := fun h => rfl
        have HB := Lib.hid (show badC (s[k]'hlt) = decide ((s[k]'hlt).toNat < 33 ∨ 125 < (s[k]'hlt).toNat) from rfl)
        generalize s[k]'hlt = c at *
        have hc : c.toNat < 256 := c.toNat_lt
        by_cases h1 : c.toNat < 33
        · have h1i : (c.toNat : Int) < 33 := by omega
          have HT := Lib.hid (show badC c = true by rw [HB.out]; simp [h1])
          go_wp2_with fail
          go_ret
          exact ⟨by rw [← HR.out, HN.out, any_yes HK.out HT.out]; simp, rfl⟩
        · have h1i : ¬ (c.toNat : Int) < 33 := by omega
          by_cases h2 : 125 < c.toNat
          · have h2i : (125 : Int) < (c.toNat : Int) := by omega
            have HT := Lib.hid (show badC c = true by rw [HB.out]; simp [h2])
            go_wp2_with fail
            go_ret
            exact ⟨by rw [← HR.out, HN.out, any_yes HK.out HT.out]; simp, rfl⟩
          · have h2i : ¬ (125 : Int) < (c.toNat : Int) := by omega
            have HT := Lib.hid (show badC c = false by rw [HB.out]; simp [h1, h2])
            go_wp2_with fail
            go_round
            case rel => exact ⟨k + 1, by go_num, by omega, Lib.hid (HNo.out.next HK.out HT.out)⟩
            case measure => simp [intOf]; omega
      · have hki : ¬ (k : Int) < (s.length : Int) := by omega
        obtain rfl : k = s.length := by omega
        go_wp2_with fail
        go_ret
        exact ⟨by rw [← HR.out, HN.out, any_no HNo.out, HP.out]; rfl, rfl⟩
/-! Mine -/
def mineL : List UInt8 := [101, 69, 102, 114, 119, 87, 113, 81]
noncomputable def boolOf (r : R (V × H)) : Option Bool := match r with
  | .ok (.bool b, _) => some b
  | _ => none
theorem boolOf_ok {r : R (V × H)} {b : Bool} (h : boolOf r = some b) : ∃ h', r = .ok (.bool b, h') := by
  unfold boolOf at h
  split at h
  · cases h; exact ⟨_, rfl⟩
  · cases h
set_option maxRecDepth 100000 in
theorem in_run : ((List.range 256).all fun b => match boolOf (runTop Tryz.prog hooks24 [] 3000 60 17 [.int .u8 (.ofNat b), .str 8 7297351413038281041] (h0 6)) with
    | some r => Nat.beq (cond r 1 0) (cond (mineL.any fun x => Nat.beq x.toNat b) 1 0)
    | none => false) = true := by decide +kernel
theorem in_any (c : UInt8) {w : World} (hw : 6 ≤ w.heap.size) : Calls Tryz.prog 17 #[.int .u8 (c.toNat : Int), .string ⟨mineL.toArray⟩] w fun e w' => e = .returned (.bool (mineL.any fun x => Nat.beq x.toNat c.toNat)) ∧ Below w.heap.size w w' := by
  have h1 := List.all_eq_true.1 in_run c.toNat (by simpa using c.toNat_lt)
  split at h1
  case h_2 => cases h1
  rename_i r hr
  obtain ⟨h', h2⟩ := boolOf_ok hr
  have e : r = mineL.any fun x => Nat.beq x.toNat c.toNat := by
    cases r <;> cases hq : (mineL.any fun x => Nat.beq x.toNat c.toNat) <;> rw [hq] at h1 <;> first | rfl | cases h1
  refine (runTop_calls no_count mixed hooks24_ok (by intro p hp; cases hp) h2 (fun _ => undef) (vars 6) _ w (vars_rep hw) (vars_glob (by kernel_rfl)) ?_).mono fun e' w' ⟨x, he, G', q1, q2, q3⟩ => ?_
  · refine DenL.cons (by simp [Den]) (DenL.one ?_)
    simp only [Den]
    exact ⟨by decide, by rw [show digs 8 7297351413038281041 = mineL by decide]⟩
  · simp only [Den] at q1
    subst q1
    exact ⟨by rw [he, e], q3.below (vars_ro _)⟩
theorem mine_index (c : UInt8) : decide (0 ≤ Lib.indexByte mineL c) = mineL.any fun x => Nat.beq x.toNat c.toNat := by
  have : ∀ n : Fin 256, decide (0 ≤ Lib.indexByte mineL (UInt8.ofNat n.val)) = mineL.any fun x => Nat.beq x.toNat n.val := by decide +kernel
  have h := this ⟨c.toNat, c.toNat_lt⟩
  simpa using h
end Go.Proofs.YthcdhfgoaaiciaaGreatDoor
