/- The walk of RunsMove (chapter 23). -/
import Derived.Test.YtjibimocplkfiaaGreatDoorRn7
import Derived.Test.YtjibimocplkfiaaGreatDoorRm0
import Derived.Test.YtjibimocplkfiaaGreatDoorRsZ
import Derived.Deep.CutRange
namespace Go.Proofs.YtjibimocplkfiaaGreatDoor
open Go Go.Proofs Go.Ev Go.RowKit Go.Ink Go.Sort

theorem wrapS {n m : Int} (h : n = m) (h0 : 0 ≤ m) (h1 : m < 9223372036854775808) : wrap64 n = m := by
  subst h
  unfold wrap64
  omega
theorem num_a (n0 : UInt8) (N : Nat) (h : 1 ≤ N) (h8 : N ≤ 8) : ∃ I : Nat, wrap64 (1 + (wrap64 (n0.toNat : Int)).tmod (N : Int)) = (I : Int) ∧ 1 ≤ I ∧ I ≤ N := by
  have hu : n0.toNat < 256 := n0.toNat_lt
  have hm := Nat.mod_lt n0.toNat (show 0 < N by omega)
  refine ⟨1 + n0.toNat % N, ?_, by omega, by omega⟩
  rw [wrapS (n := (n0.toNat : Int)) rfl (by omega) (by omega), show (n0.toNat : Int).tmod (N : Int) = ((n0.toNat % N : Nat) : Int) from rfl]
  exact wrapS (by omega) (by omega) (by omega)
theorem num_b (n1 : UInt8) (N I : Nat) (h8 : N ≤ 8) (h1 : 1 ≤ I) (h2 : I ≤ N) : wrap64 (wrap64 ((N : Int) - (I : Int)) + 1) ≠ 0 ∧ ∃ J : Nat, wrap64 ((I : Int) + (wrap64 (n1.toNat : Int)).tmod (wrap64 (wrap64 ((N : Int) - (I : Int)) + 1))) = (J : Int) ∧ I ≤ J ∧ J ≤ N := by
  have hu : n1.toNat < 256 := n1.toNat_lt
  have hm := Nat.mod_lt n1.toNat (show 0 < N - I + 1 by omega)
  rw [wrapS (n := (N : Int) - (I : Int)) (m := ((N - I : Nat) : Int)) (by omega) (by omega) (by omega), wrapS (n := ((N - I : Nat) : Int) + 1) (m := ((N - I + 1 : Nat) : Int)) (by omega) (by omega) (by omega), wrapS (n := (n1.toNat : Int)) rfl (by omega) (by omega),
    show (n1.toNat : Int).tmod ((N - I + 1 : Nat) : Int) = ((n1.toNat % (N - I + 1) : Nat) : Int) from rfl]
  exact ⟨by omega, I + n1.toNat % (N - I + 1), wrapS (by omega) (by omega) (by omega), by omega, by omega⟩
theorem num_d (n2 : UInt8) (N : Nat) : ∃ D : Nat, (wrap64 (n2.toNat : Int)).tmod ((N : Int) + 1) = (D : Int) ∧ D ≤ N := by
  have hu : n2.toNat < 256 := n2.toNat_lt
  have hm := Nat.mod_lt n2.toNat (show 0 < N + 1 by omega)
  refine ⟨n2.toNat % (N + 1), ?_, by omega⟩
  rw [wrapS (n := (n2.toNat : Int)) rfl (by omega) (by omega)]
  rfl
set_option maxRecDepth 100000 in
set_option maxHeartbeats 2000000 in
theorem coreNew_apart (l : List Line) (ao : Option Addr) (cap : Nat) (w : World) (hl : SlOf IsStr w ao cap l) (hlen : l.length ≤ 100000) (h0 : checkL l = 0) :
    Calls Tryz.prog 6 #[.slice ao l.length cap] w fun e w' => ∃ c t r, e = .returned (.tuple #[.pointer (some ⟨c, 0, none⟩), .int .i64 0]) ∧ TabOf (Only c) w' t (ofS [l]) ∧ CoreB w' c t (l.length : Int) [] r false none none none (.slice none 0 0) ∧ NewRegs w' r ∧ w.heap.size ≤ c ∧ Below w.heap.size w w' := by
  have HT := Lib.hid ((tabNew_any (S := fun _ => False) l ao cap w hl hlen (fun _ h => h.elim)).mono (R' := fun e w' => ∃ b, e = .returned (.pointer (some ⟨b, 0, none⟩)) ∧ TabOf (fun _ => False) w' b (ofS [l]) ∧ Below w.heap.size w w') fun e w' h => by
    unfold NewTab at h
    rw [if_pos h0] at h
    exact h)
  clear hl h0
  go_enter Tryz.func6, Tryz.ntmps6
  go_wp2_with fail
  refine HT.out.mono ?_
  rintro e w1 ⟨t, rfl, ht, hb1⟩
  have HTB := Lib.hid ht
  have HB1 := Lib.hid hb1
  clear ht hb1
  go_wp2_with fail
  refine (regsNew_any _).mono ?_
  rintro e w2 ⟨r, rfl, hr, hrl, hb2⟩
  have HB2 := Lib.hid (HB1.out.trans (hb2.mono HB1.out.size))
  have HT2 := Lib.hid (HTB.out.later hb2)
  have HR := Lib.hid hr
  clear hr hrl hb2
  go_wp2_with fail
  go_returns
  refine ⟨w2.heap.size, t, r, rfl, ?_, (heap_alloc_at _ _).trans rfl, HR.out.later ((Below.refl _ _).alloc (Nat.le_refl _) _), HB2.out.size, HB2.out.alloc HB2.out.size _⟩
  exact (HT2.out.apart (S' := Only w2.heap.size) (fun k hk => by unfold Only at hk; exact .inr (Nat.le_of_eq hk.symm))).later ((Below.refl _ _).alloc (Nat.le_refl _) _)
set_option maxRecDepth 100000 in
set_option maxHeartbeats 2000000 in
theorem runsMove_out (l : List Line) (ao : Option Addr) (cap : Nat) (n0 n1 n2 : UInt8) (w : World) (hl : SlOf IsStr w ao cap l) (hs : 6 ≤ w.heap.size) (ht : TabW w) (hout : l.length = 0 ∨ ¬ checkL l = 0) :
    Calls Tryz.prog 3 #[.slice ao l.length cap, .agg #[.int .u8 (n0.toNat : Int), .int .u8 (n1.toNat : Int), .int .u8 (n2.toNat : Int)]] w fun e w' => e = .returned (.bool true) ∧ Below w.heap.size w w' := by
  have hc : l.length ≤ 9223372036854775807 := Nat.le_trans hl.1 hl.2.1
  have HA := Lib.hid (below_alloc w (.cells #[.int .u8 (n0.toNat : Int), .int .u8 (n1.toNat : Int), .int .u8 (n2.toNat : Int)] 23))
  have HX := Lib.hid (heap_alloc_at w (.cells #[.int .u8 (n0.toNat : Int), .int .u8 (n1.toNat : Int), .int .u8 (n2.toNat : Int)] 23))
  have HL := Lib.hid hl
  have HS := Lib.hid hs
  have HTW := Lib.hid ht
  have HLV := Lib.hid (fun (X : World) (hb : Below w.heap.size w X) => lives_any (w := X) ⟨Nat.le_trans hs hb.size, ht.later hb⟩)
  clear hl hs ht
  by_cases hl0 : l.length = 0
  · have hnil := List.eq_nil_of_length_eq_zero hl0
    subst hnil
    clear hl0 hc
    have HBT := Lib.hid (show ∀ X : World, SlOf IsStr X ao cap [] → Calls Tryz.prog 4 #[.slice ao 0 cap, .int .i64 8] X fun e w' => SomeB (fewQ [] 8) e ∧ w' = X from fun X h => beyondText_any [] ao cap 8 X h)
    show Calls Tryz.prog 3 #[.slice ao 0 cap, _] w _
    go_enter Tryz.func3, Tryz.ntmps3
    go_wp2_with fail
    refine (HBT.out _ (HL.out.later lasts_str HA.out)).mono ?_
    rintro e w1 ⟨⟨b, rfl, hb⟩, rfl⟩
    cases b
    all_goals (
      clear hb
      go_wp2_with fail
      refine (HLV.out _ HA.out).mono ?_
      rintro e w2 ⟨rfl, hb2⟩
      have HB2 := Lib.hid (HA.out.trans (hb2.mono HA.out.size))
      clear hb2
      go_wp2_with fail
      go_returns
      exact ⟨rfl, HB2.out⟩)
  · have hli : ((l.length : Int) == 0) = false := by rw [beq_eq_false_iff_ne]; omega
    have hlz : ¬ (l.length : Int) = 0 := by omega
    go_enter Tryz.func3, Tryz.ntmps3
    go_wp2_with fail
    refine (beyondText_any l ao cap 8 _ (HL.out.later lasts_str HA.out)).mono ?_
    rintro e w1 ⟨⟨b, rfl, hb⟩, rfl⟩
    cases b
    · have h8 : l.length ≤ 8 := by have := (hb rfl).1; omega
      clear hb
      by_cases hck : checkL l = 0
      · rcases hout with h | h
        · exact absurd h hl0
        · exact absurd hck h
      · have HNO := Lib.hid (fun (X : World) (h : SlOf IsStr X ao cap l) => coreNew_no l ao cap X h (by omega) hck)
        clear hck
        go_wp2_with fail
        refine (HNO.out _ (HL.out.later lasts_str HA.out)).mono ?_
        rintro e w2 ⟨rfl, rfl⟩
        go_wp2_with fail
        refine (HLV.out _ HA.out).mono ?_
        rintro e w3 ⟨rfl, hb3⟩
        have HB3 := Lib.hid (HA.out.trans (hb3.mono HA.out.size))
        clear hb3
        go_wp2_with fail
        go_returns
        exact ⟨rfl, HB3.out⟩
    · clear hb
      go_wp2_with fail
      refine (HLV.out _ HA.out).mono ?_
      rintro e w2 ⟨rfl, hb2⟩
      have HB2 := Lib.hid (HA.out.trans (hb2.mono HA.out.size))
      clear hb2
      go_wp2_with fail
      go_returns
      exact ⟨rfl, HB2.out⟩
/-- The numbers of a move. -/
structure MoveN (N : Nat) (n0 n1 n2 : UInt8) (I J D : Nat) : Prop where
  ie : wrap64 (1 + (wrap64 (n0.toNat : Int)).tmod (N : Int)) = (I : Int)
  i1 : 1 ≤ I
  i2 : I ≤ N
  z : wrap64 (wrap64 ((N : Int) - (I : Int)) + 1) ≠ 0
  je : wrap64 ((I : Int) + (wrap64 (n1.toNat : Int)).tmod (wrap64 (wrap64 ((N : Int) - (I : Int)) + 1))) = (J : Int)
  j1 : I ≤ J
  j2 : J ≤ N
  de : (wrap64 (n2.toNat : Int)).tmod ((N : Int) + 1) = (D : Int)
  d : D ≤ N
theorem moveN_any (N : Nat) (n0 n1 n2 : UInt8) (h1 : 1 ≤ N) (h8 : N ≤ 8) : ∃ I J D, MoveN N n0 n1 n2 I J D := by
  obtain ⟨I, hIe, hI1, hI2⟩ := num_a n0 N h1 h8
  obtain ⟨hz, J, hJe, hJ1, hJ2⟩ := num_b n1 N I h8 hI1 hI2
  obtain ⟨D, hDe, hD⟩ := num_d n2 N
  exact ⟨I, J, D, hIe, hI1, hI2, hz, hJe, hJ1, hJ2, hDe, hD⟩
end Go.Proofs.YtjibimocplkfiaaGreatDoor
