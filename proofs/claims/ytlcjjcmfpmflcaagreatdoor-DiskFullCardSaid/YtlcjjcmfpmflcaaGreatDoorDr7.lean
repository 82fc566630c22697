/- A command of package disk that is being done: its block; its small calls (chapter 24). -/
import Derived.Test.YtlcjjcmfpmflcaaGreatDoorDr5
import Derived.Test.YtlcjjcmfpmflcaaGreatDoorDr6
import Derived.Test.YtlcjjcmfpmflcaaGreatDoorDk1
import Derived.Test.YtlcjjcmfpmflcaaGreatDoorItoa
import Derived.Test.YtlcjjcmfpmflcaaGreatDoorDr3
import Derived.Test.YtlcjjcmfpmflcaaGreatDoorCo1
set_option linter.unusedVariables false
set_option linter.unusedSimpArgs false
namespace Go.Proofs.YtlcjjcmfpmflcaaGreatDoor
open Go Go.Proofs Go.RowKit Go.Ink Go.Sort

/-- The cells of a command: what is told, its buffer, the name, what was changed, whether it ends, was written, is a new one, the file system, the command, whether by force. -/
def diskCells (out nm n2 : List UInt8) (c : Nat) (wr an : Bool) (f : Addr) (k : Int) : List Value :=
  [.string ⟨out.toArray⟩, .pointer (some ⟨c, 0, none⟩), .string ⟨nm.toArray⟩, .slice none 0 0, .bool false, .bool wr, .bool an, .pointer (some f), .slice none 0 0, .slice none 0 0, .int .u8 k, .int .i64 0, .int .i64 0, .string ⟨#[]⟩, .int .i64 0, .int .u8 0, .string ⟨#[]⟩, .string ⟨#[]⟩, .bool false, .int .i64 0, .string ⟨#[]⟩, .string ⟨n2.toArray⟩, .int .u8 0, .bool false]
def RunD (w : World) (d : Nat) (out nm n2 : List UInt8) (c : Nat) (wr an : Bool) (f : Addr) (k : Int) : Prop := w.heap[d]? = some (.cells (diskCells out nm n2 c wr an f k).toArray 106 (0, 0))
section
variable {S : Nat → Prop} {w w' : World} {d c : Nat} {out nm n2 : List UInt8} {wr an : Bool} {f : Addr} {k : Int}
theorem RunD.lt (h : RunD w d out nm n2 c wr an f k) : d < w.heap.size := lt_of_heap h
theorem RunD.at (h : RunD w d out nm n2 c wr an f k) (j : Nat) {v : Value} (hj : (diskCells out nm n2 c wr an f k)[j]? = some v) : w.cell? ⟨d, j, none⟩ = some v := by
  rw [Lib.cell_of_heap h]
  simpa using hj
theorem RunD.fz (h : RunD w d out nm n2 c wr an f k) (j : Nat) : w.frozen? ⟨d, j, none⟩ = false := Lib.frozen_of_heap h j
theorem RunD.kept (h : RunD w d out nm n2 c wr an f k) (hk : KeepT S w w') (hn : ¬ S d) : RunD w' d out nm n2 c wr an f k := (hk.block d h.lt hn).trans h
theorem RunD.later (h : RunD w d out nm n2 c wr an f k) (hb : Below w.heap.size w w') : RunD w' d out nm n2 c wr an f k := (hb.block d h.lt).trans h
theorem RunD.set0 (h : RunD w d out nm n2 c wr an f k) (l : List UInt8) : RunD (w.setCell ⟨d, 0, none⟩ (.string ⟨l.toArray⟩)) d l nm n2 c wr an f k := (heap_set h _).trans rfl
theorem RunD.set1 (h : RunD w d out nm n2 c wr an f k) (b : Nat) : RunD (w.setCell ⟨d, 1, none⟩ (.pointer (some ⟨b, 0, none⟩))) d out nm n2 b wr an f k := (heap_set h _).trans rfl
theorem RunD.set2 (h : RunD w d out nm n2 c wr an f k) (l : List UInt8) : RunD (w.setCell ⟨d, 2, none⟩ (.string ⟨l.toArray⟩)) d out l n2 c wr an f k := (heap_set h _).trans rfl
theorem RunD.set5 (h : RunD w d out nm n2 c wr an f k) (b : Bool) : RunD (w.setCell ⟨d, 5, none⟩ (.bool b)) d out nm n2 c b an f k := (heap_set h _).trans rfl
theorem RunD.set6 (h : RunD w d out nm n2 c wr an f k) (b : Bool) : RunD (w.setCell ⟨d, 6, none⟩ (.bool b)) d out nm n2 c wr b f k := (heap_set h _).trans rfl
theorem diskPlain (h : RunD w d out nm n2 c wr an f k) : Calls Tryz.prog 97 #[.pointer (some ⟨d, 0, none⟩)] w fun e w' => e = .returned (.int .i64 0) ∧ w' = w := by
  have e8 := h.at 8 rfl
  clear h
  go_enter Tryz.func97, Tryz.ntmps97
  go_wp2_with fail
  go_returns
  exact ⟨rfl, rfl⟩
/-- The name that a command means. -/
def fileN (nm n2 : List UInt8) : List UInt8 := if n2 = [] then nm else n2
theorem diskFile (h : RunD w d out nm n2 c wr an f k) (h1 : nm.length ≤ 100) (h2 : n2.length ≤ 100) : Calls Tryz.prog 124 #[.pointer (some ⟨d, 0, none⟩)] w fun e w' => e = .returned (if nameB (fileN nm n2) then .tuple #[.string ⟨(fileN nm n2).toArray⟩, .int .i64 0] else .tuple #[.string ⟨#[]⟩, .int .i64 240]) ∧ w' = w := by
  have e2 := h.at 2 rfl
  have e21 := h.at 21 rfl
  clear h
  by_cases h0 : n2 = []
  · subst h0
    have HF := Lib.hid (show fileN nm [] = nm from rfl)
    rw [HF.out]
    have HN := Lib.hid (name_any nm w h1)
    generalize nameB nm = r at *
    cases r
    · go_enter Tryz.func124, Tryz.ntmps124
      go_wp2_with fail
      refine HN.out.mono ?_
      rintro e w1 ⟨rfl, rfl⟩
      go_wp2_with fail
      go_returns
      exact ⟨rfl, rfl⟩
    · go_enter Tryz.func124, Tryz.ntmps124
      go_wp2_with fail
      refine HN.out.mono ?_
      rintro e w1 ⟨rfl, rfl⟩
      go_wp2_with fail
      go_returns
      exact ⟨rfl, rfl⟩
  · have HF := Lib.hid (show fileN nm n2 = n2 by unfold fileN; rw [if_neg h0])
    rw [HF.out]
    have h0b : (n2 == []) = false := by simpa using h0
    have HN := Lib.hid (name_any n2 w h2)
    generalize nameB n2 = r at *
    clear h0
    cases r
    · go_enter Tryz.func124, Tryz.ntmps124
      go_wp2_with fail
      refine HN.out.mono ?_
      rintro e w1 ⟨rfl, rfl⟩
      go_wp2_with fail
      go_returns
      exact ⟨rfl, rfl⟩
    · go_enter Tryz.func124, Tryz.ntmps124
      go_wp2_with fail
      refine HN.out.mono ?_
      rintro e w1 ⟨rfl, rfl⟩
      go_wp2_with fail
      go_returns
      exact ⟨rfl, rfl⟩
/-- How many bytes, as it is told. -/
def toldL (n : Nat) : List UInt8 := Lib.itoa (n : Int) ++ [10]
theorem told_any (n : Nat) (hn : n ≤ 1000000) (w : World) (ht : Tab10 w) : Calls Tryz.prog 126 #[.int .i64 (n : Int)] w fun e w' => e = .returned (.string ⟨(toldL n).toArray⟩) ∧ Below w.heap.size w w' := by
  have HI := Lib.hid (itoa_any (n : Int) w (by omega) (by omega) ht)
  have hl := itoa_le (n : Int) (by omega) 6 (by omega)
  unfold toldL
  generalize Lib.itoa (n : Int) = A at *
  have hs1 : ¬ 9223372036854775807 < A.length + 1 := by omega
  have HSA := size_mk A
  have hap : (⟨A.toArray⟩ : ByteArray) ++ ⟨#[10]⟩ = ⟨(A ++ [10]).toArray⟩ := by apply ByteArray.ext; simp
  clear ht hl
  go_enter Tryz.func126, Tryz.ntmps126
  go_wp2_with fail
  refine HI.out.mono ?_
  rintro e w1 ⟨rfl, hb⟩
  have HB := Lib.hid hb
  clear hb
  go_wp2_with fail
  go_returns
  exact ⟨rfl, HB.out⟩
end
end Go.Proofs.YtlcjjcmfpmflcaaGreatDoor
/- A command of package disk that is being done: lines read, written; another file taken (chapter 24). -/
namespace Go.Proofs.YtlcjjcmfpmflcaaGreatDoor
open Go Go.Proofs Go.Ev Go.RowKit Go.Ink Go.Sort

section
variable {S F : Nat → Prop} {w w' : World} {d c : Nat} {out nm n2 : List UInt8} {wr an : Bool} {f : Addr} {k : Int}
/-- A file's lines, read. -/
theorem diskLoad {l : List Line} {s : List UInt8} {Q : World → Prop} (h : RunD w d out nm n2 c wr an f k) (hl : ∀ x ∈ l, (10 : UInt8) ∉ x) (hN : (joinL l).length ≤ 1000000) (hck : checkL l = 0)
    (hL : Calls Tryz.prog 16 #[.pointer (some f), .string ⟨s.toArray⟩] w fun e w' => e = .returned (.tuple #[.string ⟨(joinL l).toArray⟩, .int .i64 0]) ∧ Q w') :
    Calls Tryz.prog 125 #[.pointer (some ⟨d, 0, none⟩), .string ⟨s.toArray⟩] w fun e w' => ∃ v w1, e = .returned (.tuple #[v, .int .i64 ((joinL l).length : Int), .int .i64 0]) ∧ Q w1 ∧ OwnStrs w' w1.heap.size v l ∧ Below w1.heap.size w1 w' := by
  have e7 := h.at 7 rfl
  have HL := Lib.hid hL
  have HSP := Lib.hid (fun w => splitJoin_any l w hN hl)
  have HSZ := size_mk (joinL l)
  have HCK := Lib.hid hck
  clear h hL hl hck
  generalize joinL l = J at *
  go_enter Tryz.func125, Tryz.ntmps125
  go_wp2_with fail
  refine HL.out.mono ?_
  rintro e w1 ⟨rfl, hq⟩
  have HQ := Lib.hid hq
  clear hq
  go_wp2_with fail
  refine (HSP.out w1).mono ?_
  rintro e w2 ⟨v, b, rfl, ho, hb⟩
  have HO := Lib.hid ho
  have HB := Lib.hid hb
  obtain ⟨ao, cap, rfl, hs⟩ := ho.slOf
  have HS := Lib.hid hs
  clear ho hb hs
  go_wp2_with fail
  refine (check_any ao cap l w2 HS.out).mono ?_
  rintro e w3 ⟨rfl, rfl⟩
  rw [HCK.out]
  go_wp2_with fail
  go_returns
  exact ⟨_, w1, rfl, HQ.out, HO.out, HB.out⟩
theorem nameB_parts {n : List UInt8} (h : nameB n = true) : n ≠ [] ∧ n ≠ [126] ∧ n.length ≤ 16 := by
  unfold nameB at h
  simp only [Bool.and_eq_true, Bool.not_eq_true', beq_eq_false_iff_ne, decide_eq_false_iff_not] at h
  obtain ⟨⟨⟨h1, h2⟩, _⟩, h4⟩ := h
  refine ⟨h1, fun e => ?_, by omega⟩
  subst e
  exact absurd h4 (by decide)
/-- The file system's blocks, the buffer, the command's block. -/
def FCD (F : Nat → Prop) (c d x : Nat) : Prop := F x ∨ x = c ∨ x = d
theorem nil_add_bytes (J : List UInt8) : (⟨#[]⟩ : ByteArray) ++ ⟨J.toArray⟩ = ⟨J.toArray⟩ := by apply ByteArray.ext; simp
set_option maxRecDepth 100000 in
set_option maxHeartbeats 2000000 in
theorem diskWrite_ok {t r : Nat} {cur : Int} {dirty : Bool} {undo was held : Option Addr} {dn : Value} {ps : List (List Line)} {L : List Line} {J : List UInt8} (h : RunD w d [] [] n2 c false false f 119) (hc : CoreB w c t cur [] r dirty undo was held dn) (ht : TabOf S w t ps) (hF : ps.flatten = L) (hl : ps.length ≤ 100000) (hm : manyS ps ≤ 1000000)
    (hfs : Fs J n2 fsH1 w f F) (hSc : S c) (hFc : ¬ F c) (hFd : ¬ F d) (hcd : c ≠ d) (hn : nameB n2 = true) (hJ : joinL L = J) (hJl : J.length ≤ 30000) (h10 : ∀ X, KeepT (FCD F c d) w X → Tab10 X) :
    Calls Tryz.prog 95 #[.pointer (some ⟨d, 0, none⟩)] w fun e w' => e = .returned (.int .i64 0) ∧ RunD w' d (toldL J.length) n2 n2 c true false f 119 ∧ CoreB w' c t cur [] r false undo was held dn ∧ (∃ w2 : World, Fs J n2 fsH2 w' f (fun x => F x ∨ (w.heap.size ≤ x ∧ x < w2.heap.size)) ∧ w2.heap.size ≤ w'.heap.size) ∧ KeepT (FCD F c d) w w' := by
  obtain ⟨q1, q2, q3⟩ := nameB_parts hn
  have HR := Lib.hid h
  have HC := Lib.hid hc
  have HT := Lib.hid ht
  have HFS := Lib.hid hfs
  have H10 := Lib.hid h10
  have HNN := Lib.hid (⟨q1, q2, q3⟩ : n2 ≠ [] ∧ n2 ≠ [126] ∧ n2.length ≤ 16)
  have HFL := Lib.hid (fun (X : World) (hX : RunD X d [] [] n2 c false false f 119) => (show Calls Tryz.prog 124 #[.pointer (some ⟨d, 0, none⟩)] X fun e w' => e = .returned (.tuple #[.string ⟨n2.toArray⟩, .int .i64 0]) ∧ w' = X from by
    have e := diskFile hX (by simp) (by omega)
    rw [show fileN [] n2 = n2 by unfold fileN; rw [if_neg q1], hn, if_pos rfl] at e
    exact e))
  have HVW := Lib.hid (fun (X : World) (hb : Below w.heap.size w X) => coreView_any (hc.later hb) (ht.later hb) hl hm)
  have HEV := Lib.hid (show ∀ (X : World) (la : Option Addr) (lcp : Nat), Calls Tryz.prog 127 #[.agg (viewCells (.slice la (manyS ps) lcp) cur []).toArray, .agg #[.slice none 0 0, .slice none 0 0]] X fun e w' => e = .returned (.tuple #[.int .i64 0, .int .i64 0, .int .i64 0, .string ⟨#[]⟩, .int .i64 0]) ∧ Below X.heap.size X w' from
    fun X la lcp => addrEval_none X (viewCells (.slice la (manyS ps) lcp) cur []) [] rfl)
  have HNC := Lib.hid (fun (X : World) (h : CoreOf S X c t cur ps) => coreN_of h)
  have HAL := Lib.hid (fun (X : World) (h : CoreOf S X c t cur ps) => coreAllD_of h L hF)
  have HJN := Lib.hid (fun (X : World) (ao : Option Addr) (cap : Nat) (h : SlOf IsStr X ao cap L) => (show Calls Tryz.prog 18 #[.slice ao L.length cap] X fun e w' => e = .returned (.string ⟨J.toArray⟩) ∧ Below X.heap.size X w' from by
    have e := linesJoin_any L ao cap X h (by rw [hJ]; omega)
    rw [hJ] at e
    exact e))
  have HCO := Lib.hid (fun (X : World) (h : CoreB X c t cur [] r dirty undo was held dn) (hT : TabOf S X t ps) => (⟨h.c0, h.c1, hT, hl, hm⟩ : CoreOf S X c t cur ps))
  obtain ⟨M, hM⟩ : ∃ M, M = manyS ps := ⟨_, rfl⟩
  rw [← hM] at HNC HAL HVW HEV hm
  obtain ⟨a, ha⟩ : ∃ a : Int, min (1 : Int) (M : Int) = a := ⟨_, rfl⟩
  have hna : ¬ a < a := by omega
  have hmx : max a 1 = 1 := by omega
  have hw1 : IntKind.i64.wrap ((M : Int) - 1) = (M : Int) - 1 := IntWalk.i64_in _ (by omega)
  have hw2 : IntKind.i64.wrap ((M : Int) - 1 + 1) = (M : Int) := by rw [IntWalk.i64_in _ (by omega)]; omega
  have hMM : ((M : Int) == (M : Int)) = true := beq_self_eq_true _
  have hnn : (n2 == n2) = true := beq_self_eq_true _
  have hap : (⟨#[]⟩ : ByteArray) ++ ⟨J.toArray⟩ = ⟨J.toArray⟩ := nil_add_bytes J
  have hs0 : ¬ 9223372036854775807 < 0 + J.length := by omega
  have HSJ := size_mk J
  have e1 := h.at 1 rfl
  have e8 := h.at 8 rfl
  have e9 := h.at 9 rfl
  have HX := Lib.hid (Below.refl w.heap.size w)
  have HSS := Lib.hid (⟨hSc, hFc, hFd, hcd⟩ : S c ∧ ¬ F c ∧ ¬ F d ∧ c ≠ d)
  have HTD := Lib.hid (fun (X : World) (hX : Tab10 X) => told_any J.length (by omega) X hX)
  generalize toldL J.length = TD at *
  clear h hc ht hfs h10 q1 q2 q3 hn hF hM hJ hSc hFc hFd hcd
  go_enter Tryz.func95, Tryz.ntmps95
  go_wp2_with fail
  go_region_held3 (fun w' => w'.cell? ⟨d, 1, none⟩ = some (.pointer (some ⟨c, 0, none⟩)) ∧ w'.cell? ⟨d, 8, none⟩ = some (.slice none 0 0) ∧ w'.cell? ⟨d, 9, none⟩ = some (.slice none 0 0))
    (first | exact ⟨e1, e8, e9⟩ | exact ⟨q1, q8, q9⟩ | exact ⟨p1, p8, p9⟩ | go_keep)
    (first
      | ((with_reducible refine (HVW.out _ HX.out.drew).mono ?_); rintro e w1 ⟨la, lcp, rfl, hs1, hb1⟩; have HB1 := Lib.hid (HX.out.drew.trans hb1); have q1 := (hb1.cell (p := ⟨d, 1, none⟩) (lt_of_cell e1)).trans e1; have q8 := (hb1.cell (p := ⟨d, 8, none⟩) (lt_of_cell e8)).trans e8; have q9 := (hb1.cell (p := ⟨d, 9, none⟩) (lt_of_cell e9)).trans e9; clear hb1 hs1)
      | ((with_reducible refine (HEV.out _ la lcp).mono ?_); rintro e w2 ⟨rfl, hb2⟩; have HB2 := Lib.hid (HB1.out.trans (hb2.mono HB1.out.size)); have p1 := (hb2.cell (p := ⟨d, 1, none⟩) (lt_of_cell q1)).trans q1; have p8 := (hb2.cell (p := ⟨d, 8, none⟩) (lt_of_cell q8)).trans q8; have p9 := (hb2.cell (p := ⟨d, 9, none⟩) (lt_of_cell q9)).trans q9; clear hb2)
      | (fail "no arm"))
  have HC2 := Lib.hid (HC.out.later HB2.out)
  have HR2 := Lib.hid (HR.out.later HB2.out)
  have HT2 := Lib.hid (HT.out.later HB2.out)
  have HF2 := Lib.hid (FsAt.later HFS.out HB2.out)
  clear q1 q8 q9 p8 p9 e1 e8 e9 HX HB1 HVW HEV
  go_wp2_with fail
  refine (coreLast_of HC2.out []).mono ?_
  rintro e w3 ⟨rfl, hc3, hk3⟩
  obtain ⟨hSc, hFc, hFd, hcd⟩ := HSS.out
  have HC3 := Lib.hid hc3
  have HR3 := Lib.hid (HR2.out.kept hk3 (by unfold Only; omega))
  have HT3 := Lib.hid (HT2.out.kept (hk3.mono (fun k _ hk => by unfold Only at hk; subst hk; exact hSc)))
  have HF3 := Lib.hid (FsAt.kept HF2.out hk3 (fun r _ hr => by unfold Only at hr; subst hr; exact hFc))
  have HK3 := Lib.hid ((KeepT.of_below (S := FCD F c d) HB2.out).trans hk3 (fun k _ hk => .inr (.inl hk)))
  have r1 := HR3.out.at 1 rfl
  have r2 := HR3.out.at 2 rfl
  have r7 := HR3.out.at 7 rfl
  have r10 := HR3.out.at 10 rfl
  clear hc3 hk3 hSc hFc hFd hcd p1 HB2 HC2 HR2 HT2 HF2
  go_wp2_with fail
  refine (HNC.out _ (HCO.out _ HC3.out HT3.out)).mono ?_
  rintro e w4 ⟨rfl, rfl⟩
  go_wp2_with fail
  refine (HFL.out _ HR3.out).mono ?_
  rintro e w5 ⟨rfl, rfl⟩
  go_wp2_with fail
  refine (HAL.out _ (HCO.out _ HC3.out HT3.out)).mono ?_
  rintro e w6 ⟨ao, cap, rfl, hs6, hb6⟩
  have HB6 := Lib.hid hb6
  have HS6 := Lib.hid hs6
  clear hs6 hb6
  go_wp2_with fail
  refine (HJN.out _ ao cap HS6.out).mono ?_
  rintro e w7 ⟨rfl, hb7⟩
  have HB7 := Lib.hid (HB6.out.trans (hb7.mono HB6.out.size))
  have HR7 := Lib.hid (HR3.out.later HB7.out)
  have HC7 := Lib.hid (HC3.out.later HB7.out)
  have HF7 := Lib.hid (FsAt.later HF3.out HB7.out)
  have HK7 := Lib.hid (HK3.out.then_below HB7.out)
  have s7 := HR7.out.at 7 rfl
  have s10 := HR7.out.at 10 rfl
  clear hb7 r1 r2 r7 r10
  go_wp2_with fail
  refine (savesWrite_fs HF7.out hJl HNN.out.1 HNN.out.2.1 HNN.out.2.2).mono ?_
  rintro e w8 ⟨rfl, hf8, hk8⟩
  obtain ⟨_, hFc, hFd, hcd⟩ := HSS.out
  have HR8 := Lib.hid (HR7.out.kept hk8 hFd)
  have HC8 := Lib.hid (HC7.out.kept hk8 hFc)
  have HF8 := Lib.hid hf8
  have HK8 := Lib.hid (HK7.out.trans hk8 (fun k _ hk => .inl hk))
  have HZ8 := Lib.hid (hk8.size)
  have u2 := HR8.out.at 2 rfl
  have g2 := HR8.out.fz 2
  have v2 := HR8.out.set2 n2
  have k2 : KeepT (Only d) w8 (w8.setCell ⟨d, 2, none⟩ (.string ⟨n2.toArray⟩)) := keepIn (eqIn d) (KeepT.refl _ w8) 2 _
  have HV2 := Lib.hid v2
  have HC9 := Lib.hid (HC8.out.kept k2 (by unfold Only; exact hcd))
  have HF9 := Lib.hid (FsAt.kept HF8.out k2 (fun r _ hr => by
    unfold Only at hr; subst hr
    rintro (h | h)
    · exact hFd h
    · have := HR7.out.lt; omega))
  have HK9 := Lib.hid (HK8.out.trans k2 (fun k _ hk => .inr (.inr hk)))
  have h1 := H10.out _ HK9.out
  have HT9 := Lib.hid h1
  clear hf8 hk8 k2 s7 s10 hFc hFd hcd h1
  go_wp2_with fail
  refine (HTD.out _ HT9.out).mono ?_
  rintro e w10 ⟨rfl, hb10⟩
  obtain ⟨_, hFc, hFd, hcd⟩ := HSS.out
  have v10 := HV2.out.later hb10
  have hz10 : w8.heap.size ≤ w10.heap.size := by have := hb10.size; simpa [World.setCell] using this
  have HK10 := Lib.hid (HK9.out.then_below hb10)
  have u0 := v10.at 0 rfl
  have g0 := v10.fz 0
  have x0 := v10.set0 TD
  have k0 : KeepT (Only d) w10 (w10.setCell ⟨d, 0, none⟩ (.string ⟨TD.toArray⟩)) := keepIn (eqIn d) (KeepT.refl _ w10) 0 _
  have HC11 := Lib.hid ((HC9.out.later hb10).kept k0 (by unfold Only; exact hcd))
  have HF11 := Lib.hid (FsAt.kept (FsAt.later HF9.out hb10) k0 (fun r _ hr => by
    unfold Only at hr; subst hr
    rintro (h | h)
    · exact hFd h
    · have := HR7.out.lt; omega))
  have HK11 := Lib.hid (HK10.out.trans k0 (fun k _ hk => .inr (.inr hk)))
  have HV11 := Lib.hid x0
  have y1 := x0.at 1 rfl
  have y2 := x0.at 2 rfl
  have y10 := x0.at 10 rfl
  clear hb10 v10 x0 k0 hFc hFd hcd u2 g2 v2
  go_wp2_with fail
  refine (coreClean_of HC11.out).mono ?_
  rintro e w12 ⟨rfl, hc12, hk12⟩
  obtain ⟨_, hFc, hFd, hcd⟩ := HSS.out
  have HC12 := Lib.hid hc12
  have v12 := HV11.out.kept hk12 (by unfold Only; exact hcd.symm)
  have u5 := v12.at 5 rfl
  have g5 := v12.fz 5
  have x5 := v12.set5 true
  have k5 : KeepT (Only d) w12 (w12.setCell ⟨d, 5, none⟩ (.bool true)) := keepIn (eqIn d) (KeepT.refl _ w12) 5 _
  have HF12 := Lib.hid (FsAt.kept (FsAt.kept HF11.out hk12 (fun r _ hr => by
    unfold Only at hr; subst hr
    rintro (h | h)
    · exact hFc h
    · have := HC7.out.lt; omega)) k5 (fun r _ hr => by
    unfold Only at hr; subst hr
    rintro (h | h)
    · exact hFd h
    · have := HR7.out.lt; omega))
  have HC13 := Lib.hid (HC12.out.kept k5 (by unfold Only; exact hcd))
  have HV13 := Lib.hid x5
  have HK13 := Lib.hid ((HK11.out.trans hk12 (fun k _ hk => .inr (.inl hk))).trans k5 (fun k _ hk => .inr (.inr hk)))
  have HS13 := Lib.hid (show w8.heap.size ≤ _ from Nat.le_trans (show w8.heap.size ≤ (w10.setCell ⟨d, 0, none⟩ (.string ⟨TD.toArray⟩)).heap.size by simpa [World.setCell] using hz10) (Nat.le_trans hk12.size k5.size))
  clear hc12 hk12 v12 x5 k5 hFc hFd hcd y1 y2 y10 u0 g0
  go_wp2_with fail
  go_returns
  refine ⟨rfl, HV13.out, HC13.out, ⟨w8, FsAt.mono HF12.out (fun r _ hr => hr.imp_right (fun h => ⟨Nat.le_trans HK7.out.size h.1, h.2⟩)), HS13.out⟩, HK13.out⟩
end
end Go.Proofs.YtlcjjcmfpmflcaaGreatDoor
/- A command of package disk that is being done: w at a name that is none, e; which command it is (chapter 24). -/
namespace Go.Proofs.YtlcjjcmfpmflcaaGreatDoor
open Go Go.Proofs Go.Ev Go.RowKit Go.Ink Go.Sort

set_option maxRecDepth 100000 in
set_option maxHeartbeats 2000000 in
theorem coreNew_apartD (l : List Line) (ao : Option Addr) (cap : Nat) (w : World) (hl : SlOf IsStr w ao cap l) (hlen : l.length ≤ 100000) (h0 : checkL l = 0) :
    Calls Tryz.prog 9 #[.slice ao l.length cap] w fun e w' => ∃ c t r, e = .returned (.tuple #[.pointer (some ⟨c, 0, none⟩), .int .i64 0]) ∧ TabOf (fun x => x < w.heap.size ∨ x = c) w' t (ofS [l]) ∧ CoreB w' c t (l.length : Int) [] r false none none none (.slice none 0 0) ∧ NewRegs w' r ∧ w.heap.size ≤ c ∧ Below w.heap.size w w' := by
  have HT := Lib.hid ((tabNew_any (S := fun x => x < w.heap.size) l ao cap w hl hlen (fun _ h => h)).mono (R' := fun e w' => ∃ b, e = .returned (.pointer (some ⟨b, 0, none⟩)) ∧ TabOf (fun x => x < w.heap.size) w' b (ofS [l]) ∧ Below w.heap.size w w') fun e w' h => by
    unfold NewTab at h
    rw [if_pos h0] at h
    exact h)
  clear hl h0
  go_enter Tryz.func9, Tryz.ntmps9
  go_wp2_with fail
  refine HT.out.mono ?_
  rintro e w1 ⟨t, rfl, ht, hb1⟩
  have HTB := Lib.hid ht
  have HB1 := Lib.hid hb1
  clear ht hb1
  go_wp2_with fail
  refine (regsNew_any _).mono ?_
  rintro e w2 ⟨r, rfl, hr, hrl, hb2⟩
  have HB2 := Lib.hid (HB1.out.trans (hb2.mono HB1.out.size))
  have HT2 := Lib.hid (HTB.out.later hb2)
  have HR := Lib.hid hr
  clear hr hrl hb2
  go_wp2_with fail
  go_returns
  refine ⟨w2.heap.size, t, r, rfl, ?_, (heap_alloc_at _ _).trans rfl, HR.out.later ((Below.refl _ _).alloc (Nat.le_refl _) _), HB2.out.size, HB2.out.alloc HB2.out.size _⟩
  exact (HT2.out.apart (fun k hk => by
    rcases hk with hk | hk
    · exact .inl hk
    · exact .inr (Nat.le_of_eq hk.symm))).later ((Below.refl _ _).alloc (Nat.le_refl _) _)
section
variable {S F : Nat → Prop} {w w' : World} {d c : Nat} {out nm n2 : List UInt8} {wr an : Bool} {f : Addr} {k : Int}
theorem actW {z : Int} {Q : World → Prop} (h : RunD w d out nm n2 c wr an f 119) (hW : Calls Tryz.prog 95 #[.pointer (some ⟨d, 0, none⟩)] w fun e w' => e = .returned (.int .i64 z) ∧ Q w') :
    Calls Tryz.prog 56 #[.pointer (some ⟨d, 0, none⟩)] w fun e w' => e = .returned (.int .i64 z) ∧ Q w' := by
  have e10 := h.at 10 rfl
  have HW := Lib.hid hW
  clear h hW
  go_enter Tryz.func56, Tryz.ntmps56
  go_wp2_with fail
  refine HW.out.mono ?_
  rintro e w1 ⟨rfl, hq⟩
  have HQ := Lib.hid hq
  clear hq
  go_wp2_with fail
  go_returns
  exact ⟨rfl, HQ.out⟩
theorem actE {z : Int} {Q : World → Prop} (h : RunD w d out nm n2 c wr an f 101) (hW : Calls Tryz.prog 93 #[.pointer (some ⟨d, 0, none⟩)] w fun e w' => e = .returned (.int .i64 z) ∧ Q w') :
    Calls Tryz.prog 56 #[.pointer (some ⟨d, 0, none⟩)] w fun e w' => e = .returned (.int .i64 z) ∧ Q w' := by
  have e10 := h.at 10 rfl
  have HW := Lib.hid hW
  clear h hW
  go_enter Tryz.func56, Tryz.ntmps56
  go_wp2_with fail
  refine HW.out.mono ?_
  rintro e w1 ⟨rfl, hq⟩
  have HQ := Lib.hid hq
  clear hq
  go_wp2_with fail
  go_returns
  exact ⟨rfl, HQ.out⟩
set_option maxRecDepth 100000 in
set_option maxHeartbeats 2000000 in
theorem diskWrite_no {t r : Nat} {cur : Int} {dirty : Bool} {undo was held : Option Addr} {dn : Value} {ps : List (List Line)} (h : RunD w d [] [] n2 c false false f 119) (hc : CoreB w c t cur [] r dirty undo was held dn) (ht : TabOf S w t ps) (hl : ps.length ≤ 100000) (hm : manyS ps ≤ 1000000)
    (hSc : S c) (hcd : c ≠ d) (hn : nameB n2 = false) (hn2 : n2.length ≤ 100) :
    Calls Tryz.prog 95 #[.pointer (some ⟨d, 0, none⟩)] w fun e w' => e = .returned (.int .i64 240) ∧ KeepT (Only c) w w' := by
  have HR := Lib.hid h
  have HC := Lib.hid hc
  have HT := Lib.hid ht
  have HFL := Lib.hid (fun (X : World) (hX : RunD X d [] [] n2 c false false f 119) => (show Calls Tryz.prog 124 #[.pointer (some ⟨d, 0, none⟩)] X fun e w' => e = .returned (.tuple #[.string ⟨#[]⟩, .int .i64 240]) ∧ w' = X from by
    have e := diskFile hX (by simp) hn2
    rw [show fileN [] n2 = n2 by unfold fileN; split <;> simp_all, hn, if_neg (by simp)] at e
    exact e))
  have HVW := Lib.hid (fun (X : World) (hb : Below w.heap.size w X) => coreView_any (hc.later hb) (ht.later hb) hl hm)
  have HEV := Lib.hid (show ∀ (X : World) (la : Option Addr) (lcp : Nat), Calls Tryz.prog 127 #[.agg (viewCells (.slice la (manyS ps) lcp) cur []).toArray, .agg #[.slice none 0 0, .slice none 0 0]] X fun e w' => e = .returned (.tuple #[.int .i64 0, .int .i64 0, .int .i64 0, .string ⟨#[]⟩, .int .i64 0]) ∧ Below X.heap.size X w' from
    fun X la lcp => addrEval_none X (viewCells (.slice la (manyS ps) lcp) cur []) [] rfl)
  have HNC := Lib.hid (fun (X : World) (h : CoreOf S X c t cur ps) => coreN_of h)
  have HCO := Lib.hid (fun (X : World) (h : CoreB X c t cur [] r dirty undo was held dn) (hT : TabOf S X t ps) => (⟨h.c0, h.c1, hT, hl, hm⟩ : CoreOf S X c t cur ps))
  obtain ⟨M, hM⟩ : ∃ M, M = manyS ps := ⟨_, rfl⟩
  rw [← hM] at HNC HVW HEV hm
  obtain ⟨a, ha⟩ : ∃ a : Int, min (1 : Int) (M : Int) = a := ⟨_, rfl⟩
  have hna : ¬ a < a := by omega
  have e1 := h.at 1 rfl
  have e8 := h.at 8 rfl
  have e9 := h.at 9 rfl
  have HX := Lib.hid (Below.refl w.heap.size w)
  clear h hc ht hn hM
  go_enter Tryz.func95, Tryz.ntmps95
  go_wp2_with fail
  go_region_held3 (fun w' => w'.cell? ⟨d, 1, none⟩ = some (.pointer (some ⟨c, 0, none⟩)) ∧ w'.cell? ⟨d, 8, none⟩ = some (.slice none 0 0) ∧ w'.cell? ⟨d, 9, none⟩ = some (.slice none 0 0))
    (first | exact ⟨e1, e8, e9⟩ | exact ⟨q1, q8, q9⟩ | exact ⟨p1, p8, p9⟩ | go_keep)
    (first
      | ((with_reducible refine (HVW.out _ HX.out.drew).mono ?_); rintro e w1 ⟨la, lcp, rfl, hs1, hb1⟩; have HB1 := Lib.hid (HX.out.drew.trans hb1); have q1 := (hb1.cell (p := ⟨d, 1, none⟩) (lt_of_cell e1)).trans e1; have q8 := (hb1.cell (p := ⟨d, 8, none⟩) (lt_of_cell e8)).trans e8; have q9 := (hb1.cell (p := ⟨d, 9, none⟩) (lt_of_cell e9)).trans e9; clear hb1 hs1)
      | ((with_reducible refine (HEV.out _ la lcp).mono ?_); rintro e w2 ⟨rfl, hb2⟩; have HB2 := Lib.hid (HB1.out.trans (hb2.mono HB1.out.size)); have p1 := (hb2.cell (p := ⟨d, 1, none⟩) (lt_of_cell q1)).trans q1; have p8 := (hb2.cell (p := ⟨d, 8, none⟩) (lt_of_cell q8)).trans q8; have p9 := (hb2.cell (p := ⟨d, 9, none⟩) (lt_of_cell q9)).trans q9; clear hb2)
      | (fail "no arm"))
  have HC2 := Lib.hid (HC.out.later HB2.out)
  have HR2 := Lib.hid (HR.out.later HB2.out)
  have HT2 := Lib.hid (HT.out.later HB2.out)
  clear q1 q8 q9 p8 p9 e1 e8 e9 HX HB1 HVW HEV
  go_wp2_with fail
  refine (coreLast_of HC2.out []).mono ?_
  rintro e w3 ⟨rfl, hc3, hk3⟩
  have HC3 := Lib.hid hc3
  have HR3 := Lib.hid (HR2.out.kept hk3 (by unfold Only; omega))
  have HT3 := Lib.hid (HT2.out.kept (hk3.mono (fun k _ hk => by unfold Only at hk; subst hk; exact hSc)))
  have HK3 := Lib.hid ((KeepT.of_below (S := Only c) HB2.out).trans hk3 (fun k _ hk => hk))
  have r1 := HR3.out.at 1 rfl
  clear hc3 hk3 p1 HB2 HC2 HR2 HT2
  go_wp2_with fail
  refine (HNC.out _ (HCO.out _ HC3.out HT3.out)).mono ?_
  rintro e w4 ⟨rfl, rfl⟩
  go_wp2_with fail
  refine (HFL.out _ HR3.out).mono ?_
  rintro e w5 ⟨rfl, rfl⟩
  go_wp2_with fail
  go_returns
  exact ⟨rfl, HK3.out⟩
set_option maxRecDepth 100000 in
set_option maxHeartbeats 2000000 in
theorem diskEdit_ok {t r : Nat} {cur : Int} {undo was held : Option Addr} {dn : Value} {L : List Line} {J : List UInt8} (h : RunD w d [] nm [] c wr false f 101) (hc : CoreB w c t cur [] r false undo was held dn)
    (hfs : Fs J nm fsH3 w f F) (hFd : ¬ F d) (hn : nameB nm = true) (hJ : joinL L = J) (hJl : J.length ≤ 30000) (hck : checkL L = 0) (h10 : ∀ X, KeepT F w X → Tab10 X) :
    Calls Tryz.prog 93 #[.pointer (some ⟨d, 0, none⟩)] w fun e w' => e = .returned (.int .i64 0) ∧ ∃ c2 t2 r2, RunD w' d (toldL J.length) nm [] c2 wr true f 101 ∧ CoreB w' c2 t2 (L.length : Int) [] r2 false none none none (.slice none 0 0) ∧ TabOf (fun x => x < w.heap.size ∨ x = c2) w' t2 (ofS [L]) ∧ w.heap.size ≤ c2 ∧ KeepT (fun x => F x ∨ x = d) w w' := by
  obtain ⟨q1, q2, q3⟩ := nameB_parts hn
  obtain ⟨hk1, hk2, hk3⟩ := checkL_ok.1 hck
  have HR := Lib.hid h
  have HFS := Lib.hid hfs
  have H10 := Lib.hid h10
  have HP := Lib.hid (diskPlain h)
  have HFL := Lib.hid (show Calls Tryz.prog 124 #[.pointer (some ⟨d, 0, none⟩)] w fun e w' => e = .returned (.tuple #[.string ⟨nm.toArray⟩, .int .i64 0]) ∧ w' = w from by
    have e := diskFile h (by omega) (by simp)
    rw [show fileN nm [] = nm from rfl, hn, if_pos rfl] at e
    exact e)
  have HD := Lib.hid (coreDirty_of hc)
  have HLD := Lib.hid (fun (X : World) (hX : RunD X d [] nm [] c wr false f 101) (hf : Fs J nm fsH3 X f F) => diskLoad (l := L) hX hk1 (by rw [hJ]; omega) hck (Q := fun Y => KeepT F X Y) ((savesLoad4_fs hf q1 q2 q3).mono fun e w' ⟨h1, _, h3⟩ => ⟨by rw [hJ]; exact h1, h3⟩))
  rw [hJ] at HLD
  have HCN := Lib.hid (fun (X : World) (ao : Option Addr) (cap : Nat) (hs : SlOf IsStr X ao cap L) => coreNew_apartD L ao cap X hs (by omega) hck)
  have e1 := h.at 1 rfl
  have HTD := Lib.hid (fun (X : World) (hX : Tab10 X) => told_any J.length (by omega) X hX)
  generalize toldL J.length = TD at *
  clear h hc hfs h10 hn hJ hck q1 q2 q3 hk1 hk2 hk3
  go_enter Tryz.func93, Tryz.ntmps93
  go_wp2_with fail
  refine HP.out.mono ?_
  rintro e w1 ⟨rfl, rfl⟩
  go_wp2_with fail
  refine HFL.out.mono ?_
  rintro e w2 ⟨rfl, rfl⟩
  go_wp2_with fail
  refine HD.out.mono ?_
  rintro e w3 ⟨rfl, rfl⟩
  go_wp2_with fail
  refine (HLD.out _ HR.out HFS.out).mono ?_
  rintro e w4 ⟨v, wm, rfl, hkm, ho, hb4⟩
  obtain ⟨ao, cap, rfl, hs⟩ := ho.slOf
  have HS := Lib.hid hs
  have HK4 := Lib.hid (hkm.then_below hb4)
  have HG7 := Lib.hid HK4.out.size
  clear ho hs hkm hb4
  go_wp2_with fail
  refine (HCN.out _ ao cap HS.out).mono ?_
  rintro e w5 ⟨c2, t2, r2, rfl, hT, hC, hR5, hcge, hb5⟩
  have HT5 := Lib.hid hT
  have HC5 := Lib.hid hC
  have HG5 := Lib.hid (Nat.le_trans HK4.out.size hcge)
  have HG6 := Lib.hid hcge
  have HK5 := Lib.hid (HK4.out.then_below hb5)
  clear hT hC hR5 hcge hb5
  have h1 := H10.out _ HK5.out
  have HT9 := Lib.hid h1
  clear h1
  go_wp2_with fail
  refine (HTD.out _ HT9.out).mono ?_
  rintro e w6 ⟨rfl, hb6⟩
  have HK6 := Lib.hid (HK5.out.then_below hb6)
  have v6 := HR.out.kept HK6.out hFd
  have HT6 := Lib.hid (HT5.out.later hb6)
  have HC6 := Lib.hid (HC5.out.later hb6)
  have HDL := Lib.hid HR.out.lt
  have u1 := v6.at 1 rfl
  have g1 := v6.fz 1
  have v1 := v6.set1 c2
  have u2 := v1.at 2 rfl
  have g2 := v1.fz 2
  have v2 := v1.set2 nm
  have u0 := v2.at 0 rfl
  have g0 := v2.fz 0
  have v0 := v2.set0 TD
  have u6 := v0.at 6 rfl
  have g6 := v0.fz 6
  have HV := Lib.hid (v0.set6 true)
  have HKD := Lib.hid (keepIn (eqIn d) (keepIn (eqIn d) (keepIn (eqIn d) (keepIn (eqIn d) (KeepT.refl _ w6) 1 (.pointer (some ⟨c2, 0, none⟩))) 2 (.string ⟨nm.toArray⟩)) 0 (.string ⟨TD.toArray⟩)) 6 (.bool true))
  clear v6 v1 v2 v0 hb6 e1
  go_wp2_with fail
  go_returns
  have hg5 := HG5.out
  have hdl := HDL.out
  have hcd : c2 ≠ d := by omega
  exact ⟨rfl, c2, t2, r2, HV.out, HC6.out.kept HKD.out (by unfold Only; exact hcd), (HT6.out.kept (HKD.out.mono (fun x _ h => .inl (by unfold Only at h; subst h; exact Nat.lt_of_lt_of_le hdl HG7.out)))).apart (fun x hx => .inl (by
    rcases hx with hx | hx
    · exact .inl (Nat.lt_of_lt_of_le hx HG7.out)
    · exact .inr hx)), hg5, (HK6.out.mono (fun _ _ h => .inl h)).trans HKD.out (fun _ _ h => .inr h)⟩
end
end Go.Proofs.YtlcjjcmfpmflcaaGreatDoor
/- disk.Run at w and at e (chapter 24): which of its calls does what is the caller's to say. -/
namespace Go.Proofs.YtlcjjcmfpmflcaaGreatDoor
open Go Go.Proofs Go.Ev Go.RowKit Go.Ink Go.Sort

/-- A command of a file's name. -/
def cmdD (k : Int) (n2 : List UInt8) : List Value := [.slice none 0 0, .slice none 0 0, .int .u8 k, .int .i64 0, .int .i64 0, .string ⟨#[]⟩, .int .i64 0, .int .u8 0, .string ⟨#[]⟩, .string ⟨#[]⟩, .bool false, .int .i64 0, .string ⟨#[]⟩, .string ⟨n2.toArray⟩, .int .u8 0]
def resCells (out nm : List UInt8) (c : Nat) (wr an : Bool) : List Value := [.string ⟨out.toArray⟩, .pointer (some ⟨c, 0, none⟩), .string ⟨nm.toArray⟩, .slice none 0 0, .bool false, .bool wr, .bool an]
set_option maxRecDepth 100000 in
theorem mineD_run : (isTrue (runTop Tryz.prog hooks24 [] 3000 60 55 [.agg [.snil, .snil, .int .u8 119, .int .i64 0, .int .i64 0, .str 0 0, .int .i64 0, .int .u8 0, .str 0 0, .str 0 0, .bool false, .int .i64 0, .str 0 0, .opq 0, .int .u8 0]] (h0 6)) &&
    isTrue (runTop Tryz.prog hooks24 [] 3000 60 55 [.agg [.snil, .snil, .int .u8 101, .int .i64 0, .int .i64 0, .str 0 0, .int .i64 0, .int .u8 0, .str 0 0, .str 0 0, .bool false, .int .i64 0, .str 0 0, .opq 0, .int .u8 0]] (h0 6))) = true := by decide +kernel
theorem den_cmdD {k : Int} {n2 : List UInt8} : DenL (fun _ => .string ⟨n2.toArray⟩) (vars 6) [.agg [.snil, .snil, .int .u8 k, .int .i64 0, .int .i64 0, .str 0 0, .int .i64 0, .int .u8 0, .str 0 0, .str 0 0, .bool false, .int .i64 0, .str 0 0, .opq 0, .int .u8 0]] [.agg (cmdD k n2).toArray] := by
  have hs : Den (fun _ => .string ⟨n2.toArray⟩) (vars 6) (.str 0 0) (.string ⟨#[]⟩) := by
    simp only [Den]
    exact ⟨by decide, rfl⟩
  refine DenL.one ?_
  unfold cmdD
  simp only [Den]
  refine ⟨_, rfl, ?_⟩
  exact DenL.cons (by simp [Den]) (DenL.cons (by simp [Den]) (DenL.cons (by simp [Den]) (DenL.cons (by simp [Den]) (DenL.cons (by simp [Den]) (DenL.cons hs (DenL.cons (by simp [Den]) (DenL.cons (by simp [Den]) (DenL.cons hs (DenL.cons hs (DenL.cons (by simp [Den]) (DenL.cons (by simp [Den]) (DenL.cons hs (DenL.cons (by simp [Den]) (DenL.one (by simp [Den])))))))))))))))
theorem mine_d {k : Int} (hk : k = 119 ∨ k = 101) (n2 : List UInt8) {w : World} (hw : 6 ≤ w.heap.size) : Calls Tryz.prog 55 #[.agg (cmdD k n2).toArray] w fun e w' => e = .returned (.bool true) ∧ Below w.heap.size w w' := by
  obtain ⟨h1, h2⟩ := Bool.and_eq_true_iff.1 mineD_run
  rcases hk with rfl | rfl
  · exact true_args no_count mixed hooks24_ok (by intro p hp; cases hp) h1 (vars_ro _) (vars_rep hw) (vars_glob (by kernel_rfl)) den_cmdD
  · exact true_args no_count mixed hooks24_ok (by intro p hp; cases hp) h2 (vars_ro _) (vars_rep hw) (vars_glob (by kernel_rfl)) den_cmdD
theorem wpList_build4 {P : Program} {ops : Array Oper} {rest : List Oper} {o : Oper} {a : Act} {w : World} {Q : Exit → Act → World → Prop} (hgd : o.guard = none) (t : TypeId) (i0 i1 i2 i3 : Nat) (x0 x1 x2 x3 : Operand)
    (ho : o.op = .build t #[(i0, x0), (i1, x1), (i2, x2), (i3, x3)]) (v0 v1 v2 v3 : Value) (h0 : a.eval x0 = v0) (h1 : a.eval x1 = v1) (h2 : a.eval x2 = v2) (h3 : a.eval x3 = v3) (v : Value)
    (hr : (Instr.build t #[(i0, v0), (i1, v1), (i2, v2), (i3, v3)]).run P w = .ok v w) (h : wpList P ops Q rest (a.put o.dst v) w) : wpList P ops Q (o :: rest) a w :=
  wpList_plain hgd fun _ hK => by
    unfold Oper.wp
    simp [execOp, ho, h0, h1, h2, h3, hr, Result.andThen]
    exact hK _ _ h
theorem build_disk (c : Nat) (nm n2 : List UInt8) (f : Addr) (k : Int) (X : World) : (Instr.build 106 #[(0, .agg #[.string ⟨#[]⟩, .pointer (some ⟨c, 0, none⟩), .string ⟨nm.toArray⟩, .slice none 0 0, .bool false, .bool false, .bool false]), (1, .pointer (some f)), (2, .agg (cmdD k n2).toArray), (3, .bool false)]).run Tryz.prog X = .ok (.agg (diskCells [] nm n2 c false false f k).toArray) X := by
  kernel_rfl
theorem diskCells_one (nm n2 : List UInt8) (c : Nat) (f : Addr) (k : Int) : (diskCells [] nm n2 c false false f k).toArray.all (·.oneCell') = true := by
  unfold diskCells
  rw [List.all_toArray]
  simp only [List.all_cons, List.all_nil]
  rfl
section
variable {S F : Nat → Prop} {w w' : World} {d c t : Nat} {cur : Int} {last : List UInt8} {r : Nat} {dirty : Bool} {undo was held : Option Addr} {dn : Value} {nm n2 : List UInt8} {f : Addr} {k : Int}
theorem coreRegs_d (h : CoreB w c t cur last r dirty undo was held dn) :
    Calls Tryz.prog 54 #[.pointer (some ⟨c, 0, none⟩)] w fun e w' => e = .returned (.pointer (some ⟨r, 0, none⟩)) ∧ w' = w := by
  have HN := Lib.hid (coreNone_b h.c0)
  have e29 := h.c29
  clear h
  go_enter Tryz.func54, Tryz.ntmps54
  go_wp2_with fail
  refine HN.out.mono ?_
  rintro e w1 ⟨rfl, rfl⟩
  go_wp2_with fail
  go_returns
  exact ⟨rfl, rfl⟩
set_option maxRecDepth 100000 in
set_option maxHeartbeats 2000000 in
theorem diskRun_ok {Q : World → Nat → List UInt8 → List UInt8 → Nat → Bool → Bool → World → Prop} (hk : k = 119 ∨ k = 101) (hw : 6 ≤ w.heap.size) (hc : CoreB w c t cur last r dirty undo was held dn)
    (hA : ∀ (X : World) (d : Nat), Below w.heap.size w X → w.heap.size + 1 < d → RunD X d [] nm n2 c false false f k → Calls Tryz.prog 56 #[.pointer (some ⟨d, 0, none⟩)] X fun e w' => e = .returned (.int .i64 0) ∧ ∃ out nm' c' wr an, RunD w' d out nm' n2 c' wr an f k ∧ w'.heap[w.heap.size + 1]? = X.heap[w.heap.size + 1]? ∧ Q X d out nm' c' wr an w') :
    Calls Tryz.prog 14 #[.pointer (some ⟨c, 0, none⟩), .pointer (some f), .string ⟨nm.toArray⟩, .agg (cmdD k n2).toArray, .bool false] w fun e w' => ∃ X d out nm' c' wr an W, e = .returned (.tuple #[.agg (resCells out nm' c' wr an).toArray, .int .i64 0]) ∧ Below w.heap.size w X ∧ w.heap.size + 1 < d ∧ d < X.heap.size ∧ Q X d out nm' c' wr an W ∧ KeepT (Only (w.heap.size + 1)) W w' := by
  have HMI := Lib.hid (fun (X : World) (hX : 6 ≤ X.heap.size) => mine_d hk n2 hX)
  obtain ⟨CM, hCM⟩ : ∃ CM : List Value, CM = cmdD k n2 := ⟨_, rfl⟩
  have HBL := Lib.hid (fun X => build_disk c nm n2 f k X)
  have HCI := Lib.hid (show (Tryz.prog.info? 51).map (·.size) = some CM.length by rw [hCM]; kernel_rfl)
  rw [← hCM] at HMI HBL ⊢
  obtain ⟨RC, hRC⟩ : ∃ RC : Array Value, RC = (diskCells [] nm n2 c false false f k).toArray := ⟨_, rfl⟩
  have HRI := Lib.hid (show (Tryz.prog.info? 106).map (·.size) = some RC.size by rw [hRC]; kernel_rfl)
  have HRS := Lib.hid (show RC.size = 24 by rw [hRC]; rfl)
  have HRO := Lib.hid (show RC.all (·.oneCell') = true by rw [hRC]; exact diskCells_one nm n2 c f k)
  rw [← hRC] at HBL
  have HRC := Lib.hid hRC
  have HC := Lib.hid hc
  have HAC := Lib.hid hA
  have HW := Lib.hid hw
  clear hRC hCM hc hA hw hk
  go_enter Tryz.func14, Tryz.ntmps14
  go_wp2_with fail
  generalize hwA : (w.alloc _).alloc _ = wA
  have HA := Lib.hid (show Below w.heap.size w wA from hwA ▸ ((below_alloc w _).alloc (by simp) _))
  have HX := Lib.hid (show wA.heap[w.heap.size]? = some (.cells CM.toArray 51 (0, 0)) from hwA ▸ ((Below.heap_alloc _ _ _ (by simp)).trans (heap_alloc_at w _)))
  have hNR : wA.there (w.heap.size + 1) 0 7 := hwA ▸ (fun j hj => by
    have h := heap_alloc_at (w.alloc (.cells CM.toArray 51)) (.cells (#[.string ⟨#[]⟩, .pointer none, .string ⟨#[]⟩, .slice none 0 0, .bool false, .bool false, .bool false] : Array Value) 41)
    rw [show (w.alloc (.cells CM.toArray 51)).heap.size = w.heap.size + 1 by simp] at h
    rw [Nat.zero_add]
    refine ⟨?_, Lib.frozen_of_heap h j⟩
    rw [Lib.cell_of_heap h, Array.getElem?_eq_getElem (show j < 7 from hj)]
    rfl)
  have HNR := Lib.hid hNR
  clear hwA hNR
  have hzA := HA.out.size
  have hXlt := lt_of_heap HX.out
  refine (coreRegs_d (HC.out.later HA.out)).mono ?_
  rintro e w1 ⟨rfl, rfl⟩
  have HG1 := Lib.hid (show w1.rangeAt w.heap.size 0 CM from fun j v hj => by rw [Nat.zero_add, Lib.cell_of_heap HX.out]; simpa using hj)
  go_wp2_with (refine wpList_load_mid rfl 51 _ rfl w.heap.size 0 rfl CM _ HG1.out Tryz.underlying51 rfl HCI.out ?_)
  refine (HMI.out w1 (Nat.le_trans HW.out hzA)).mono ?_
  rintro e w2 ⟨rfl, hb2⟩
  have HB2 := Lib.hid (HA.out.trans (hb2.mono HA.out.size))
  have HX2 := Lib.hid ((hb2.block _ (lt_of_heap HX.out)).trans HX.out)
  have HNR2 := Lib.hid (HNR.out.later hb2)
  clear hb2
  have HG3 := Lib.hid (show w2.rangeAt w.heap.size 0 CM from fun j v hj => by rw [Nat.zero_add, Lib.cell_of_heap HX2.out]; simpa using hj)
  go_wp2_with (first
    | refine wpList_load_mid rfl 51 _ rfl w.heap.size 0 rfl CM _ HG3.out Tryz.underlying51 rfl HCI.out ?_
    | refine wpList_build4 rfl 106 0 1 2 3 _ _ _ _ rfl (.agg #[.string ⟨#[]⟩, .pointer (some ⟨c, 0, none⟩), .string ⟨nm.toArray⟩, .slice none 0 0, .bool false, .bool false, .bool false]) (.pointer (some f)) (.agg CM.toArray) (.bool false) rfl rfl rfl rfl (.agg RC) (HBL.out _) ?_
    | (refine wpList_store_mid rfl 106 _ _ rfl w2.heap.size 0 RC rfl rfl (there_new w2 _ _ _ (by rw [HRS.out]; rfl)) HRI.out HRO.out ?_
       rw [setCells_new w2 _ RC 106 HRI.out (by rw [HRS.out]; rfl) HRO.out]))
  generalize hwE : w2.alloc _ = wE
  have HE := Lib.hid (show Below w2.heap.size w2 wE from hwE ▸ below_alloc w2 _)
  have HR := Lib.hid (show RunD wE w2.heap.size [] nm n2 c false false f k from hwE ▸ ((heap_alloc_at w2 _).trans (by rw [HRC.out])))
  clear hwE
  have HB3 := Lib.hid (HB2.out.trans (HE.out.mono HB2.out.size))
  have HNR3 := Lib.hid (HNR2.out.later HE.out)
  have hz2 : w.heap.size + 1 < w2.heap.size := by
    have h := (HNR2.out 0 (by decide)).1
    obtain ⟨u, hu⟩ := Option.isSome_iff_exists.1 h
    exact lt_of_cell hu
  have hz3 := HR.out.lt
  refine (HAC.out wE w2.heap.size HB3.out hz2 HR.out).mono ?_
  rintro e w4 ⟨rfl, out, nm', c', wr, an, hR4, hbx, hq⟩
  have HQ := Lib.hid hq
  have HG4 := Lib.hid (show w4.rangeAt w2.heap.size 0 (resCells out nm' c' wr an) from fun j v hj => by
    rw [Nat.zero_add]
    refine hR4.at j ?_
    unfold diskCells
    unfold resCells at hj
    match j, hj with
    | 0, hj | 1, hj | 2, hj | 3, hj | 4, hj | 5, hj | 6, hj => exact hj)
  have HNR4 := Lib.hid (show w4.there (w.heap.size + 1) 0 7 from fun j hj => by
    obtain ⟨h1, h2⟩ := HNR3.out j hj
    have hc : w4.cell? ⟨w.heap.size + 1, 0 + j, none⟩ = wE.cell? ⟨w.heap.size + 1, 0 + j, none⟩ := World.cell?_of_block (w := wE) hbx
    exact ⟨by rw [hc]; exact h1, by rw [World.frozen?_of_block (w := wE) hbx]; exact h2⟩)
  have HRI7 := Lib.hid (show (Tryz.prog.info? 41).map (·.size) = some (resCells out nm' c' wr an).length by kernel_rfl)
  have HRO7 := Lib.hid (show (resCells out nm' c' wr an).toArray.all (·.oneCell') = true by unfold resCells; rw [List.all_toArray]; simp only [List.all_cons, List.all_nil]; rfl)
  have HRL := Lib.hid (show (resCells out nm' c' wr an).length = 7 from rfl)
  generalize hRL : resCells out nm' c' wr an = RL at *
  clear hq hbx hR4
  go_wp2_with (first
    | refine wpList_load_mid rfl 41 _ rfl w2.heap.size 0 rfl RL _ HG4.out Tryz.underlying41 rfl HRI7.out ?_
    | refine wpList_store_mid rfl 41 _ _ rfl (w.heap.size + 1) 0 RL.toArray rfl rfl (by simpa only [List.size_toArray, HRL.out] using HNR4.out) (by simpa only [List.size_toArray] using HRI7.out) HRO7.out ?_)
  have hRG := World.rangeAt_setCells_same w4 (w.heap.size + 1) 0 RL (by rw [HRL.out]; exact HNR4.out)
  have hld := run_loadVar_mid (P := Tryz.prog) _ (w.heap.size + 1) 0 41 RL _ hRG Tryz.underlying41 rfl HRI7.out
  have hK := keep_setCellsX (S := Only (w.heap.size + 1)) (w.heap.size + 1) (eqIn _) RL 0 (KeepT.refl _ w4)
  refine ⟨rfl, .tuple #[.agg RL.toArray, .int .i64 0], ?_, wE, w2.heap.size, out, nm', c', wr, an, w4, by rw [hRL], HB3.out, hz2, hz3, HQ.out, hK⟩
  simp [results, hld, asAddr]
def resZero : List Value := [.string ⟨#[]⟩, .pointer none, .string ⟨#[]⟩, .slice none 0 0, .bool false, .bool false, .bool false]
set_option maxRecDepth 100000 in
set_option maxHeartbeats 2000000 in
theorem diskRun_no {Q : World → Nat → World → Prop} {z : Int} (hz : (z == 0) = false) (hk : k = 119 ∨ k = 101) (hw : 6 ≤ w.heap.size) (hc : CoreB w c t cur last r dirty undo was held dn)
    (hA : ∀ (X : World) (d : Nat), Below w.heap.size w X → w.heap.size + 1 < d → RunD X d [] nm n2 c false false f k → Calls Tryz.prog 56 #[.pointer (some ⟨d, 0, none⟩)] X fun e w' => e = .returned (.int .i64 z) ∧ w'.heap[w.heap.size + 1]? = X.heap[w.heap.size + 1]? ∧ Q X d w') :
    Calls Tryz.prog 14 #[.pointer (some ⟨c, 0, none⟩), .pointer (some f), .string ⟨nm.toArray⟩, .agg (cmdD k n2).toArray, .bool false] w fun e w' => ∃ X d W, e = .returned (.tuple #[.agg resZero.toArray, .int .i64 z]) ∧ Below w.heap.size w X ∧ w.heap.size + 1 < d ∧ d < X.heap.size ∧ Q X d W ∧ KeepT (Only (w.heap.size + 1)) W w' := by
  have HMI := Lib.hid (fun (X : World) (hX : 6 ≤ X.heap.size) => mine_d hk n2 hX)
  obtain ⟨CM, hCM⟩ : ∃ CM : List Value, CM = cmdD k n2 := ⟨_, rfl⟩
  have HBL := Lib.hid (fun X => build_disk c nm n2 f k X)
  have HCI := Lib.hid (show (Tryz.prog.info? 51).map (·.size) = some CM.length by rw [hCM]; kernel_rfl)
  rw [← hCM] at HMI HBL ⊢
  obtain ⟨RC, hRC⟩ : ∃ RC : Array Value, RC = (diskCells [] nm n2 c false false f k).toArray := ⟨_, rfl⟩
  have HRI := Lib.hid (show (Tryz.prog.info? 106).map (·.size) = some RC.size by rw [hRC]; kernel_rfl)
  have HRS := Lib.hid (show RC.size = 24 by rw [hRC]; rfl)
  have HRO := Lib.hid (show RC.all (·.oneCell') = true by rw [hRC]; exact diskCells_one nm n2 c f k)
  rw [← hRC] at HBL
  have HRC := Lib.hid hRC
  have HC := Lib.hid hc
  have HAC := Lib.hid hA
  have HW := Lib.hid hw
  clear hRC hCM hc hA hw hk
  go_enter Tryz.func14, Tryz.ntmps14
  go_wp2_with fail
  generalize hwA : (w.alloc _).alloc _ = wA
  have HA := Lib.hid (show Below w.heap.size w wA from hwA ▸ ((below_alloc w _).alloc (by simp) _))
  have HX := Lib.hid (show wA.heap[w.heap.size]? = some (.cells CM.toArray 51 (0, 0)) from hwA ▸ ((Below.heap_alloc _ _ _ (by simp)).trans (heap_alloc_at w _)))
  have hNR : wA.there (w.heap.size + 1) 0 7 := hwA ▸ (fun j hj => by
    have h := heap_alloc_at (w.alloc (.cells CM.toArray 51)) (.cells (#[.string ⟨#[]⟩, .pointer none, .string ⟨#[]⟩, .slice none 0 0, .bool false, .bool false, .bool false] : Array Value) 41)
    rw [show (w.alloc (.cells CM.toArray 51)).heap.size = w.heap.size + 1 by simp] at h
    rw [Nat.zero_add]
    refine ⟨?_, Lib.frozen_of_heap h j⟩
    rw [Lib.cell_of_heap h, Array.getElem?_eq_getElem (show j < 7 from hj)]
    rfl)
  have HNR := Lib.hid hNR
  clear hwA hNR
  have hzA := HA.out.size
  have hXlt := lt_of_heap HX.out
  refine (coreRegs_d (HC.out.later HA.out)).mono ?_
  rintro e w1 ⟨rfl, rfl⟩
  have HG1 := Lib.hid (show w1.rangeAt w.heap.size 0 CM from fun j v hj => by rw [Nat.zero_add, Lib.cell_of_heap HX.out]; simpa using hj)
  go_wp2_with (refine wpList_load_mid rfl 51 _ rfl w.heap.size 0 rfl CM _ HG1.out Tryz.underlying51 rfl HCI.out ?_)
  refine (HMI.out w1 (Nat.le_trans HW.out hzA)).mono ?_
  rintro e w2 ⟨rfl, hb2⟩
  have HB2 := Lib.hid (HA.out.trans (hb2.mono HA.out.size))
  have HX2 := Lib.hid ((hb2.block _ (lt_of_heap HX.out)).trans HX.out)
  have HNR2 := Lib.hid (HNR.out.later hb2)
  clear hb2
  have HG3 := Lib.hid (show w2.rangeAt w.heap.size 0 CM from fun j v hj => by rw [Nat.zero_add, Lib.cell_of_heap HX2.out]; simpa using hj)
  go_wp2_with (first
    | refine wpList_load_mid rfl 51 _ rfl w.heap.size 0 rfl CM _ HG3.out Tryz.underlying51 rfl HCI.out ?_
    | refine wpList_build4 rfl 106 0 1 2 3 _ _ _ _ rfl (.agg #[.string ⟨#[]⟩, .pointer (some ⟨c, 0, none⟩), .string ⟨nm.toArray⟩, .slice none 0 0, .bool false, .bool false, .bool false]) (.pointer (some f)) (.agg CM.toArray) (.bool false) rfl rfl rfl rfl (.agg RC) (HBL.out _) ?_
    | (refine wpList_store_mid rfl 106 _ _ rfl w2.heap.size 0 RC rfl rfl (there_new w2 _ _ _ (by rw [HRS.out]; rfl)) HRI.out HRO.out ?_
       rw [setCells_new w2 _ RC 106 HRI.out (by rw [HRS.out]; rfl) HRO.out]))
  generalize hwE : w2.alloc _ = wE
  have HE := Lib.hid (show Below w2.heap.size w2 wE from hwE ▸ below_alloc w2 _)
  have HR := Lib.hid (show RunD wE w2.heap.size [] nm n2 c false false f k from hwE ▸ ((heap_alloc_at w2 _).trans (by rw [HRC.out])))
  clear hwE
  have HB3 := Lib.hid (HB2.out.trans (HE.out.mono HB2.out.size))
  have HNR3 := Lib.hid (HNR2.out.later HE.out)
  have hz2 : w.heap.size + 1 < w2.heap.size := by
    have h := (HNR2.out 0 (by decide)).1
    obtain ⟨u, hu⟩ := Option.isSome_iff_exists.1 h
    exact lt_of_cell hu
  have hz3 := HR.out.lt
  refine (HAC.out wE w2.heap.size HB3.out hz2 HR.out).mono ?_
  rintro e w4 ⟨rfl, hbx, hq⟩
  have HQ := Lib.hid hq
  have HNR4 := Lib.hid (show w4.there (w.heap.size + 1) 0 7 from fun j hj => by
    obtain ⟨h1, h2⟩ := HNR3.out j hj
    have hc : w4.cell? ⟨w.heap.size + 1, 0 + j, none⟩ = wE.cell? ⟨w.heap.size + 1, 0 + j, none⟩ := World.cell?_of_block (w := wE) hbx
    exact ⟨by rw [hc]; exact h1, by rw [World.frozen?_of_block (w := wE) hbx]; exact h2⟩)
  have HRI7 := Lib.hid (show (Tryz.prog.info? 41).map (·.size) = some resZero.length by kernel_rfl)
  have HRO7 := Lib.hid (show resZero.toArray.all (·.oneCell') = true by unfold resZero; rw [List.all_toArray]; simp only [List.all_cons, List.all_nil]; rfl)
  have HRL := Lib.hid (show resZero.length = 7 from rfl)
  have HRZ := Lib.hid (show resZero.toArray = #[.string ⟨#[]⟩, .pointer none, .string ⟨#[]⟩, .slice none 0 0, .bool false, .bool false, .bool false] from rfl)
  obtain ⟨RL, hRL⟩ : ∃ RL, RL = resZero := ⟨_, rfl⟩
  rw [← hRL] at HRI7 HRO7 HRL HRZ
  have HRE := Lib.hid hRL
  clear hq hbx hRL
  go_wp2_with (refine wpList_store_mid rfl 41 _ _ rfl (w.heap.size + 1) 0 RL.toArray rfl (by rw [HRZ.out]; rfl) (by simpa only [List.size_toArray, HRL.out] using HNR4.out) (by simpa only [List.size_toArray] using HRI7.out) HRO7.out ?_)
  have hRG := World.rangeAt_setCells_same w4 (w.heap.size + 1) 0 RL (by rw [HRL.out]; exact HNR4.out)
  have hld := run_loadVar_mid (P := Tryz.prog) _ (w.heap.size + 1) 0 41 RL _ hRG Tryz.underlying41 rfl HRI7.out
  have hK := keep_setCellsX (S := Only (w.heap.size + 1)) (w.heap.size + 1) (eqIn _) RL 0 (KeepT.refl _ w4)
  refine ⟨rfl, .tuple #[.agg RL.toArray, .int .i64 z], ?_, wE, w2.heap.size, w4, by rw [HRE.out], HB3.out, hz2, hz3, HQ.out, hK⟩
  simp [results, hld, asAddr]
end
end Go.Proofs.YtlcjjcmfpmflcaaGreatDoor
/- disk.Run at w and at e, over the file system that the interpreter knows (chapter 24). -/
namespace Go.Proofs.YtlcjjcmfpmflcaaGreatDoor
open Go Go.Proofs Go.Ev Go.RowKit Go.Ink Go.Sort

section
variable {S F : Nat → Prop} {w w' : World} {d c t : Nat} {cur : Int} {r : Nat} {dirty : Bool} {undo was held : Option Addr} {dn : Value} {n : List UInt8} {p : Addr} {ps : List (List Line)} {L : List Line} {J : List UInt8}
theorem KeepT.back {S S' : Nat → Prop} {w X W : World} (hb : Below w.heap.size w X) (h : KeepT S X W) (hs : ∀ x, x < w.heap.size → S x → S' x) : KeepT S' w W :=
  (KeepT.of_below (S := S') hb).trans h hs
theorem runW_ok (hw : 6 ≤ w.heap.size) (hc : CoreB w c t cur [] r dirty undo was held dn) (ht : TabOf S w t ps) (hF : ps.flatten = L) (hl : ps.length ≤ 100000) (hm : manyS ps ≤ 1000000)
    (hfs : Fs J n fsH1 w p F) (hFw : ∀ x, F x → x < w.heap.size) (hSc : S c) (hFc : ¬ F c) (hn : nameB n = true) (hJ : joinL L = J) (hJl : J.length ≤ 30000) (h10 : ∀ X, KeepT (fun x => F x ∨ x = c) w X → Tab10 X) :
    Calls Tryz.prog 14 #[.pointer (some ⟨c, 0, none⟩), .pointer (some p), .string ⟨#[]⟩, .agg (cmdD 119 n).toArray, .bool false] w fun e w' => e = .returned (.tuple #[.agg (resCells (toldL J.length) n c true false).toArray, .int .i64 0]) ∧
      CoreB w' c t cur [] r false undo was held dn ∧ (∃ F', Fs J n fsH2 w' p F' ∧ ∀ x, F' x → F x ∨ (w.heap.size ≤ x ∧ x < w'.heap.size)) ∧ KeepT (fun x => F x ∨ x = c) w w' := by
  have hcl := hc.lt
  refine (diskRun_ok (Q := fun X d out nm' c' wr an W => (out = toldL J.length ∧ nm' = n ∧ c' = c ∧ wr = true ∧ an = false) ∧ CoreB W c t cur [] r false undo was held dn ∧ (∃ w2 : World, Fs J n fsH2 W p (fun x => F x ∨ (X.heap.size ≤ x ∧ x < w2.heap.size)) ∧ w2.heap.size ≤ W.heap.size) ∧ KeepT (FCD F c d) X W) (nm := []) (.inl rfl) hw hc fun X d hb hd hR => ?_).mono ?_
  · have hFd : ¬ F d := fun h => by have := hFw d h; omega
    refine (actW hR (diskWrite_ok hR (hc.later hb) (ht.later hb) hF hl hm (FsAt.later hfs hb) hSc hFc hFd (by omega) hn hJ hJl (fun Y hY => h10 Y (KeepT.back hb hY (fun x hx h => by
      rcases h with h | h | h
      · exact .inl h
      · exact .inr h
      · omega))))).mono ?_
    rintro e W ⟨rfl, h1, h2, h3, h4⟩
    refine ⟨rfl, _, _, _, _, _, h1, h4.block _ (Nat.lt_trans hd hR.lt) ?_, ⟨rfl, rfl, rfl, rfl, rfl⟩, h2, h3, h4⟩
    rintro (h | h | h)
    · have := hFw _ h; omega
    · omega
    · omega
  · rintro e w' ⟨X, d, out, nm', c', wr, an, W, rfl, hb, hd, hdX, ⟨⟨rfl, rfl, rfl, rfl, rfl⟩, h2, ⟨w2, h3, h4⟩, h5⟩, hk⟩
    have hzX := hb.size
    have hzW := h5.size
    have hzk := hk.size
    refine ⟨rfl, h2.kept hk (by unfold Only; omega), ⟨_, FsAt.kept h3 hk (fun x _ hx => by
      unfold Only at hx; subst hx
      rintro (h | h)
      · have := hFw _ h; omega
      · omega), fun x hx => ?_⟩, KeepT.back hb ((h5.mono (S' := fun x => FCD F c' d x ∨ Only (w.heap.size + 1) x) (fun _ _ h => .inl h)).trans hk (fun x _ h => .inr h)) ?_⟩
    · rcases hx with h | h
      · exact .inl h
      · exact .inr ⟨by omega, by omega⟩
    · rintro x hx ((h | h | h) | h)
      · exact .inl h
      · exact .inr h
      · omega
      · unfold Only at h; omega
theorem runW_no (hw : 6 ≤ w.heap.size) (hc : CoreB w c t cur [] r dirty undo was held dn) (ht : TabOf S w t ps) (hl : ps.length ≤ 100000) (hm : manyS ps ≤ 1000000) (hSc : S c) (hn : nameB n = false) (hn2 : n.length ≤ 100) :
    Calls Tryz.prog 14 #[.pointer (some ⟨c, 0, none⟩), .pointer (some p), .string ⟨#[]⟩, .agg (cmdD 119 n).toArray, .bool false] w fun e w' => e = .returned (.tuple #[.agg resZero.toArray, .int .i64 240]) ∧ KeepT (Only c) w w' := by
  have hcl := hc.lt
  refine (diskRun_no (z := 240) (by decide) (Q := fun X d W => KeepT (Only c) X W) (nm := []) (.inl rfl) hw hc fun X d hb hd hR => ?_).mono ?_
  · refine (actW hR (diskWrite_no hR (hc.later hb) (ht.later hb) hl hm hSc (by omega) hn hn2)).mono ?_
    rintro e W ⟨rfl, h4⟩
    exact ⟨rfl, h4.block _ (Nat.lt_trans hd hR.lt) (by unfold Only; omega), h4⟩
  · rintro e w' ⟨X, d, W, rfl, hb, hd, hdX, h5, hk⟩
    refine ⟨rfl, KeepT.back hb ((h5.mono (S' := fun x => Only c x ∨ Only (w.heap.size + 1) x) (fun _ _ h => .inl h)).trans hk (fun x _ h => .inr h)) ?_⟩
    rintro x hx (h | h)
    · exact h
    · unfold Only at h; omega
theorem runE_ok (hw : 6 ≤ w.heap.size) (hc : CoreB w c t cur [] r false undo was held dn)
    (hfs : Fs J n fsH3 w p F) (hFw : ∀ x, F x → x < w.heap.size) (hn : nameB n = true) (hJ : joinL L = J) (hJl : J.length ≤ 30000) (hck : checkL L = 0) (h10 : ∀ X, KeepT F w X → Tab10 X) :
    Calls Tryz.prog 14 #[.pointer (some ⟨c, 0, none⟩), .pointer (some p), .string ⟨n.toArray⟩, .agg (cmdD 101 []).toArray, .bool false] w fun e w' => ∃ c2 t2 r2, e = .returned (.tuple #[.agg (resCells (toldL J.length) n c2 false true).toArray, .int .i64 0]) ∧
      CoreB w' c2 t2 (L.length : Int) [] r2 false none none none (.slice none 0 0) ∧ TabOf (Only c2) w' t2 (ofS [L]) ∧ KeepT F w w' := by
  have hcl := hc.lt
  refine (diskRun_ok (Q := fun X d out nm' c' wr an W => (out = toldL J.length ∧ nm' = n ∧ wr = false ∧ an = true) ∧ ∃ t2 r2, CoreB W c' t2 (L.length : Int) [] r2 false none none none (.slice none 0 0) ∧ TabOf (fun x => Only c' x ∨ Only (w.heap.size + 1) x) W t2 (ofS [L]) ∧ X.heap.size ≤ c' ∧ KeepT (fun x => F x ∨ x = d) X W) (nm := n) (n2 := []) (.inr rfl) hw hc fun X d hb hd hR => ?_).mono ?_
  · have hFd : ¬ F d := fun h => by have := hFw d h; omega
    have hdX := hR.lt
    refine (actE hR (diskEdit_ok hR (hc.later hb) (FsAt.later hfs hb) hFd hn hJ hJl hck (fun Y hY => h10 Y (KeepT.back hb hY (fun x _ h => h))))).mono ?_
    rintro e W ⟨rfl, c2, t2, r2, h1, h2, h3, h4, h5⟩
    refine ⟨rfl, _, _, _, _, _, h1, h5.block _ (by omega) ?_, ⟨rfl, rfl, rfl, rfl⟩, t2, r2, h2, ?_, h4, h5⟩
    · rintro (h | h)
      · have := hFw _ h; omega
      · omega
    · exact h3.apart (fun x hx => .inl (by
        rcases hx with hx | hx
        · exact .inr hx
        · unfold Only at hx; exact .inl (by omega)))
  · rintro e w' ⟨X, d, out, nm', c', wr, an, W, rfl, hb, hd, hdX, ⟨⟨rfl, rfl, rfl, rfl⟩, t2, r2, h2, h3, h4, h5⟩, hk⟩
    refine ⟨c', t2, r2, rfl, h2.kept hk (by unfold Only; omega), (h3.kept (hk.mono (fun _ _ h => .inr h))).apart (fun x h => .inl (.inl h)), KeepT.back hb ((h5.mono (S' := fun x => (F x ∨ x = d) ∨ Only (w.heap.size + 1) x) (fun _ _ h => .inl h)).trans hk (fun x _ h => .inr h)) ?_⟩
    rintro x hx ((h | h) | h)
    · exact h
    · omega
    · unfold Only at h; omega
end
end Go.Proofs.YtlcjjcmfpmflcaaGreatDoor
