/- The walk of MovesTimes (chapter 27). -/
import Derived.Test.YtopbpmcanhbklaaGreatDoorMvT1
import Derived.Test.YtopbpmcanhbklaaGreatDoorMvZ
set_option linter.unusedVariables false
set_option linter.unusedSimpArgs false
namespace Go.Proofs.YtopbpmcanhbklaaGreatDoor
open Go Go.Proofs Go.RowKit Go.Ink Go.Sort Go.Ev

theorem set_row_below {B : Nat} {a w : World} (h : Below B a w) {g : Nat} (hg : B ≤ g) (cs : Array Value) : Below B a (w.setRow g cs) :=
  h.trans ⟨rfl, rfl, rfl, by simp, fun k hk => setRow_other w g k cs (by omega)⟩
set_option maxRecDepth 100000 in
set_option maxHeartbeats 4000000 in
theorem movesTimes_any (l : List (List UInt8)) (line col : Int) (a b : UInt8) (ao : Option Addr) (cap : Nat) (w : World) (h : SlOf IsStr w ao cap l) (hw : 4 ≤ w.heap.size) :
    Calls Tryz.prog 3 #[.slice ao l.length cap, .agg #[.int .i64 line, .int .i64 col], .agg #[.int .u8 (a.toNat : Int), .int .u8 (b.toNat : Int)]] w fun e w' => e = .returned (.bool true) ∧ Below w.heap.size w w' := by
  have ha : a.toNat < 256 := a.toNat_lt
  have hb : b.toNat < 256 := b.toNat_lt
  obtain ⟨w2, hw2⟩ : ∃ w2, (w.alloc (.cells #[.int .i64 line, .int .i64 col] 24)).alloc (.cells #[.int .u8 (a.toNat : Int), .int .u8 (b.toNat : Int)] 25) = w2 := ⟨_, rfl⟩
  obtain ⟨hx, hy, hbl⟩ := @two_blk2 w (.cells #[.int .i64 line, .int .i64 col] 24) (.cells #[.int .u8 (a.toNat : Int), .int .u8 (b.toNat : Int)] 25)
  rw [hw2] at hx hy hbl
  have HX := Lib.hid hx
  have HY := Lib.hid hy
  have HB := Lib.hid hbl
  have HS := Lib.hid h
  have y0 := Lib.cell_of_heap hy 0
  have y1 := Lib.cell_of_heap hy 1
  simp at y0 y1
  have HW := Lib.hid hw
  have HHA := Lib.hid ha
  have HHB := Lib.hid hb
  clear h hx hy hbl hw ha hb
  go_enter Tryz.func3, Tryz.ntmps3
  go_upto_region 1 with fail
  go_region
  have hb3 := below_drewN HB.out 1
  have HX3 : Hid (w2.drew.heap[w.heap.size]? = _) := HX
  have HB3 : Hid (Below w.heap.size w w2.drew) := Lib.hid hb3
  clear hb3 HX HY HB y0 y1 hw2
  generalize w2.drew = w3 at *
  have x0 := Lib.cell_of_heap HX3.out 0
  have x1 := Lib.cell_of_heap HX3.out 1
  simp at x0 x1
  have X0 := fun o => (((Below.refl w3.heap.size w3).alloc (Nat.le_refl _) o).cell (p := ⟨w.heap.size, 0, none⟩) (lt_of_cell x0)).trans x0
  have X1 := fun o => (((Below.refl w3.heap.size w3).alloc (Nat.le_refl _) o).cell (p := ⟨w.heap.size, 1, none⟩) (lt_of_cell x1)).trans x1
  have hwa : IntKind.i64.wrap (a.toNat : Int) = (a.toNat : Int) := by have := HHA.out; rw [IntKind.wrap_i64]; omega
  have hwb : IntKind.i64.wrap (b.toNat : Int) = (b.toNat : Int) := by have := HHB.out; rw [IntKind.wrap_i64]; omega
  obtain ⟨k, hk, hk6⟩ : ∃ k : Nat, (a.toNat : Int) % 6 = (k : Int) ∧ k < 6 := ⟨a.toNat % 6, by omega, by omega⟩
  have hk0 : (0 : Int) ≤ (k : Int) := by omega
  have hk1 : (k : Int) < 6 := by omega
  have hby : ∀ h, (⟨#[119, 98, 101, 87, 66, 69]⟩ : ByteArray)[(k : Int).toNat]'h = UInt8.ofNat (nameOf k).toNat := by
    intro h
    have := name_byte k hk6
    rw [ByteArray.getElem?_lt' _ _ (by simpa using h)] at this
    simpa using this
  have hby2 : ∀ h, (⟨#[119, 98, 101, 87, 66, 69]⟩ : ByteArray)[k]'h = UInt8.ofNat (nameOf k).toNat := fun h => hby (by simpa using h)
  have hnm : ((UInt8.ofNat (nameOf k).toNat).toNat : Int) = nameOf k := by
    have hlt : k = 0 ∨ k = 1 ∨ k = 2 ∨ k = 3 ∨ k = 4 ∨ k = 5 := by omega
    rcases hlt with rfl | rfl | rfl | rfl | rfl | rfl <;> rfl
  have hnm2 : max (nameOf k) 0 % 256 = nameOf k := by
    have hlt : k = 0 ∨ k = 1 ∨ k = 2 ∨ k = 3 ∨ k = 4 ∨ k = 5 := by omega
    rcases hlt with rfl | rfl | rfl | rfl | rfl | rfl <;> rfl
  obtain ⟨c, hc, hc20⟩ : ∃ c : Nat, (b.toNat : Int) % 20 = (c : Int) ∧ c < 20 := ⟨b.toNat % 20, by omega, by omega⟩
  obtain ⟨n, hn⟩ : ∃ n, c + 1 = n := ⟨_, rfl⟩
  have hc1 : IntKind.i64.wrap (1 + (c : Int)) = (n : Int) := by rw [IntKind.wrap_i64]; omega
  have hta : (a.toNat : Int).tmod 6 = (k : Int) := by rw [← hk]; exact Int.tmod_eq_emod_of_nonneg (by omega)
  have htb : (b.toNat : Int).tmod 20 = (c : Int) := by rw [← hc]; exact Int.tmod_eq_emod_of_nonneg (by omega)
  go_upto_region 2 with fail
  refine wp_region_steady 11 73 (.cells (askA (.slice none 0 0) 0 0 0 0 0) 31 (0, 0)) [.slice ao l.length cap, .agg #[.int .i64 line, .int .i64 col], .int .u8 (a.toNat : Int), .int .i64 (a.toNat : Int), .int .i64 (k : Int), .int .u8 (nameOf k), .int .u8 (b.toNat : Int), .int .i64 (b.toNat : Int), .int .i64 (c : Int), .int .i64 (n : Int), .agg (askA (.slice ao l.length cap) line col (nameOf k) (n : Int) 0), .pointer (some ⟨w3.heap.size, 0, none⟩)] mixed (by decide +kernel) rfl (by decide) rfl ?_ ?_ ?_
  · intro w' hw'
    have x0' : w'.cell? ⟨w.heap.size, 0, none⟩ = some (.int .i64 line) := by rcases hw' with rfl | rfl; exact x0; exact (Below.cell ((Below.refl w3.drew.heap.size w3.drew).alloc (Nat.le_refl _) _) (p := ⟨w.heap.size, 0, none⟩) (lt_of_cell x0)).trans x0
    have x1' : w'.cell? ⟨w.heap.size, 1, none⟩ = some (.int .i64 col) := by rcases hw' with rfl | rfl; exact x1; exact (Below.cell ((Below.refl w3.drew.heap.size w3.drew).alloc (Nat.le_refl _) _) (p := ⟨w.heap.size, 1, none⟩) (lt_of_cell x1)).trans x1
    clear x0 x1 X0 X1 hw' HX3
    refine ⟨.inr (by kernel_rfl), .inr ?_, .inr (by kernel_rfl), .inr ?_, .inr ?_, .inr ?_, .inr (by kernel_rfl), .inr ?_, .inr ?_, .inr ?_, .inr ?_, .inl rfl, trivial⟩
    · generalize hT : putAll _ _ _ = T
      have e : Act.eval ⟨T, []⟩ (.tmp 4) = .pointer (some ⟨w.heap.size, 0, none⟩) := by rw [← hT]; kernel_rfl
      clear hT
      simp only [execOp, e]
      go_simp
    · generalize hT : putAll _ _ _ = T
      have e : Act.eval ⟨T, []⟩ (.tmp 23) = .int .u8 (a.toNat : Int) := by rw [← hT]; kernel_rfl
      clear hT
      simp only [execOp, e]
      go_simp
    · generalize hT : putAll _ _ _ = T
      have e : Act.eval ⟨T, []⟩ (.tmp 24) = .int .i64 (a.toNat : Int) := by rw [← hT]; kernel_rfl
      clear hT
      simp only [execOp, e]
      go_simp
    · generalize hT : putAll _ _ _ = T
      have e : Act.eval ⟨T, []⟩ (.tmp 25) = .int .i64 (k : Int) := by rw [← hT]; kernel_rfl
      clear hT
      simp only [execOp, e]
      go_simp
    · generalize hT : putAll _ _ _ = T
      have e : Act.eval ⟨T, []⟩ (.tmp 27) = .int .u8 (b.toNat : Int) := by rw [← hT]; kernel_rfl
      clear hT
      simp only [execOp, e]
      go_simp
    · generalize hT : putAll _ _ _ = T
      have e : Act.eval ⟨T, []⟩ (.tmp 28) = .int .i64 (b.toNat : Int) := by rw [← hT]; kernel_rfl
      clear hT
      simp only [execOp, e]
      go_simp
    · generalize hT : putAll _ _ _ = T
      have e : Act.eval ⟨T, []⟩ (.tmp 29) = .int .i64 (c : Int) := by rw [← hT]; kernel_rfl
      clear hT
      simp only [execOp, e]
      go_simp
    · have hr := run_build (P := Tryz.prog) w' 31 #[(0, .slice ao l.length cap), (1, .agg #[.int .i64 line, .int .i64 col]), (2, .int .u8 (nameOf k)), (3, .int .i64 (n : Int))] (askA (.slice ao l.length cap) line col (nameOf k) (n : Int) 0) (by kernel_rfl)
      generalize hT : putAll _ _ _ = T
      have e0 : Act.eval ⟨T, []⟩ (.tmp 21) = .slice ao l.length cap := by rw [← hT]; kernel_rfl
      have e1 : Act.eval ⟨T, []⟩ (.tmp 22) = .agg #[.int .i64 line, .int .i64 col] := by rw [← hT]; kernel_rfl
      have e2 : Act.eval ⟨T, []⟩ (.tmp 26) = .int .u8 (nameOf k) := by rw [← hT]; kernel_rfl
      have e3 : Act.eval ⟨T, []⟩ (.tmp 30) = .int .i64 (n : Int) := by rw [← hT]; kernel_rfl
      clear hT
      generalize askA (.slice ao l.length cap) line col (nameOf k) (n : Int) 0 = A at *
      simp only [execOp, List.map_toArray, List.map_cons, List.map_nil, e0, e1, e2, e3, Sem.run_bind, hr, Result.andThen_ok, Sem.run_pure]
  · intro o v ho hv
    simp at ho hv
    subst ho hv
    kernel_rfl
  · intro o ho
    simp at ho
    subst ho
    have hg4 : (w3.drew.alloc (.cells (askA (.slice none 0 0) 0 0 0 0 0) 31 (0, 0))).heap[w3.heap.size]? = some (.cells (askA (.slice none 0 0) 0 0 0 0 0) 31 (0, 0)) := heap_alloc_new w3.drew _
    have hb4 : Below w.heap.size w (w3.drew.alloc (.cells (askA (.slice none 0 0) 0 0 0 0 0) 31 (0, 0))) := HB3.out.trans (((Below.refl w3.heap.size w3).drew.alloc (Nat.le_refl _) _).mono HB3.out.size)
    generalize w3.drew.alloc (.cells (askA (.slice none 0 0) 0 0 0 0 0) 31 (0, 0)) = w4 at *
    generalize hT : putAll _ _ _ = T
    have e9 : Act.eval ⟨T, []⟩ (.tmp 9) = .pointer (some ⟨w3.heap.size, 0, none⟩) := by rw [← hT]; kernel_rfl
    have e31 : Act.eval ⟨T, []⟩ (.tmp 31) = .agg (askA (.slice ao l.length cap) line col (nameOf k) (n : Int) 0) := by rw [← hT]; kernel_rfl
    generalize hA : askA (.slice ao l.length cap) line col (nameOf k) (n : Int) 0 = A at *
    have hA1 : A.size = 36 := by rw [← hA]; rfl
    have hA2 : A.all (·.oneCell') = true := by rw [← hA]; kernel_rfl
    refine wp_store_row 31 (.tmp 9) (.tmp 31) rfl w3.heap.size A e9 e31 31 (askA (.slice none 0 0) 0 0 0 0 0) hg4 (by rw [hA1]; kernel_rfl) (by rw [hA1]; rfl) hA2 ?_
    have HM5 := Lib.hid (setRow_heap _ _ _ A _ _ hg4)
    have HB5 := Lib.hid (set_row_below hb4 HB3.out.size A)
    subst hA
    rw [← hT]
    clear hT e9 e31 hA1 hA2 hg4 hb4 X0 X1 x0 x1 HX3 hby hby2 hnm hnm2 hk hk0 hk1 hc hta htb hwa hwb hc1
    generalize w4.setRow w3.heap.size _ = w5 at *
    obtain ⟨m, hm⟩ : ∃ m, w3.heap.size = m := ⟨_, rfl⟩
    have HNM := Lib.hid (hm ▸ HB3.out.size : w.heap.size ≤ m)
    rw [hm] at HM5 ⊢
    clear HB3 hm
    simp only [putAll, put1, Act.put]
    go_simp
    have HN : Hid (1 ≤ n ∧ n ≤ 20) := Lib.hid ⟨by omega, by omega⟩
    clear hn hc20 hk6 HHA HHB
    go_wp2_with (refine wpList_load_row rfl 31 (.tmp 9) (by with_reducible rfl) m rfl 31 _ (0, 0) _ HM5.out Tryz.underlying31 rfl (by kernel_rfl) ?_)
    refine (beyond_any (HS.out.later lasts_str HB5.out) line col (nameOf k) n 0 (Nat.le_trans HN.out.2 (by decide))).mono ?_
    rintro e w6 ⟨rfl, hb6⟩
    have HB6 := Lib.hid (HB5.out.trans (hb6.mono HB5.out.size))
    have HM6 := Lib.hid ((hb6.block _ (lt_of_heap HM5.out)).trans HM5.out)
    clear hb6 HB5 HM5
    cases hbt : beyondT l 8
    case true =>
      go_wp2_with fail
      refine (lives_any (w := w6) (Nat.le_trans HW.out HB6.out.size)).mono ?_
      rintro e w7 ⟨rfl, hb7⟩
      have HB7 := Lib.hid (HB6.out.trans (hb7.mono HB6.out.size))
      clear hb7
      go_wp2_with fail
      go_returns
      exact ⟨rfl, HB7.out⟩
    case false =>
      obtain ⟨hfew, hshort⟩ := few_of hbt
      have HF : Hid (l.length ≤ 1000000) := Lib.hid (by omega)
      have HSH : Hid (∀ i, (lnL l i).length ≤ 1000000) := Lib.hid (fun i => Nat.le_trans (hshort i) (by decide))
      clear hfew hshort hbt
      go_wp2_with (refine wpList_load_row rfl 31 (.tmp 9) (by with_reducible rfl) m rfl 31 _ (0, 0) _ HM6.out Tryz.underlying31 rfl (by kernel_rfl) ?_)
      refine (move_F (HS.out.later lasts_str HB6.out) HSH.out HF.out line col n HN.out.1 (Nat.le_trans HN.out.2 (by decide)) k).mono ?_
      rintro e w7 ⟨inc, rfl, hb7⟩
      have HB7 := Lib.hid (HB6.out.trans (hb7.mono HB6.out.size))
      have HM7 := Lib.hid ((hb7.block _ (lt_of_heap HM6.out)).trans HM6.out)
      clear hb7 HB6 HM6
      obtain ⟨r1, hr1⟩ : ∃ r1, moveF l k line col n = r1 := ⟨_, rfl⟩
      rw [hr1]
      have HMV := Lib.hid hr1
      clear hr1
      obtain ⟨rx, ry, ok⟩ := r1
      go_upto_region 6 with fail
      have HR8 := Lib.hid (heap_alloc_new w7 (.cells #[.int .i64 rx, .int .i64 ry, .bool false, .bool inc] 35))
      have hb8 := (Below.refl w7.heap.size w7).alloc (Nat.le_refl _) (.cells #[.int .i64 rx, .int .i64 ry, .bool false, .bool inc] 35)
      have HM8 := Lib.hid ((hb8.block _ (lt_of_heap HM7.out)).trans HM7.out)
      have HB8 := Lib.hid (HB7.out.trans (hb8.mono HB7.out.size))
      have hsz8 : (w7.alloc (.cells #[.int .i64 rx, .int .i64 ry, .bool false, .bool inc] 35)).heap.size = w7.heap.size + 1 := by simp
      have hm7 := lt_of_heap HM7.out
      generalize w7.alloc (.cells #[.int .i64 rx, .int .i64 ry, .bool false, .bool inc] 35) = w8 at *
      obtain ⟨r, hr⟩ : ∃ r, w7.heap.size = r := ⟨_, rfl⟩
      obtain ⟨q, hq⟩ : ∃ q, w8.heap.size = q := ⟨_, rfl⟩
      have HRN := Lib.hid (hr ▸ HB7.out.size : w.heap.size ≤ r)
      have HQN := Lib.hid (hq ▸ HB8.out.size : w.heap.size ≤ q)
      have hrq : ¬ r = q := by omega
      have hmq : ¬ m = q := by omega
      have hmr : ¬ m = r := by omega
      have hqr : ¬ q = r := by omega
      have hqm : ¬ q = m := by omega
      have hrm : ¬ r = m := by omega
      rw [hr] at HR8 ⊢
      clear hsz8 hm7 hr HB7 HM7 hb8
      have HA := Lib.hid (fun o => heap_alloc_new w8 o)
      rw [hq] at HA
      have HO := Lib.hid (fun o => (((Below.refl w8.heap.size w8).alloc (Nat.le_refl _) o).block _ (lt_of_heap HM8.out)).trans HM8.out)
      have HO2 := Lib.hid (fun o => (((Below.refl w8.heap.size w8).alloc (Nat.le_refl _) o).block _ (lt_of_heap HR8.out)).trans HR8.out)
      have HB9 := Lib.hid (fun o => HB8.out.trans (((Below.refl w8.heap.size w8).alloc (Nat.le_refl _) o).mono HB8.out.size))
      go_upto_region 7 with (first
        | (refine wpList_load_row rfl 31 (.tmp 9) (by with_reducible rfl) m rfl 31 _ (0, 0) _ HM8.out Tryz.underlying31 rfl (by kernel_rfl) ?_)
        | (refine wpList_store_row rfl 31 (.tmp 12) (.tmp 40) (by with_reducible rfl) q (askA (.slice ao l.length cap) line col (nameOf k) (n : Int) 0) rfl rfl 31 _ (HA.out _) (by kernel_rfl) (by kernel_rfl) (by kernel_rfl) ?_))
      have HQ9 := Lib.hid (setRow_heap _ _ _ (askA (.slice ao l.length cap) line col (nameOf k) (n : Int) 0) _ _ (HA.out (.cells (askA (.slice none 0 0) 0 0 0 0 0) 31)))
      have HM9 := Lib.hid ((setRow_other _ q m (askA (.slice ao l.length cap) line col (nameOf k) (n : Int) 0) hmq).trans (HO.out (.cells (askA (.slice none 0 0) 0 0 0 0 0) 31)))
      have HR9 := Lib.hid ((setRow_other _ q r (askA (.slice ao l.length cap) line col (nameOf k) (n : Int) 0) hrq).trans (HO2.out (.cells (askA (.slice none 0 0) 0 0 0 0 0) 31)))
      have HB10 := Lib.hid (set_row_below (HB9.out (.cells (askA (.slice none 0 0) 0 0 0 0 0) 31)) HQN.out (askA (.slice ao l.length cap) line col (nameOf k) (n : Int) 0))
      have ez : (#[Value.slice none 0 0, Value.int IntKind.i64 0, Value.int IntKind.i64 0, Value.int IntKind.u8 0, Value.int IntKind.i64 0, Value.int IntKind.u8 0, Value.int IntKind.i64 0, Value.int IntKind.i64 0, Value.int IntKind.i64 0, Value.int IntKind.i64 0, Value.int IntKind.i64 0, Value.int IntKind.i64 0, Value.int IntKind.i64 0, Value.int IntKind.i64 0, Value.int IntKind.i64 0, Value.int IntKind.i64 0, Value.int IntKind.i64 0, Value.int IntKind.i64 0, Value.int IntKind.i64 0, Value.int IntKind.i64 0, Value.int IntKind.i64 0, Value.int IntKind.i64 0, Value.int IntKind.i64 0, Value.int IntKind.i64 0, Value.int IntKind.i64 0, Value.int IntKind.i64 0, Value.int IntKind.i64 0, Value.int IntKind.i64 0, Value.int IntKind.i64 0, Value.int IntKind.i64 0, Value.int IntKind.i64 0, Value.int IntKind.i64 0, Value.string ⟨#[]⟩, Value.bool false, Value.int IntKind.u8 0, Value.int IntKind.u8 0] : Array Value) = askA (.slice none 0 0) 0 0 0 0 0 := rfl
      rw [ez]
      generalize (w8.alloc (.cells (askA (.slice none 0 0) 0 0 0 0 0) 31)).setRow q _ = w9 at *
      clear HA HO HO2 HB9 HB8 HM8 HR8 ez hq
      have q4 := Lib.cell_of_heap HQ9.out 4
      have f4 := Lib.frozen_of_heap HQ9.out 4
      have e4 : (askA (.slice ao l.length cap) line col (nameOf k) (n : Int) 0)[4]? = some (.int .i64 (n : Int)) := rfl
      rw [e4] at q4
      have HQ10 : Hid ((w9.setCell ⟨q, 4, none⟩ (.int .i64 1)).heap[q]? = some (.cells (askA (.slice ao l.length cap) line col (nameOf k) 1 0) 31)) := Lib.hid (heap_set (j := 4) HQ9.out (.int .i64 1))
      have HM10 := Lib.hid ((Below.heap_setCell w9 ⟨q, 4, none⟩ (.int .i64 1) m hmq).trans HM9.out)
      have HR10 := Lib.hid ((Below.heap_setCell w9 ⟨q, 4, none⟩ (.int .i64 1) r hrq).trans HR9.out)
      have HB11 := Lib.hid (HB10.out.setCell (p := ⟨q, 4, none⟩) HQN.out (.int .i64 1))
      go_upto_region 8 with fail
      generalize w9.setCell ⟨q, 4, none⟩ (.int .i64 1) = w10 at *
      clear HQ9 HM9 HR9 HB10 q4 f4 e4
      go_upto_block 0 with fail
      go_cut [13] from 42 to 57 (fun mvv wx => ∃ (x y : Int) (mv : Bool), mvv = .bool mv ∧ Hid (Below w.heap.size w wx) ∧ Hid (wx.heap[m]? = some (.cells (askA (.slice ao l.length cap) line col (nameOf k) (n : Int) 0) 31)) ∧ Hid (wx.heap[r]? = some (.cells #[.int .i64 rx, .int .i64 ry, .bool false, .bool inc] 35)) ∧ Hid (wx.heap[q]? = some (.cells (askA (.slice ao l.length cap) x y (nameOf k) 1 0) 31)) ∧ Hid (loopF l k n line col false = (x, y, mv)))
      case first =>
        go_wp2_with fail
        go_loopw [13, 14] (fun mvv iv wr => ∃ (i : Nat) (x y : Int) (mv : Bool), iv = .int .i64 (i : Int) ∧ mvv = .bool mv ∧ i ≤ n ∧ Hid (Below w.heap.size w wr) ∧ Hid (wr.heap[m]? = some (.cells (askA (.slice ao l.length cap) line col (nameOf k) (n : Int) 0) 31)) ∧ Hid (wr.heap[r]? = some (.cells #[.int .i64 rx, .int .i64 ry, .bool false, .bool inc] 35)) ∧ Hid (wr.heap[q]? = some (.cells (askA (.slice ao l.length cap) x y (nameOf k) 1 0) 31)) ∧ Hid (loopF l k n line col false = loopF l k (n - i) x y mv)) (fun _ iv _ => n - (intOf iv).toNat)
        case atStart => exact ⟨0, line, col, false, rfl, rfl, by omega, HB11, HM10, HR10, HQ10, Lib.hid rfl⟩
        case round =>
          obtain ⟨i, x, y, mv, rfl, rfl, hi, HBi, HMi, HRi, HQi, HEi⟩ := hrel
          clear HB11 HM10 HR10 HQ10
          have m4 := Lib.cell_of_heap HMi.out 4
          have e4 : (askA (.slice ao l.length cap) line col (nameOf k) (n : Int) 0)[4]? = some (.int .i64 (n : Int)) := rfl
          rw [e4] at m4
          clear e4
          by_cases hlt : i < n
          case neg =>
            have hlti : ¬ (i : Int) < (n : Int) := by omega
            have hk0 : n - i = 0 := by omega
            go_wp2_with fail
            go_meet
            case rel => exact ⟨x, y, mv, rfl, HBi, HMi, HRi, HQi, Lib.hid (by rw [HEi.out, hk0]; rfl)⟩
          have hlti : (i : Int) < (n : Int) := by omega
          have hn63 : (n : Int) ≤ 20 := by have := HN.out.2; omega
          have hnx : n - i = (n - (i + 1)) + 1 := by omega
          go_wp2_with (refine wpList_load_row rfl 31 (.tmp 12) (by with_reducible rfl) q rfl 31 _ (0, 0) _ HQi.out Tryz.underlying31 rfl (by kernel_rfl) ?_)
          refine (move_F (HS.out.later lasts_str HBi.out) HSH.out HF.out x y 1 (by decide) (by decide) k).mono ?_
          rintro e w11 ⟨inc2, rfl, hb11⟩
          have HB12 := Lib.hid (HBi.out.trans (hb11.mono HBi.out.size))
          have HM12 := Lib.hid ((hb11.block _ (lt_of_heap HMi.out)).trans HMi.out)
          have HR12 := Lib.hid ((hb11.block _ (lt_of_heap HRi.out)).trans HRi.out)
          have HQ12 := Lib.hid ((hb11.block _ (lt_of_heap HQi.out)).trans HQi.out)
          clear hb11 HBi HMi HRi HQi m4
          obtain ⟨r2, hr2⟩ : ∃ r2, moveF l k x y 1 = r2 := ⟨_, rfl⟩
          have HMV2 : Hid (loopF l k (n - i) x y mv = if r2.2.2 = true then loopF l k (n - (i + 1)) r2.1 r2.2.1 true else (x, y, mv)) := Lib.hid (by rw [hnx]; show (if (moveF l k x y 1).2.2 = true then _ else _) = _; rw [hr2])
          rw [hr2]
          clear hr2 hnx
          obtain ⟨x2, y2, is⟩ := r2
          have HBo := Lib.hid (fun o => HB12.out.trans (((Below.refl w11.heap.size w11).alloc (Nat.le_refl _) o).mono HB12.out.size))
          have HMo := Lib.hid (fun o => (((Below.refl w11.heap.size w11).alloc (Nat.le_refl _) o).block _ (lt_of_heap HM12.out)).trans HM12.out)
          have HRo := Lib.hid (fun o => (((Below.refl w11.heap.size w11).alloc (Nat.le_refl _) o).block _ (lt_of_heap HR12.out)).trans HR12.out)
          have HQo := Lib.hid (fun o => (((Below.refl w11.heap.size w11).alloc (Nat.le_refl _) o).block _ (lt_of_heap HQ12.out)).trans HQ12.out)
          have HNo := Lib.hid (fun o => heap_alloc_new w11 o)
          have hqt := lt_of_heap HQ12.out
          clear HB12 HM12 HR12 HQ12
          cases is
          · go_wp2_with fail
            go_meet
            case rel => exact ⟨x, y, mv, rfl, Lib.hid (HBo.out _), Lib.hid (HMo.out _), Lib.hid (HRo.out _), Lib.hid (HQo.out _), Lib.hid (by rw [HEi.out, HMV2.out]; rfl)⟩
          go_upto_region 15 with fail
          have HB13 := Lib.hid (HBo.out (.cells #[.int .i64 x2, .int .i64 y2, .bool false, .bool inc2] 35))
          have HM13 := Lib.hid (HMo.out (.cells #[.int .i64 x2, .int .i64 y2, .bool false, .bool inc2] 35))
          have HR13 := Lib.hid (HRo.out (.cells #[.int .i64 x2, .int .i64 y2, .bool false, .bool inc2] 35))
          have HQ13 := Lib.hid (HQo.out (.cells #[.int .i64 x2, .int .i64 y2, .bool false, .bool inc2] 35))
          have HN13 := Lib.hid (HNo.out (.cells #[.int .i64 x2, .int .i64 y2, .bool false, .bool inc2] 35))
          generalize w11.alloc (.cells #[.int .i64 x2, .int .i64 y2, .bool false, .bool inc2] 35) = w13 at *
          obtain ⟨t, ht⟩ : ∃ t, w11.heap.size = t := ⟨_, rfl⟩
          rw [ht] at HN13 hqt ⊢
          have htq : ¬ t = q := by omega
          have hqt' : ¬ q = t := by omega
          clear HBo HMo HRo HQo HNo ht hqt
          have n0 := Lib.cell_of_heap HN13.out 0
          have n1 := Lib.cell_of_heap HN13.out 1
          simp at n0 n1
          have q1 := Lib.cell_of_heap HQ13.out 1
          have q2 := Lib.cell_of_heap HQ13.out 2
          have e1 : (askA (.slice ao l.length cap) x y (nameOf k) 1 0)[1]? = some (.int .i64 x) := rfl
          have e2 : (askA (.slice ao l.length cap) x y (nameOf k) 1 0)[2]? = some (.int .i64 y) := rfl
          rw [e1] at q1
          rw [e2] at q2
          clear e1 e2
          have f1 := Lib.frozen_of_heap HQ13.out 1
          have f2 := Lib.frozen_of_heap HQ13.out 2
          have HQ14 : Hid (((w13.setCell ⟨q, 1, none⟩ (.int .i64 x2)).setCell ⟨q, 2, none⟩ (.int .i64 y2)).heap[q]? = some (.cells (askA (.slice ao l.length cap) x2 y2 (nameOf k) 1 0) 31)) := Lib.hid (heap_set (j := 2) (heap_set (j := 1) HQ13.out (.int .i64 x2)) (.int .i64 y2))
          have HM14 := Lib.hid (((Below.heap_setCell (w13.setCell ⟨q, 1, none⟩ (.int .i64 x2)) ⟨q, 2, none⟩ (.int .i64 y2) m hmq).trans (Below.heap_setCell w13 ⟨q, 1, none⟩ (.int .i64 x2) m hmq)).trans HM13.out)
          have HR14 := Lib.hid (((Below.heap_setCell (w13.setCell ⟨q, 1, none⟩ (.int .i64 x2)) ⟨q, 2, none⟩ (.int .i64 y2) r hrq).trans (Below.heap_setCell w13 ⟨q, 1, none⟩ (.int .i64 x2) r hrq)).trans HR13.out)
          have HB14 := Lib.hid ((HB13.out.setCell (p := ⟨q, 1, none⟩) HQN.out (.int .i64 x2)).setCell (p := ⟨q, 2, none⟩) HQN.out (.int .i64 y2))
          go_wp2_with fail
          go_roundw
          case rel => exact ⟨i + 1, x2, y2, true, by go_num, rfl, by omega, HB14, HM14, HR14, HQ14, Lib.hid (by rw [HEi.out, HMV2.out]; rfl)⟩
          case measure => simp [intOf]; omega
      case rest =>
        obtain ⟨x, y, mv, rfl, HBx, HMx, HRx, HQx, HEx⟩ := hcut
        clear HB11 HM10 HR10 HQ10
        obtain ⟨n', rfl⟩ : ∃ n', n = n' + 1 := ⟨n - 1, by have := HN.out.1; omega⟩
        have hlw := loop_law l k n' line col
        rw [HEx.out, HMV.out] at hlw
        obtain ⟨hl1, hl2⟩ := hlw
        simp only at hl1 hl2
        subst hl1
        have HLV := Lib.hid (lives_any (w := _) (Nat.le_trans HW.out HBx.out.size))
        have r0 := Lib.cell_of_heap HRx.out 0
        have r1 := Lib.cell_of_heap HRx.out 1
        simp at r0 r1
        have q1 := Lib.cell_of_heap HQx.out 1
        have q2 := Lib.cell_of_heap HQx.out 2
        have e1 : (askA (.slice ao l.length cap) x y (nameOf k) 1 0)[1]? = some (.int .i64 x) := rfl
        have e2 : (askA (.slice ao l.length cap) x y (nameOf k) 1 0)[2]? = some (.int .i64 y) := rfl
        rw [e1] at q1
        rw [e2] at q2
        clear e1 e2 HEx HMV
        cases mv
        · go_wp2_with fail
          refine HLV.out.mono ?_
          rintro e w15 ⟨rfl, hb15⟩
          have HB15 := Lib.hid (HBx.out.trans (hb15.mono HBx.out.size))
          clear hb15 HLV
          go_wp2_with fail
          go_returns
          exact ⟨rfl, HB15.out⟩
        · obtain ⟨rfl, rfl⟩ := hl2 rfl
          have hpe := fun W => pos_eq rx ry rx ry W
          have hrr : (rx == rx) = true := beq_self_eq_true rx
          have hrs : (ry == ry) = true := beq_self_eq_true ry
          go_wp2_with fail
          refine HLV.out.mono ?_
          rintro e w15 ⟨rfl, hb15⟩
          have HB15 := Lib.hid (HBx.out.trans (hb15.mono HBx.out.size))
          clear hb15 HLV
          go_wp2_with fail
          go_returns
          exact ⟨rfl, HB15.out⟩
end Go.Proofs.YtopbpmcanhbklaaGreatDoor
