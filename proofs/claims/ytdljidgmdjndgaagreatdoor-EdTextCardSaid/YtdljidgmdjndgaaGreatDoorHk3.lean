/- A hook of the interpreter: bytealg.MakeNoZero (a row of bytes that nobody knows). No program in sight. -/
import Derived.Test.YtdljidgmdjndgaaGreatDoorHk1
namespace Go.Ev
open Go Go.RowKit
section
variable {P : Program}
noncomputable def hNoZ (el : Nat) : Hook := fun l h => match l with
  | [.int .i64 (.ofNat n)] => cond (Nat.ble n 281474976710656) (lapp (repl n [.junk]) [] fun cs => newG el .grow cs n 0 h fun v h => .ok (v, h)) (.no 327)
  | _ => .no 327
theorem noz_digits : ∀ (n t : Nat) (acc : Array Value), (∀ (i : Nat) (x : Value), acc[i]? = some x → ∃ (k : IntKind) (m : Int), x = Value.int k m) → (Extern.BytealgMakeNoZero.digits n t acc).size = acc.size + n ∧ ∀ (i : Nat) (x : Value), (Extern.BytealgMakeNoZero.digits n t acc)[i]? = some x → ∃ (k : IntKind) (m : Int), x = Value.int k m
  | 0, t, acc, h => ⟨rfl, h⟩
  | n + 1, t, acc, h => by
    obtain ⟨h1, h2⟩ := noz_digits n (t / 256) (acc.push (.int .u8 (Int.ofNat (t % 256)))) (fun i x hx => by
      rw [Array.getElem?_push] at hx
      split at hx
      · cases hx; exact ⟨_, _, rfl⟩
      · exact h i x hx)
    refine ⟨?_, h2⟩
    show (Extern.BytealgMakeNoZero.digits n (t / 256) _).size = _
    rw [h1, Array.size_push]
    omega
theorem noz_ok {f : Nat} {ps rs : Array TypeId} {t el : TypeId} (hE : Ext P f (Extern.BytealgMakeNoZero.makeNoZero ps rs)) (hrs : rs[0]? = some t) (hu : P.underlying t = some (.slice el)) (hc : P.cellsOf el = 1) : CallOk1 P f (hNoZ el) := by
  intro l h v h' h0
  unfold hNoZ at h0
  split at h0
  case h_2 => cases h0
  rename_i n
  obtain ⟨hb, h1⟩ := cond_ok h0
  have hn : n ≤ 281474976710656 := Nat.le_of_ble_eq_true hb
  rw [lapp_eq, List.append_nil] at h1
  obtain ⟨h2, h3, h4, h5, h6⟩ := hnew_ok h1
  cases h3
  refine ⟨h5, fun ξ G args w rp hG hd => ?_⟩
  simp only [DenL, Den] at hd
  obtain ⟨y, ys, e1, e2, e3⟩ := hd
  have ea : args = #[.int .i64 (n : Int)] := by
    apply Array.toList_inj.1
    rw [e1, e2, e3]
    rfl
  subst ea
  obtain ⟨cap, hcap⟩ : ∃ cap, (Question.appendCap n 0 el).cut (w.tape w.drawn (.appendCap n 0 el)) = cap := ⟨_, rfl⟩
  obtain ⟨bs, hbs⟩ : ∃ bs, (Question.extern "internal/bytealg.MakeNoZero.bytes" 0).cut (w.drew.tape w.drew.drawn (.extern "internal/bytealg.MakeNoZero.bytes" 0)) = bs := ⟨_, rfl⟩
  have hge : n ≤ cap := by rw [← hcap]; simp [Question.cut]
  obtain ⟨q1, q2⟩ := noz_digits cap bs #[] (fun i x hx => by simp at hx)
  have hr : (Extern.BytealgMakeNoZero.makeNoZero ps rs #[.int .i64 (n : Int)]).run P w = .ok (.slice (some ⟨w.heap.size, 0, none⟩) n cap) { w with heap := w.heap.push (.cells (Extern.BytealgMakeNoZero.digits cap bs #[]) el), drawn := w.drawn + 2 } := by
    have hdef : Extern.BytealgMakeNoZero.makeNoZero ps rs #[.int .i64 (n : Int)] = (do
      let some t := rs[0]? | stuck "bytealg.MakeNoZero: no result type"
      let .slice elem ← underlying t | stuck "bytealg.MakeNoZero: slice type expected"
      if (n : Int) < 0 || (n : Int) > 2 ^ 48 then runtimePanic (.error "makeslice: len out of range")
      let cap ← choose (.appendCap (n : Int).toNat 0 elem)
      askRoom cap
      let bytes ← choose (.extern "internal/bytealg.MakeNoZero.bytes" 0)
      let a ← newRow elem (Extern.BytealgMakeNoZero.digits cap bytes #[])
      pure (.slice (some a) (n : Int).toNat cap)) := rfl
    have hneg : (decide ((n : Int) < 0) || decide ((n : Int) > 2 ^ 48)) = false := by
      rw [Bool.or_eq_false_iff]
      exact ⟨decide_eq_false (by omega), decide_eq_false (by omega)⟩
    rw [hdef]
    simp only [hrs, Sem.run_bind, underlying_run hu, Result.andThen_ok, hneg, Bool.false_eq_true, if_false, Int.toNat_natCast, Sem.run_pure, run_askRoom]
    simp [newRow, go_sem]
    have hbs' : (Question.extern "internal/bytealg.MakeNoZero.bytes" 0).cut (w.tape (w.drawn + 1) (Question.extern "internal/bytealg.MakeNoZero.bytes" 0)) = bs := hbs
    refine ⟨hcap, ?_⟩
    rw [hcap, hbs']
    rfl
  refine callW_ext hE hr ?_
  obtain ⟨r1, r2⟩ := rp.new (d := w.drawn + 2) (g := ⟨w.heap.size, 0, cap⟩) (o := .cells (Extern.BytealgMakeNoZero.digits cap bs #[]) el) h4 h6 rfl (by
    refine ⟨_, 0, 0, rfl, fun i u hu => ?_, ?_, ?_, .inl (Nat.zero_le _)⟩
    · have hi : i < n := by
        have := (List.getElem?_eq_some_iff.1 hu).1
        rwa [repl_len] at this
      rw [repl_get, if_pos hi] at hu
      cases hu
      have hlt : i < (Extern.BytealgMakeNoZero.digits cap bs #[]).size := by rw [q1]; simp; omega
      refine ⟨_, by rw [Nat.zero_add]; exact Array.getElem?_eq_getElem hlt, ?_⟩
      simp only [Den]
      exact q2 i _ (Array.getElem?_eq_getElem hlt)
    · show 0 + (repl n [V.junk]).length ≤ _
      rw [repl_len, q1]; simp; omega
    · show 0 + cap * P.cellsOf el ≤ _
      rw [hc, q1]; simp)
  refine ⟨_, ?_, r1, r2⟩
  simp only [Den]
  exact ⟨⟨w.heap.size, 0, cap⟩, by rw [← rp.len]; simp, by simpa using hge, Nat.le_refl _, rfl⟩
end
end Go.Ev
