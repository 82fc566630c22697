/- core.New: a buffer of lines, or none; registers that are new. -/
import Derived.Test.YtndjgbehbgcpkaaGreatDoorPcs1
import Derived.Deep.MidRow
import Derived.Deep.WholeRow
import Derived.Test.YtndjgbehbgcpkaaGreatDoorKeep
import Derived.Test.YtndjgbehbgcpkaaGreatDoorBase
import Derived.Deep.QuietTactic
import Derived.BigQuiet
import Derived.WalkSmall
set_option linter.unusedVariables false
set_option linter.unusedSimpArgs false
set_option maxRecDepth 100000
set_option maxHeartbeats 4000000
namespace Go.Proofs.YtndjgbehbgcpkaaGreatDoor
open Go Go.Proofs Go.RowKit Go.Ink Go.Sort
theorem lt_of_heap' {w:World}{b:Nat}{o:Obj}(h:w.heap[b]? =some o):b < w.heap.size:=(Array.getElem?_eq_some_iff.1 h).1
def Zdk (w:World)(r:Nat):Prop:=∃m clk,w.heap[r]? =some (.cells #[.map (some m)] 105 (0,0))∧w.heap[m]? =some (.map #[] clk)
theorem Zdk.later {w w':World}{r:Nat}(h:Zdk w r)(hb:Below w.heap.size w w'):Zdk w' r:=by
 obtain⟨m,clk,h1,h2⟩:=h;exact⟨m,clk,(hb.block _ (Zaa h1)).trans h1,(hb.block _ (lt_of_heap' h2)).trans h2⟩
theorem regsNew_any (w:World):Calls Tryz.prog 37 #[] w fun e w'=>∃r,e= .returned (.pointer (some ⟨r,0,none⟩))∧Zdk w' r∧w.heap.size≤r∧Below w.heap.size w w':=by
 have hmm:∀(t:TypeId) (w:World),(Instr.makeMap t none).run Tryz.prog w= .ok (.map (some w.heap.size)) (w.alloc (.map #[] 0)):=fun _ _=>rfl;go_enter Tryz.func37,Tryz.ntmps37;go_wp2_with fail;go_returns;refine⟨w.heap.size+1,rfl,⟨w.heap.size,0,?_,?_⟩,Nat.le_succ _,((Below.refl _ _).alloc (Nat.le_refl _) _).alloc (by simp) _⟩
 ·show((w.heap.push _).push _)[w.heap.size+1]? =_
  rw [Array.getElem?_push,if_pos (by simp)]
 ·show((w.heap.push _).push _)[w.heap.size]? =_
  rw [Array.getElem?_push,if_neg (by simp),Array.getElem?_push,if_pos rfl]
def coreCells (t:Nat)(cur:Int)(ms:List Int)(last:List UInt8)(r:Nat)(dirty:Bool)(undo was held:Option Addr)(dn:Value):Array Value:=
 (([.pointer (some ⟨t,0,none⟩),.int .i64 cur]:List Value)++ms.map (fun m=>(Value.int .i64 m))++([.string ⟨last.toArray⟩,.pointer (some ⟨r,0,none⟩),.bool dirty,.pointer undo,.pointer was,.pointer held,dn]:List Value)).toArray
def noMarks:List Int:=List.replicate 26 0
open Go Go.Proofs Go.RowKit Go.Ink Go.Sort
open Go Go.Proofs Go.RowKit Go.Ink Go.Sort
open Go Go.Proofs Go.RowKit Go.Ink Go.Sort
theorem run_maps_clone {w:World}{r:Nat}{es:Array MapEntry}{clock:Nat}(t:TypeId)(hb:w.heap[r]? =some (.map es clock)):
 (Extern.MapsClone.clone #[.iface t (.map (some r))]).run Tryz.prog w= .ok (.iface t (.map (some w.heap.size))) (w.alloc (.map es clock)):=by
 have e:Extern.MapsClone.clone #[.iface t (.map (some r))]=(getObj r >>=fun o=>match o with
  | .map entries clock=>(newObj (.map entries clock) >>=fun n=>pure (.iface t (.map (some n))))
  | _=>stuck "maps.clone: a map expected"):=rfl
 have hget:(getObj r).run Tryz.prog w= .ok (.map es clock) w:=by simp [getObj,Sem.run,hb]
 rw [e];simp [hget,Result.andThen,go_sem]
theorem run_typeAssert_map {w:World}(t xT k e:TypeId)(v:Value)(h:Tryz.prog.underlying t=some (.map k e)):(Instr.typeAssert (.iface t v) xT t false).run Tryz.prog w= .ok v w:=by
 simp [Instr.typeAssert,run_underlying h,go_sem,Result.andThen]
theorem run_equalIn_map_nil {w:World}(d:Nat)(t k e:TypeId)(p:Option Nat)(h:Tryz.prog.underlying t=some (.map k e)):
 (Op.equalIn (d+1) t (.map p) (.map none)).run Tryz.prog w= .ok p.isNone w:=by
 cases p <;> simp [Op.equalIn,run_underlying h]
theorem run_map_nil {w:World}(t k e:TypeId)(p:Option Nat)(h:Tryz.prog.underlying t=some (.map k e)):(Go.binOp .eql t (.map p) (.map none)).run Tryz.prog w= .ok (.bool p.isNone) w:=by
 simp only [Go.binOp];simp [show Op.equal t (.map p) (.map none)=Op.equalIn (9999+1) t (.map p) (.map none) from rfl,run_equalIn_map_nil 9999 t k e p h]
theorem mapsClone_any (b:Nat)(es:Array MapEntry)(clock:Nat)(w:World)(hb:w.heap[b]? =some (.map es clock)):
 Calls Tryz.prog 73 #[.map (some b)] w fun e w'=>e= .returned (.map (some w.heap.size))∧w'=w.alloc (.map es clock):=by
 have hq:=fun w=>run_map_nil (w:=w) 103 _ _ (some b) Tryz.underlying103;go_enter Tryz.func73,Tryz.ntmps73
 go_wp2
 rw [run_callFunc_extern (fn:=Tryz.f129) (by kernel_rfl) (by kernel_rfl) (by kernel_rfl) (by kernel_rfl) (e:=Extern.MapsClone.clone) (by kernel_rfl),run_maps_clone 103 hb];simp only [Result.andThen];rw [Oper.upon_value]
 go_wp2
 rw [run_typeAssert_map 103 _ _ _ _ Tryz.underlying103];simp only [Result.andThen];rw [Oper.upon_value]
 go_wp2
 go_returns;exact⟨rfl,rfl⟩
theorem regsNone_of {r m:Nat}{T:TypeId}{w:World}(hr:w.heap[r]? =some (.cells #[.map (some m)] T (0,0))):Calls Tryz.prog 47 #[.pointer (some ⟨r,0,none⟩)] w fun e w'=>e= .returned (.bool false)∧w'=w:=by
 have h0:w.cell? ⟨r,0,none⟩=some (.map (some m)):=by rw [Lib.cell_of_heap hr];rfl
 have hq:=fun w=>run_map_nil (w:=w) 103 _ _ (some m) Tryz.underlying103;clear hr;go_enter Tryz.func47,Tryz.ntmps47;go_wp2_with fail;go_returns;exact⟨rfl,rfl⟩
theorem regsClone_any {r:Nat}{w:World}(hr:Zdk w r):Calls Tryz.prog 39 #[.pointer (some ⟨r,0,none⟩)] w fun e w'=>∃h,e= .returned (.pointer (some ⟨h,0,none⟩))∧Zdk w' h∧w.heap.size≤h∧Below w.heap.size w w':=by
 obtain⟨m,clk,h1,h2⟩:=hr;have h0:w.cell? ⟨r,0,none⟩=some (.map (some m)):=by rw [Lib.cell_of_heap h1];rfl
 have HN:=Zh (regsNone_of h1);have HC:=Zh (mapsClone_any m #[] clk w h2);clear h1 h2;go_enter Tryz.func39,Tryz.ntmps39;go_wp2_with fail;refine HN.out.mono ?_;rintro e w1 ⟨rfl,rfl⟩;go_wp2_with fail;refine HC.out.mono ?_;rintro e w2 ⟨rfl,rfl⟩;go_wp2_with fail;go_returns;refine⟨_,rfl,⟨w1.heap.size,clk,?_,?_⟩,?_,((Below.refl _ _).alloc (Nat.le_refl _) _).alloc (by simp) _⟩
 ·show((w1.heap.push _).push _)[w1.heap.size+1]? =_
  rw [Array.getElem?_push,if_pos (by simp)]
 ·show((w1.heap.push _).push _)[w1.heap.size]? =_
  rw [Array.getElem?_push,if_neg (by simp),Array.getElem?_push,if_pos rfl]
 ·simp
def CoreB (w:World)(c t:Nat)(cur:Int)(last:List UInt8)(r:Nat)(dirty:Bool)(undo was held:Option Addr)(dn:Value):Prop:=
 w.heap[c]? =some (.cells (coreCells t cur noMarks last r dirty undo was held dn) 94 (0,0))
section
variable {w w':World}{c t:Nat}{cur:Int}{last:List UInt8}{r:Nat}{dirty:Bool}{undo was held:Option Addr}{dn:Value}
theorem CoreB.lt (h:CoreB w c t cur last r dirty undo was held dn):c < w.heap.size:=Zaa h
theorem CoreB.c0 (h:CoreB w c t cur last r dirty undo was held dn):w.cell? ⟨c,0,none⟩=some (.pointer (some ⟨t,0,none⟩)):=by rw [Lib.cell_of_heap h];rfl
theorem CoreB.c1 (h:CoreB w c t cur last r dirty undo was held dn):w.cell? ⟨c,1,none⟩=some (.int .i64 cur):=by rw [Lib.cell_of_heap h];rfl
theorem CoreB.c29 (h:CoreB w c t cur last r dirty undo was held dn):w.cell? ⟨c,29,none⟩=some (.pointer (some ⟨r,0,none⟩)):=by rw [Lib.cell_of_heap h];rfl
theorem CoreB.c32 (h:CoreB w c t cur last r dirty undo was held dn):w.cell? ⟨c,32,none⟩=some (.pointer was):=by rw [Lib.cell_of_heap h];rfl
theorem CoreB.c33 (h:CoreB w c t cur last r dirty undo was held dn):w.cell? ⟨c,33,none⟩=some (.pointer held):=by rw [Lib.cell_of_heap h];rfl
theorem CoreB.c34 (h:CoreB w c t cur last r dirty undo was held dn):w.cell? ⟨c,34,none⟩=some dn:=by rw [Lib.cell_of_heap h];rfl
theorem CoreB.fz (h:CoreB w c t cur last r dirty undo was held dn)(j:Nat):w.frozen? ⟨c,j,none⟩=false:=Lib.frozen_of_heap h j
theorem CoreB.later (h:CoreB w c t cur last r dirty undo was held dn)(hb:Below w.heap.size w w'):CoreB w' c t cur last r dirty undo was held dn:=(hb.block c h.lt).trans h
theorem CoreB.set32 (h:CoreB w c t cur last r dirty undo was held dn)(p:Option Addr):CoreB (w.setCell ⟨c,32,none⟩ (.pointer p)) c t cur last r dirty undo p held dn:=(Zay h _).trans rfl
theorem CoreB.set33 (h:CoreB w c t cur last r dirty undo was held dn)(p:Option Addr):CoreB (w.setCell ⟨c,33,none⟩ (.pointer p)) c t cur last r dirty undo was p dn:=(Zay h _).trans rfl
theorem CoreB.set34 (h:CoreB w c t cur last r dirty undo was held dn)(v:Value):CoreB (w.setCell ⟨c,34,none⟩ v) c t cur last r dirty undo was held v:=(Zay h _).trans rfl
def Zcz (t:Nat)(cur:Int):List Value:=[.pointer (some ⟨t,0,none⟩),.int .i64 cur]++noMarks.map fun m=>(Value.int .i64 m)
theorem coreCells_state (t:Nat)(cur:Int)(last:List UInt8)(r:Nat)(dirty:Bool)(undo was held:Option Addr)(dn:Value)(j:Nat)(v:Value)(h:(Zcz t cur)[j]? =some v):(coreCells t cur noMarks last r dirty undo was held dn)[j]? =some v:=by
 unfold coreCells;rw [List.getElem?_toArray,List.getElem?_append_left]
 ·exact h
 ·exact(List.getElem?_eq_some_iff.1 h).1
theorem CoreB.state (h:CoreB w c t cur last r dirty undo was held dn):w.rangeAt c 0 (Zcz t cur):=fun j v hj=>by
 rw [Nat.zero_add,Lib.cell_of_heap h];exact coreCells_state _ _ _ _ _ _ _ _ _ _ _ hj
end
open Go Go.Proofs Go.RowKit Go.Ink Go.Sort
theorem there_new (w:World)(c:Array Value)(T:TypeId)(n:Nat)(hs:c.size=n):(w.alloc (.cells c T)).there w.heap.size 0 n:=fun j hj=>by
 rw [Nat.zero_add,Lib.cell_of_heap (Zae w (.cells c T)),Array.getElem?_eq_getElem (by omega)];exact⟨rfl,Lib.frozen_of_heap (Zae w (.cells c T)) j⟩
theorem setCells_new (w:World)(c c':Array Value)(T:TypeId)(hi:(Tryz.prog.info? T).map (·.size)=some c'.size)(hs:c.size=c'.size)(h1:c'.all (·.oneCell')=true):
 (w.alloc (.cells c T)).setCells w.heap.size 0 c'.toList=w.alloc (.cells c' T):=by
 have a:=run_storeVar_new (P:=Tryz.prog) w T c c' hi hs h1;have b:=run_storeVar_mid (P:=Tryz.prog) (w.alloc (.cells c T)) w.heap.size 0 T c' (there_new w c T c'.size hs) hi h1;rw [b]at a
 injection a
theorem keepIn {S:Nat→Prop}{a w:World}{c:Nat}(hc:S c)(h:KeepT S a w)(j:Nat)(v:Value):KeepT S a (w.setCell ⟨c,j,none⟩ v):=h.setCell (p:=⟨c,j,none⟩) (.inl hc) v
def Only (c k:Nat):Prop:=k=c
theorem eqIn (c:Nat):Only c c:=rfl
theorem Zdk.kept {S:Nat→Prop}{w w':World}{r:Nat}(h:Zdk w r)(hk:KeepT S w w')(hS:∀k,S k→k < w.heap.size→∃cs T fr,w.heap[k]? =some (.cells cs T fr)∧T≠105):Zdk w' r:=by
 obtain⟨m,clk,h1,h2⟩:=h;refine⟨m,clk,(hk.block _ (Zaa h1) (fun hs=>?_)).trans h1,(hk.block _ (Zaa h2) (fun hs=>?_)).trans h2⟩
 ·obtain⟨cs,T,fr,h3,h4⟩:=hS _ hs (Zaa h1)
  rw [h1]at h3;simp only [Option.some.injEq,Obj.cells.injEq]at h3;exact h4 h3.2.1.symm
 ·obtain⟨cs,T,fr,h3,h4⟩:=hS _ hs (Zaa h2)
  rw [h2]at h3;cases h3
section
variable {w w':World}{c t:Nat}{cur:Int}{last:List UInt8}{r:Nat}{dirty:Bool}{undo was held:Option Addr}{dn:Value}
theorem coreNone_b (h:w.cell? ⟨c,0,none⟩=some (.pointer (some ⟨t,0,none⟩))):Calls Tryz.prog 38 #[.pointer (some ⟨c,0,none⟩)] w fun e w'=>e= .returned (.bool false)∧w'=w:=by
 go_enter Tryz.func38,Tryz.ntmps38;go_wp2_with fail;go_returns;exact⟨rfl,rfl⟩
theorem coreBegin_of (h:CoreB w c t cur last r dirty undo none none dn)(hr:Zdk w r):
 Calls Tryz.prog 10 #[.pointer (some ⟨c,0,none⟩)] w fun e w'=>e= .returned (.int .i64 0)∧∃s hh,CoreB w' c t cur last r dirty undo (some ⟨s,0,none⟩) (some ⟨hh,0,none⟩) (.slice none 0 0)∧
  w'.heap[s]? =some (.cells (Zcz t cur).toArray 91 (0,0))∧Zdk w' hh∧w.heap.size≤s∧w.heap.size≤hh∧KeepT (Only c) w w':=by
 have HB:=Zh h;have HR:=Zh hr;have h32:=h.c32;have HST:=Zh h.state;have HSZ:=Zh (show(Tryz.prog.info? 91).map (·.size)=some (Zcz t cur).length by kernel_rfl);have HLN:=Zh (show(Zcz t cur).length=28 from rfl);have HONE:=Zh (show(Zcz t cur).toArray.all (·.oneCell')=true by rw [List.all_toArray];rfl);have HSA:=Zh (show(Tryz.prog.info? 91).map (·.size)=some (Zcz t cur).toArray.size by kernel_rfl);generalize Zcz t cur=SC at *;have HN:=Zh (coreNone_b h.c0);clear h hr;go_enter Tryz.func10,Tryz.ntmps10;go_wp2_with fail;refine HN.out.mono ?_;rintro e w1 ⟨rfl,rfl⟩
 go_wp2_with (first
  | refine wpList_load_mid rfl 91 _ rfl c 0 rfl SC _ HST.out Tryz.underlying91 rfl HSZ.out ?_
  | (refine wpList_store_mid rfl 91 _ _ rfl w1.heap.size 0 SC.toArray rfl rfl (there_new w1 _ _ _ (by show _=SC.length;rw [HLN.out];rfl)) HSA.out HONE.out ?_
     rw [setCells_new w1 _ SC.toArray 91 HSA.out (by show _=SC.length;rw [HLN.out];rfl) HONE.out];have HA:=Zh (Zab w1 (.cells SC.toArray 91));have HW:=Zh (Zae w1 (.cells SC.toArray 91));generalize w1.alloc (.cells SC.toArray 91)=w2 at *;have HB2:=Zh (HB.out.later HA.out);have h29:=HB2.out.c29))
 refine(regsClone_any (HR.out.later HA.out)).mono ?_;rintro e w3 ⟨hh,rfl,hr3,hge,hb3⟩;have HB3:=Zh (HB2.out.later hb3);have HR3:=Zh hr3;have HK3:=Zh (HA.out.trans (hb3.mono HA.out.size));have HW3:=Zh ((hb3.block _ (Zaa HW.out)).trans HW.out);have HGE:=Zh (Nat.le_trans HA.out.size hge);clear hr3 hge hb3 h29;have s32:=HB3.out.set32 (some ⟨w1.heap.size,0,none⟩);have s33:=s32.set33 (some ⟨hh,0,none⟩);have s34:=s33.set34 (.slice none 0 0);have e32:=HB3.out.c32;have e33:=s32.c33;have e34:=s33.c34;have f32:=HB3.out.fz 32;have f33:=s32.fz 33;have f34:=s33.fz 34;have HS:=Zh s34;clear s32 s33 s34;go_wp2_with fail;go_returns;have hc:=HB.out.lt;have hk3:=HK3.out.size;refine⟨rfl,w1.heap.size,hh,HS.out,?_,?_,Nat.le_refl _,HGE.out,?_⟩
 ·rw [Below.heap_setCell _ _ _ _ (by show _≠c;omega),Below.heap_setCell _ _ _ _ (by show _≠c;omega),Below.heap_setCell _ _ _ _ (by show _≠c;omega)]
  exact HW3.out
 ·exact HR3.out.kept (S:=Only c) (keepIn (eqIn c) (keepIn (eqIn c) (keepIn (eqIn c) (KeepT.refl _ _) 32 _) 33 _) 34 _) (fun k hk _=>by unfold Only at hk;subst hk;exact⟨_,_,_,HB3.out,by decide⟩)
 ·exact keepIn (eqIn c) (keepIn (eqIn c) (keepIn (eqIn c) (KeepT.of_below HK3.out) 32 _) 33 _) 34 _
end
open Go Go.Proofs Go.RowKit Go.Ink
open Go Go.Proofs Go.RowKit Go.Ink
def SomeB (Q:Bool→Prop)(e:Ending):Prop:=∃b,e= .returned (.bool b)∧Q b
theorem SomeB.mk {Q:Bool→Prop}(b:Bool)(h:Q b):SomeB Q (.returned (.bool b)):=⟨b,rfl,h⟩
def fewQ (l:List (List UInt8))(m:Int)(b:Bool):Prop:=b=false→(l.length:Int)≤m∧∀x∈l,x.length≤20
def anyQ (_:Bool):Prop:=True
theorem beyondText_any (l:List (List UInt8))(ao:Option Addr)(cap:Nat)(m:Int)(w:World)(hs:SlOf IsStr w ao cap l):
 Calls Tryz.prog 13 #[.slice ao l.length cap,.int .i64 m] w fun e w'=>SomeB (fewQ l m) e∧w'=w:=by
 have HS:=Zh hs;have hc:l.length≤9223372036854775807:=Nat.le_trans hs.1 hs.2.1;clear hs
 by_cases hm:m < (l.length:Int)
 ·go_enter Tryz.func13,Tryz.ntmps13
  go_wp2_with fail;go_returns;exact⟨.mk true (fun h=>by cases h),rfl⟩
 ·have HM:=Zh (show(l.length:Int)≤m by omega)
  go_enter Tryz.func13,Tryz.ntmps13;go_wp2_with fail
  go_loop [5] (fun i=>∃k:Nat,i= .int .i64 (k:Int)∧k≤l.length∧Hid (∀j x,j < k→l[j]? =some x→x.length≤20)) (fun i=>l.length - (intOf i).toNat)
  case atStart=>exact⟨0,rfl,by omega,Zh (fun j x hj=>by omega)⟩
  case round=>
   obtain⟨k,rfl,hk,HK⟩:=hrel
   by_cases hlt:k < l.length
   ·have hlti:(k:Int) < (l.length:Int):=by omega
    obtain⟨c,hkc⟩:∃c,l[k]? =some c:=⟨_,Zg hlt⟩;obtain⟨g1,off1,u,hao1,hcell1,hu⟩:=HS.out.2.2.2 k c hkc;subst hao1;have h1:u= .string ⟨c.toArray⟩:=hu;subst h1;clear hu;have HKC:=Zh hkc;clear hkc
    by_cases h3:20 < c.length
    ·have h3i:(20:Int) < (c.length:Int):=by omega
     go_wp2_with fail;go_returns;exact⟨.mk true (fun h=>by cases h),rfl⟩
    ·have h3i:¬(20:Int) < (c.length:Int):=by omega
     have H3:=Zh h3;clear h3;go_wp2_with fail;go_round
     case rel=>exact⟨k+1,by go_num,by omega,Zh (fun j x hj hx=>by
      by_cases e:j=k
      ·subst e
       rw [HKC.out]at hx;cases hx;exact Nat.le_of_not_lt H3.out
      ·exact HK.out j x (by omega) hx)⟩
     case measure=>simp [intOf] <;> omega
   ·have hlti:¬(k:Int) < (l.length:Int):=by omega
    have hkl:k=l.length:=by omega
    have HR:=Zh (show(l.length:Int)≤m∧∀x∈l,x.length≤20 from⟨HM.out,fun x hx=>by
     obtain⟨j,hj⟩:=List.getElem?_of_mem hx;exact HK.out j x (by have:=(List.getElem?_eq_some_iff.1 hj).1;omega) hj⟩)
    go_wp2_with fail;go_returns;exact⟨.mk false (fun _=>HR.out),rfl⟩
open Go Go.Proofs Go.RowKit Go.Ink
theorem Zak {x:List UInt8}{j:Nat}{c:UInt8}(h:x[j]? =some c):∀h,(⟨x.toArray⟩:ByteArray)[j]'h=c:=fun _=>by
 obtain⟨_,rfl⟩:=List.getElem?_eq_some_iff.1 h
 rfl
def SomeN (Q:Nat→Prop)(e:Ending):Prop:=∃b:Nat,e= .returned (.int .i64 (b:Int))∧Q b
theorem SomeN.mk {Q:Nat→Prop}(b:Nat)(h:Q b):SomeN Q (.returned (.int .i64 (b:Int))):=⟨b,rfl,h⟩
def dgB (s:List UInt8)(a:Nat):Bool:=match s[a]? with
 | some c=>decide (48≤c.toNat) && decide (c.toNat≤57)
 | none=>false
theorem dgB_lt {s:List UInt8}{a:Nat}(h:dgB s a=true):a < s.length:=by
 unfold dgB at h;cases hc:s[a]? with
 | none=>rw [hc]at h;cases h
 | some c=>exact(List.getElem?_eq_some_iff.1 hc).1
theorem refIn (c:UInt8)(s:List UInt8)(w:World)(hs:s.length≤1000000):
 Calls Tryz.prog 51 #[.int .u8 (c.toNat:Int),.string ⟨s.toArray⟩] w fun e w'=>SomeB anyQ e∧w'=w:=by
 have hsz:=size_mk s;go_enter Tryz.func51,Tryz.ntmps51;go_wp2_with fail
 go_loop [5] (fun iv=>∃k:Nat,iv= .int .i64 (k:Int)∧k≤s.length) (fun iv=>s.length - (intOf iv).toNat)
 case atStart=>exact⟨0,rfl,by omega⟩
 case round=>
  obtain⟨k,rfl,hk⟩:=hrel
  by_cases hlt:k < s.length
  ·have hki:(k:Int) < (s.length:Int):=by omega
   obtain⟨d,hkd⟩:∃d,s[k]? =some d:=⟨_,Zg hlt⟩;have hby:=Zak hkd;clear hkd
   by_cases hdc:(d.toNat:Int)=(c.toNat:Int)
   ·have hdb:((d.toNat:Int)==(c.toNat:Int))=true:=Zt hdc
    clear hdc;go_wp2_with fail;go_returns;exact⟨.mk true trivial,rfl⟩
   ·have hdb:((d.toNat:Int)==(c.toNat:Int))=false:=Zf hdc
    go_wp2_with fail;go_round
    case rel=>exact⟨k+1,by go_num,by omega⟩
    case measure=>simp [intOf] <;> omega
  ·have hki:¬(k:Int) < (s.length:Int):=by omega
   go_wp2_with fail;go_returns;exact⟨.mk false trivial,rfl⟩
theorem refBlanks (s:List UInt8)(a:Nat)(w:World)(hs:s.length≤1000000)(ha:a≤1000000):
 Calls Tryz.prog 50 #[.string ⟨s.toArray⟩,.int .i64 (a:Int)] w fun e w'=>SomeN (fun b=>a≤b∧(b≤a∨b≤s.length)) e∧w'=w:=by
 have hsz:=size_mk s;go_enter Tryz.func50,Tryz.ntmps50;go_wp2_with fail
 go_loop [1] (fun iv=>∃k:Nat,iv= .int .i64 (k:Int)∧a≤k∧Hid (k≤a∨k≤s.length)∧k≤1000000) (fun iv=>1000000 - (intOf iv).toNat)
 case atStart=>exact⟨a,rfl,Nat.le_refl _,Zh (.inl (Nat.le_refl _)),ha⟩
 case round=>
  obtain⟨k,rfl,hak,HK,hk6⟩:=hrel
  by_cases hlt:k < s.length
  ·have hki:(k:Int) < (s.length:Int):=by omega
   obtain⟨d,hkd⟩:∃d,s[k]? =some d:=⟨_,Zg hlt⟩;have hby:=Zak hkd;clear hkd
   by_cases h32:(d.toNat:Int)=32
   ·have hdb:((d.toNat:Int)==32)=true:=Zt h32
    clear h32;go_wp2_with fail;go_round
    case rel=>exact⟨k+1,by go_num,by omega,Zh (.inr (by omega)),by omega⟩
    case measure=>simp [intOf] <;> omega
   ·have hdb:((d.toNat:Int)==32)=false:=Zf h32
    by_cases h9:(d.toNat:Int)=9
    ·have hdb9:((d.toNat:Int)==9)=true:=Zt h9
     clear h9 h32;go_wp2_with fail;go_round
     case rel=>exact⟨k+1,by go_num,by omega,Zh (.inr (by omega)),by omega⟩
     case measure=>simp [intOf] <;> omega
    ·have hdb9:((d.toNat:Int)==9)=false:=Zf h9
     go_wp2_with fail;go_returns;exact⟨.mk k ⟨hak,HK.out⟩,rfl⟩
  ·have hki:¬(k:Int) < (s.length:Int):=by omega
   go_wp2_with fail;go_returns;exact⟨.mk k ⟨hak,HK.out⟩,rfl⟩
theorem refDigit (s:List UInt8)(a:Nat)(w:World)(hs:s.length≤1000000):
 Calls Tryz.prog 87 #[.string ⟨s.toArray⟩,.int .i64 (a:Int)] w fun e w'=>e= .returned (.bool (dgB s a))∧w'=w:=by
 have hsz:=size_mk s
 by_cases hlt:a < s.length
 ·have hki:(a:Int) < (s.length:Int):=by omega
  obtain⟨d,hkd⟩:∃d,s[a]? =some d:=⟨_,Zg hlt⟩;have hby:=Zak hkd;have HR:=Zh (show dgB s a=(decide (48≤d.toNat) && decide (d.toNat≤57)) by unfold dgB;rw [hkd]);clear hkd
  by_cases h48:d.toNat < 48
  ·have h48i:¬(48:Int)≤(d.toNat:Int):=by omega
   have HV:=Zh (show dgB s a=false by rw [HR.out,decide_eq_false (by omega)];rfl);rw [HV.out];clear h48;go_enter Tryz.func87,Tryz.ntmps87;go_wp2_with fail;go_returns;exact⟨rfl,rfl⟩
  ·have h48i:(48:Int)≤(d.toNat:Int):=by omega
   by_cases h57:d.toNat≤57
   ·have h57i:(d.toNat:Int)≤57:=by omega
    have HV:=Zh (show dgB s a=true by rw [HR.out,decide_eq_true (by omega),decide_eq_true h57];rfl);rw [HV.out];clear h48 h57;go_enter Tryz.func87,Tryz.ntmps87;go_wp2_with fail;go_returns;exact⟨rfl,rfl⟩
   ·have h57i:¬(d.toNat:Int)≤57:=by omega
    have HV:=Zh (show dgB s a=false by rw [HR.out,decide_eq_false h57,Bool.and_false]);rw [HV.out];clear h48 h57;go_enter Tryz.func87,Tryz.ntmps87;go_wp2_with fail;go_returns;exact⟨rfl,rfl⟩
 ·have hki:¬(a:Int) < (s.length:Int):=by omega
  have HV:=Zh (show dgB s a=false by unfold dgB;rw [List.getElem?_eq_none (by omega)]);rw [HV.out];go_enter Tryz.func87,Tryz.ntmps87;go_wp2_with fail;go_returns;exact⟨rfl,rfl⟩
def NumE (s:List UInt8)(a:Nat)(e:Ending):Prop:=∃(z:Int) (nx:Nat) (ok:Bool),e= .returned (.tuple #[.int .i64 z,.int .i64 (nx:Int),.bool ok])∧(ok=true→a≤nx∧(nx≤a∨nx≤s.length)∧(dgB s a=true→a < nx))
theorem refNumber (s:List UInt8)(a:Nat)(w:World)(hs:s.length≤1000000)(ha:a≤1000000):
 Calls Tryz.prog 136 #[.string ⟨s.toArray⟩,.int .i64 (a:Int)] w fun e w'=>NumE s a e∧w'=w:=by
 have hsz:=size_mk s;have HD:=Zh (fun(j:Nat)=>refDigit s j w hs);go_enter Tryz.func136,Tryz.ntmps136;go_wp2_with fail
 go_loop [4,7] (fun nv kv=>∃(z:Int) (k:Nat),nv= .int .i64 z∧kv= .int .i64 (k:Int)∧k≤9∧Hid (∀j,j < k→dgB s (a+j)=true)) (fun _ kv=>10 - (intOf kv).toNat)
 case atStart=>exact⟨0,0,rfl,rfl,by omega,Zh (fun j hj=>by omega)⟩
 case round=>
  obtain⟨z,k,rfl,rfl,hk,HK⟩:=hrel;have hcv:((a+k:Nat):Int)=(a:Int)+(k:Int):=by omega
  have HDK:=Zh (HD.out (a+k));rw [hcv]at HDK;clear hcv;go_wp2_with fail;refine HDK.out.mono ?_;rintro e w1 ⟨rfl,rfl⟩;cases hdg:dgB s (a+k)
  case false=>
   have HN:=Zh (show a≤a+k∧(a+k≤a∨a+k≤s.length)∧(dgB s a=true→a < a+k) from by
    refine⟨by omega,?_,fun h=>?_⟩
    ·cases k with
     | zero=>exact .inl (by omega)
     | succ j=>
       have:=dgB_lt (HK.out j (by omega));exact .inr (by omega)
    ·cases k with
     | zero=>rw [Nat.add_zero]at hdg;rw [hdg]at h;cases h
     | succ j=>omega)
   clear hdg;go_wp2_with fail;go_returns;exact⟨⟨z,a+k,true,by simp,fun _=>HN.out⟩,rfl⟩
  case true=>
   have hlt:=dgB_lt hdg;obtain⟨d,hkd⟩:∃d,s[a+k]? =some d:=⟨_,Zg hlt⟩;have hby:=Zak hkd;have hli:(a:Int)+(k:Int) < (s.length:Int):=by omega
   have hl0:(0:Int)≤(a:Int)+(k:Int):=by omega
   have htn:((a:Int)+(k:Int)).toNat=a+k:=by omega
   have HG:=Zh hdg;clear hkd hdg
   by_cases h9:k=9
   ·subst h9
    go_wp2_with fail;go_returns;exact⟨⟨0,0,false,rfl,fun h=>by cases h⟩,rfl⟩
   ·have h9i:¬(9:Int) < (k:Int)+1:=by omega
    go_wp2_with fail;go_round
    case rel=>exact⟨_,k+1,rfl,by go_num,by omega,Zh (fun j hj=>by
     by_cases e:j=k
     ·subst e;exact HG.out
     ·exact HK.out j (by omega))⟩
    case measure=>simp [intOf] <;> omega
open Go Go.Proofs Go.RowKit Go.Ink
theorem extr_one {s:List UInt8}{i:Nat}{c:UInt8}(h:s[i]? =some c):(⟨s.toArray⟩:ByteArray).extract i (i+1)=⟨[c].toArray⟩:=by
 obtain⟨hl,rfl⟩:=List.getElem?_eq_some_iff.1 h
 apply ByteArray.ext
 simp [ByteArray.extract,ByteArray.copySlice,List.extract_eq_take_drop];rw [List.drop_eq_getElem_cons hl]
 rfl
theorem Zew (i n:Nat)(h:i < n):(0:Int)≤(i:Int)+1∧(i:Int)≤(i:Int)+1∧(i:Int)+1≤(n:Int)∧((i:Int)+1).toNat=i+1:=by
 refine⟨by omega,by omega,by omega,by omega⟩
theorem idx_two (i n:Nat)(h:i+1 < n):(0:Int)≤(i:Int)+2∧(i:Int)+1≤(i:Int)+2∧(i:Int)+2≤(n:Int)∧((i:Int)+2).toNat=i+2∧(i:Int)+1 < (n:Int):=by
 refine⟨by omega,by omega,by omega,by omega,by omega⟩
theorem mk_appendP (a b:List UInt8):(⟨a.toArray⟩:ByteArray)++⟨b.toArray⟩=⟨(a++b).toArray⟩:=by
 apply ByteArray.ext
 simp
def DelE (s:List UInt8)(a:Nat)(e:Ending):Prop:=∃(o:List UInt8) (n:Nat) (b:Bool),e= .returned (.tuple #[.string ⟨o.toArray⟩,.int .i64 (n:Int),.bool b])∧o.length≤s.length∧a≤n∧(n≤a∨n≤s.length)
theorem max_if (a b:Nat):(max (a:Int) (b:Int))=((max a b:Nat):Int):=by omega
theorem refDelimited (s:List UInt8)(a:Nat)(by_:UInt8)(w:World)(hs:s.length≤1000000)(ha:a≤1000000):
 Calls Tryz.prog 138 #[.string ⟨s.toArray⟩,.int .i64 (a:Int),.int .u8 (by_.toNat:Int)] w fun e w'=>DelE s a e∧w'=w:=by
 have hsz:=size_mk s;go_enter Tryz.func138,Tryz.ntmps138;go_wp2_with fail
 go_loop [9,10] (fun ov iv=>∃(o:List UInt8) (i:Nat),ov= .string ⟨o.toArray⟩∧iv= .int .i64 (i:Int)∧a≤i∧o.length≤i - a∧o.length≤s.length∧i≤1000000∧Hid (i≤a∨i≤s.length)) (fun _ iv=>1000000 - (intOf iv).toNat)
 case atStart=>exact⟨[],a,rfl,rfl,Nat.le_refl _,by simp,by simp,ha,Zh (.inl (Nat.le_refl _))⟩
 case round=>
  obtain⟨o,i,rfl,rfl,hai,hol,hos,hi6,HI⟩:=hrel;have hso:=size_mk o
  by_cases hlt:i < s.length
  ·have hki:(i:Int) < (s.length:Int):=by omega
   obtain⟨c,hkc⟩:∃c,s[i]? =some c:=⟨_,Zg hlt⟩;have hby:=Zak hkc;have he1:=extr_one hkc;obtain⟨hz0,hz1,hz2,hz3⟩:=Zew i s.length hlt;have HF1:=Zh (show a≤i+1∧(i+1≤a∨i+1≤s.length) from⟨by omega,.inr (by omega)⟩);clear hkc
   by_cases hcb:(c.toNat:Int)=(by_.toNat:Int)
   ·have hdb:((c.toNat:Int)==(by_.toNat:Int))=true:=Zt hcb
    clear hcb;go_wp2_with fail;go_returns;exact⟨⟨o,i+1,true,by simp,hos,HF1.out.1,HF1.out.2⟩,rfl⟩
   ·have hdb:((c.toNat:Int)==(by_.toNat:Int))=false:=Zf hcb
    have hap:(⟨o.toArray⟩:ByteArray)++⟨[c].toArray⟩=⟨(o++[c]).toArray⟩:=mk_appendP _ _;have hov:¬9223372036854775807 < o.length+1:=by omega
    by_cases h92:(c.toNat:Int)=92
    ·have h92b:((c.toNat:Int)==92)=true:=Zt h92
     clear h92
     by_cases hl2:i+1 < s.length
     ·obtain⟨d,hkd⟩:∃d,s[i+1]? =some d:=⟨_,Zg hl2⟩
      have hby2:=Zak hkd;have he2:=extr_one hkd;obtain⟨hy0,hy1,hy2,hy3,hy4⟩:=idx_two i s.length hl2;clear hkd
      by_cases hdc:(d.toNat:Int)=(by_.toNat:Int)
      ·have hdcb:((d.toNat:Int)==(by_.toNat:Int))=true:=Zt hdc
       have hap2:(⟨o.toArray⟩:ByteArray)++⟨[d].toArray⟩=⟨(o++[d]).toArray⟩:=mk_appendP _ _;clear hdc;go_wp2_with fail;go_round
       case rel=>exact⟨o++[d],i+2,rfl,by go_num,by omega,by simp;omega,by simp;omega,by omega,Zh (.inr (by omega))⟩
       case measure=>simp [intOf] <;> omega
      ·have hdcb:((d.toNat:Int)==(by_.toNat:Int))=false:=Zf hdc
       have hap2:(⟨(o++[c]).toArray⟩:ByteArray)++⟨[d].toArray⟩=⟨(o++[c]++[d]).toArray⟩:=mk_appendP _ _;have hov2:¬9223372036854775807 < o.length+1+1:=by omega
       go_wp2_with fail;go_round
       case rel=>exact⟨o++[c]++[d],i+2,by simp,by go_num,by omega,by simp;omega,by simp;omega,by omega,Zh (.inr (by omega))⟩
       case measure=>simp [intOf] <;> omega
     ·have hl2i:¬(i:Int)+1 < (s.length:Int):=by omega
      go_wp2_with fail;go_round
      case rel=>exact⟨o++[c],i+1,rfl,by go_num,by omega,by simp;omega,by simp;omega,by omega,Zh (.inr (by omega))⟩
      case measure=>simp [intOf] <;> omega
    ·have h92b:((c.toNat:Int)==92)=false:=Zf h92
     go_wp2_with fail;go_round
     case rel=>exact⟨o++[c],i+1,rfl,by go_num,by omega,by simp;omega,by simp;omega,by omega,Zh (.inr (by omega))⟩
     case measure=>simp [intOf] <;> omega
  ·have hki:¬(i:Int) < (s.length:Int):=by omega
   go_wp2_with fail;rw [max_if];go_returns;exact⟨⟨o,max a s.length,false,rfl,hos,by omega,by omega⟩,rfl⟩
end Go.Proofs.YtndjgbehbgcpkaaGreatDoor
