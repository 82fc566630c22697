/- The reference's reader of command lines: replacements; a file's name. -/
import Derived.Test.YtndjgbehbgcpkaaGreatDoorPr5
import Derived.Laws.Tables
import Derived.Laws.Rows
import Derived.Test.YtndjgbehbgcpkaaGreatDoorCo2
import Derived.Deep.Cut
set_option linter.unusedVariables false
set_option linter.unusedSimpArgs false
set_option maxRecDepth 100000
set_option maxHeartbeats 4000000
namespace Go.Proofs.YtndjgbehbgcpkaaGreatDoor
open Go Go.Proofs Go.RowKit Go.Ink Go.Sort
def SomeI (e:Ending):Prop:=∃z:Int,e= .returned (.int .i64 z)
theorem SomeI.mk (z:Int):SomeI (.returned (.int .i64 z)):=⟨z,rfl⟩
theorem refCheck (s:List UInt8)(w:World)(hs:s.length≤1000000):
 Calls Tryz.prog 139 #[.string ⟨s.toArray⟩] w fun e w'=>SomeI e∧w'=w:=by
 have hsz:=size_mk s;go_enter Tryz.func139,Tryz.ntmps139;go_wp2_with fail
 go_loop [3] (fun iv=>∃k:Nat,iv= .int .i64 (k:Int)∧k≤s.length) (fun iv=>s.length - (intOf iv).toNat)
 case atStart=>exact⟨0,rfl,by omega⟩
 case round=>
  obtain⟨k,rfl,hk⟩:=hrel
  by_cases hlt:k < s.length
  case neg=>
   have hki:¬(k:Int) < (s.length:Int):=by omega
   go_wp2_with fail;go_returns;exact⟨.mk 0,rfl⟩
  have hki:(k:Int) < (s.length:Int):=by omega
  obtain⟨d,hkd⟩:∃d,s[k]? =some d:=⟨_,Zg hlt⟩;have hby:=Zak hkd;clear hkd
  by_cases h92:(d.toNat:Int)=92
  case neg=>
   have h92b:((d.toNat:Int)==92)=false:=Zf h92;go_wp2_with fail;go_round
   case rel=>exact⟨k+1,by go_num,by omega⟩
   case measure=>simp [intOf] <;> omega
  have h92b:((d.toNat:Int)==92)=true:=Zt h92;clear h92
  by_cases he:k+1=s.length
  case pos=>
   have hei:(k:Int)+1=(s.length:Int):=by omega
   have heb:((k:Int)+1==(s.length:Int))=true:=Zt hei;clear hei;go_wp2_with fail;go_returns;exact⟨.mk 110,rfl⟩
  have hei:¬(k:Int)+1=(s.length:Int):=by omega
  have heb:((k:Int)+1==(s.length:Int))=false:=Zf hei;go_wp2_with fail;go_round
  case rel=>exact⟨k+2,by go_num,by omega⟩
  case measure=>simp [intOf] <;> omega
theorem refMost (s:List UInt8)(w:World)(hs:s.length≤1000000):
 Calls Tryz.prog 140 #[.string ⟨s.toArray⟩] w fun e w'=>SomeI e∧w'=w:=by
 have hsz:=size_mk s;go_enter Tryz.func140,Tryz.ntmps140;go_wp2_with fail
 go_loop [3,4] (fun nv iv=>∃(z:Int) (k:Nat),nv= .int .i64 z∧iv= .int .i64 (k:Int)∧k≤s.length) (fun _ iv=>s.length - (intOf iv).toNat)
 case atStart=>exact⟨0,0,rfl,rfl,by omega⟩
 case round=>
  obtain⟨z,k,rfl,rfl,hk⟩:=hrel
  by_cases hl2:k+1 < s.length
  case neg=>
   have hl2i:¬(k:Int)+1 < (s.length:Int):=by omega
   go_wp2_with fail;go_returns;exact⟨.mk z,rfl⟩
  have hlt:k < s.length:=by omega
  have hki:(k:Int) < (s.length:Int):=by omega
  obtain⟨d,hkd⟩:∃d,s[k]? =some d:=⟨_,Zg hlt⟩;have hby:=Zak hkd;obtain⟨f,hkf⟩:∃f,s[k+1]? =some f:=⟨_,Zg hl2⟩;have hby2:=Zak hkf;obtain⟨hz0,hz1,hz2,hz3⟩:=Zew k s.length hlt;obtain⟨hy0,hy1,hy2,hy3,hy4⟩:=idx_two k s.length hl2;clear hkd hkf
  by_cases h92:(d.toNat:Int)=92
  case neg=>
   have h92b:((d.toNat:Int)==92)=false:=Zf h92;go_wp2_with fail;go_round
   case rel=>exact⟨z,k+1,rfl,by go_num,by omega⟩
   case measure=>simp [intOf] <;> omega
  have h92b:((d.toNat:Int)==92)=true:=Zt h92;clear h92
  by_cases h49:(49:Int)≤(f.toNat:Int)
  case neg=>
   go_wp2_with fail;go_round
   case rel=>exact⟨z,k+2,rfl,by go_num,by omega⟩
   case measure=>simp [intOf] <;> omega
  by_cases h57:(f.toNat:Int)≤57
  case neg=>
   go_wp2_with fail;go_round
   case rel=>exact⟨z,k+2,rfl,by go_num,by omega⟩
   case measure=>simp [intOf] <;> omega
  go_wp2_with fail;go_round
  case rel=>exact⟨_,k+2,rfl,by go_num,by omega⟩
  case measure=>simp [intOf] <;> omega
def AskE (s:List UInt8)(e:Ending):Prop:=∃(t:List UInt8) (er:Int),e= .returned (.tuple #[.string ⟨t.toArray⟩,.int .i64 er])∧t.length≤s.length
theorem AskE.no {s:List UInt8}(er:Int):AskE s (.returned (.tuple #[.string ⟨#[]⟩,.int .i64 er])):=⟨[],er,rfl,by simp⟩
theorem refAsks (s:List UInt8)(w:World)(hs:s.length≤1000000):
 Calls Tryz.prog 88 #[.string ⟨s.toArray⟩] w fun e w'=>AskE s e∧w'=w:=by
 have hsz:=size_mk s;have HBL:=Zh (refBlanks s 0 w hs (by omega));have HIN:=Zh (fun(t:List UInt8) (ht:t.length≤s.length)=>(show Calls Tryz.prog 51 #[.int .u8 32,.string ⟨t.toArray⟩] w fun e w'=>SomeB anyQ e∧w'=w from refIn 32 t w (by omega)));have HI9:=Zh (fun(t:List UInt8) (ht:t.length≤s.length)=>(show Calls Tryz.prog 51 #[.int .u8 9,.string ⟨t.toArray⟩] w fun e w'=>SomeB anyQ e∧w'=w from refIn 9 t w (by omega)))
 by_cases h0:s=[]
 case pos=>
  subst h0;go_enter Tryz.func88,Tryz.ntmps88;go_wp2_with fail;go_returns;exact⟨.no 0,rfl⟩
 have h0b:(s==[])=false:=Zf h0;have HS0:=Zh h0;clear h0;go_enter Tryz.func88,Tryz.ntmps88;go_wp2_with fail;refine HBL.out.mono ?_;rintro e w1 ⟨⟨m,rfl,-,hm⟩,rfl⟩;have hml:m≤s.length:=by omega
 have hmi:(m:Int)≤(s.length:Int):=by omega
 have he1:=Zcg s m;obtain⟨t,ht⟩:∃t,s.drop m=t:=⟨_,rfl⟩;have HTL:=Zh (show t.length≤s.length by rw [← ht,List.length_drop];omega);rw [ht]at he1;clear ht hm HBL;have hst:=size_mk t
 by_cases hts:t=s
 case pos=>
  have htb:(t==s)=true:=Zt hts;clear hts;go_wp2_with fail;go_returns;exact⟨.no 211,rfl⟩
 have htb:(t==s)=false:=Zf hts;have HT32:=Zh (HIN.out t HTL.out);have HT9:=Zh (HI9.out t HTL.out);clear hts;go_wp2_with fail;refine HT32.out.mono ?_;rintro e w2 ⟨⟨b,rfl,-⟩,rfl⟩;cases b
 case true=>
  go_wp2_with fail;go_returns;exact⟨.no 210,rfl⟩
 go_wp2_with fail;refine HT9.out.mono ?_;rintro e w3 ⟨⟨b,rfl,-⟩,rfl⟩;cases b
 case true=>
  go_wp2_with fail;go_returns;exact⟨.no 210,rfl⟩
 by_cases htl:0 < t.length
 case neg=>
  have htn:t=[]:=List.eq_nil_of_length_eq_zero (by omega);subst htn;go_wp2_with fail;go_returns;exact⟨⟨[],0,rfl,by simp⟩,rfl⟩
 obtain⟨d,hkd⟩:∃d,t[0]? =some d:=⟨_,Zg htl⟩;have hby:=Zak hkd;obtain⟨LT,hLT⟩:∃LT,t.length=LT:=⟨_,rfl⟩;have hli:(0:Int) < (LT:Int):=by omega
 have HTE:=Zh (show t.length≤s.length from HTL.out);rw [hLT]at hst;clear hkd htl hLT
 by_cases h33:(d.toNat:Int)=33
 case pos=>
  have h33b:((d.toNat:Int)==33)=true:=Zt h33;clear h33;go_wp2_with fail;go_returns;exact⟨.no 210,rfl⟩
 have h33b:((d.toNat:Int)==33)=false:=Zf h33;go_wp2_with fail;go_returns;exact⟨⟨t,0,rfl,HTE.out⟩,rfl⟩
open Go Go.Proofs Go.RowKit Go.Ink Go.Sort
structure Cm where
 lv:Value
 sv:Value
 nm:Int
 dk:Int
 dz:Int
 dre:List UInt8
 da:Int
 lt:Int
 re:List UInt8
 rp:List UInt8
 al:Bool
 nth:Int
 sub:List UInt8
 n2:List UInt8
 pr:Int
def cmC (c:Cm):Array Value:=#[c.lv,c.sv,.int .u8 c.nm,.int .i64 c.dk,.int .i64 c.dz,.string ⟨c.dre.toArray⟩,.int .i64 c.da,.int .u8 c.lt,.string ⟨c.re.toArray⟩,.string ⟨c.rp.toArray⟩,.bool c.al,.int .i64 c.nth,.string ⟨c.sub.toArray⟩,.string ⟨c.n2.toArray⟩,.int .u8 c.pr]
structure CmOk (c:Cm):Prop where
 lv:c.lv.oneCell'=true
 sv:c.sv.oneCell'=true
 dre:c.dre.length≤1000000
 re:c.re.length≤1000000
 sub:c.sub.length≤100000
def CmAt (w:World)(g:Nat)(c:Cm):Prop:=w.heap[g]? =some (.cells (cmC c) 35 (0,0))
def CmdE (c:Cm)(e:Ending):Prop:=∃(c':Cm) (er:Int),e= .returned (.tuple #[.agg (cmC c'),.int .i64 er])∧c'.lv=c.lv∧c'.sv=c.sv∧CmOk c'
theorem Zbk {c:Cm}(h:CmOk c):(cmC c).all (·.oneCell')=true:=by
 have h1:=h.lv;have h2:=h.sv;unfold cmC;simp only [List.all_toArray,List.all_cons,List.all_nil,h1,h2,Bool.true_and,Bool.and_true]
 rfl
def cm0:Array Value:=#[.slice none 0 0,.slice none 0 0,.int .u8 0,.int .i64 0,.int .i64 0,.string ⟨#[]⟩,.int .i64 0,.int .u8 0,.string ⟨#[]⟩,.string ⟨#[]⟩,.bool false,.int .i64 0,.string ⟨#[]⟩,.string ⟨#[]⟩,.int .u8 0]
theorem Zaf:(Tryz.prog.info? 35).map (·.size)=some 15:=by kernel_rfl
section
variable {w w':World}{g:Nat}{x:Cm}
theorem CmAt.cel (h:CmAt w g x)(j:Nat){u:Value}(hj:(cmC x)[j]? =some u):w.cell? ⟨g,j,none⟩=some u:=by
 rw [Lib.cell_of_heap h];exact hj
theorem CmAt.fz (h:CmAt w g x)(j:Nat):w.frozen? ⟨g,j,none⟩=false:=Lib.frozen_of_heap h j
theorem CmAt.later (h:CmAt w g x)(hb:Below w.heap.size w w'):CmAt w' g x:=(hb.block g (Zaa h)).trans h
theorem CmAt.setN (h:CmAt w g x)(j:Nat)(v:Value)(c':Cm)(hc:(cmC x).setIfInBounds j v=cmC c'):CmAt (w.setCell ⟨g,j,none⟩ v) g c':=by
 have:=Zay (j:=j) h v;rw [hc]at this;exact this
end
theorem Zag {P:Program}{fn:Func}{p q:Tmp}{ty:TypeId}(h:fn.results=#[.cell p ty,.tmp q])(tmps:Array Value)(w:World)(g:Nat)(t:TypeId)(cs:Array Value)(fr:Nat×Nat)(d:TypeDesc)(v:Value)
 (hp:tmps.getD p undef= .pointer (some ⟨g,0,none⟩)) (hq:tmps.getD q undef=v) (hg:w.heap[g]? =some (.cells cs t fr))
 (hu:P.underlying ty=some d) (hd:(match d with | .struct _ | .array _ _=>true | _=>false)=true) (hi:(P.info? ty).map (·.size)=some cs.size):
 (results fn tmps).run P w= .ok (.tuple #[.agg cs,v]) w:=by
 have hp':tmps[p]?.getD undef= .pointer (some ⟨g,0,none⟩):=by simpa using hp
 have hq':tmps[q]?.getD undef=v:=by simpa using hq
 simp [results,h,hp',hq',asAddr,run_loadVar_row w g t ty cs fr d hg hu hd hi]
theorem Zah {B:Nat}{a w:World}(h:Below B a w){g:Nat}(hg:B≤g)(cs:Array Value):Below B a (w.setRow g cs):=
 h.trans ⟨rfl,rfl,rfl,by simp,fun k hk=>setRow_other w g k cs (by omega)⟩
theorem refSuffix (c:Cm)(hc:CmOk c)(s:List UInt8)(w:World)(hs:s.length≤1000000):
 Calls Tryz.prog 83 #[.agg (cmC c),.string ⟨s.toArray⟩] w fun e w'=>CmdE c e∧Below w.heap.size w w':=by
 have hsz:=size_mk s;have HIN:=Zh (fun(X:World) (d:UInt8)=>(show Calls Tryz.prog 51 #[.int .u8 (d.toNat:Int),.string ⟨#[112,108,110]⟩] X fun e w'=>SomeB anyQ e∧w'=X from refIn d [112,108,110] X (by decide)));go_enter Tryz.func83,Tryz.ntmps83;go_upto_region 1 with fail;generalize hwA:(w.alloc _).alloc _=wA;obtain⟨old,HZ,HOS⟩:∃old:Array Value,Hid (wA.heap[w.heap.size+1]? =some (.cells old 35 (0,0)))∧Hid (old.size=(cmC c).size):=⟨cm0,Zh (hwA▸heap_alloc2_new _ _ _),Zh rfl⟩;have HCA:=Zh (show CmAt wA w.heap.size c from hwA▸heap_alloc2_old _ _ _);have HBA:=Zh (show Below w.heap.size w wA from hwA▸(Zab w _).trans ((Zab _ _).mono (Zab w _).size));have HON:=Zh (Zbk hc);clear hwA
 by_cases h0:s=[]
 case pos=>
  subst h0
  go_wp2_with (first
   | (refine wpList_load_row rfl 35 _ (by with_reducible rfl) w.heap.size rfl 35 (cmC c) (0,0) _ HCA.out Tryz.underlying35 rfl Zaf ?_)
   | (refine wpList_store_row rfl 35 _ _ (by with_reducible rfl) (w.heap.size+1) (cmC c) rfl rfl 35 old HZ.out Zaf HOS.out HON.out ?_))
  refine bodyPost_ret (v:= .tuple #[.agg (cmC c),.int .i64 0]) (Zag (p:=4) (q:=5) (by kernel_rfl) _ _ (w.heap.size+1) 35 (cmC c) (0,0) _ _ rfl rfl (setRow_heap _ _ _ _ _ _ HZ.out) Tryz.underlying35 rfl Zaf) rfl ?_;exact⟨⟨_,0,rfl,rfl,rfl,hc⟩,Zah HBA.out (Nat.le_succ _) _⟩
 have h0b:(s==[])=false:=Zf h0
 by_cases hl1:s.length=1
 case neg=>
  have hl1i:¬(s.length:Int)=1:=by omega
  have hl1b:((s.length:Int)==1)=false:=Zf hl1i;have HS0:=Zh h0;clear h0 hl1
  go_wp2_with (first
   | (refine wpList_load_row rfl 35 _ (by with_reducible rfl) w.heap.size rfl 35 (cmC c) (0,0) _ HCA.out Tryz.underlying35 rfl Zaf ?_)
   | (refine wpList_store_row rfl 35 _ _ (by with_reducible rfl) (w.heap.size+1) (cmC c) rfl rfl 35 old HZ.out Zaf HOS.out HON.out ?_))
  refine bodyPost_ret (v:= .tuple #[.agg (cmC c),.int .i64 211]) (Zag (p:=4) (q:=5) (by kernel_rfl) _ _ (w.heap.size+1) 35 (cmC c) (0,0) _ _ rfl rfl (setRow_heap _ _ _ _ _ _ HZ.out) Tryz.underlying35 rfl Zaf) rfl ?_;exact⟨⟨_,211,rfl,rfl,rfl,hc⟩,Zah HBA.out (Nat.le_succ _) _⟩
 obtain⟨d,hkd⟩:∃d,s[0]? =some d:=⟨_,Zg (by omega)⟩;have hsd:s=[d]:=by
  match s,hl1,hkd with
  | [y],_,hkd=>simp at hkd;rw [hkd]
 subst hsd;have HDD:=Zh (HIN.out wA d);clear hkd hl1 h0 h0b;have hby:∀h,(⟨#[d]⟩:ByteArray)[0]'h=d:=fun _=>rfl;go_wp2_with fail;refine HDD.out.mono ?_;rintro e w2 ⟨⟨b,rfl,-⟩,rfl⟩;cases b
 case false=>
  go_wp2_with (first
   | (refine wpList_load_row rfl 35 _ (by with_reducible rfl) w.heap.size rfl 35 (cmC c) (0,0) _ HCA.out Tryz.underlying35 rfl Zaf ?_)
   | (refine wpList_store_row rfl 35 _ _ (by with_reducible rfl) (w.heap.size+1) (cmC c) rfl rfl 35 old HZ.out Zaf HOS.out HON.out ?_))
  refine bodyPost_ret (v:= .tuple #[.agg (cmC c),.int .i64 211]) (Zag (p:=4) (q:=5) (by kernel_rfl) _ _ (w.heap.size+1) 35 (cmC c) (0,0) _ _ rfl rfl (setRow_heap _ _ _ _ _ _ HZ.out) Tryz.underlying35 rfl Zaf) rfl ?_;exact⟨⟨_,211,rfl,rfl,rfl,hc⟩,Zah HBA.out (Nat.le_succ _) _⟩
 have u14:w2.cell? ⟨w.heap.size,14,none⟩=some (.int .u8 c.pr):=HCA.out.cel 14 rfl;have g14:=HCA.out.fz 14;have HC2:=Zh (HCA.out.setN 14 (.int .u8 (d.toNat:Int)) { c with pr:=(d.toNat:Int) } rfl);have HZ2:=Zh (show(w2.setCell ⟨w.heap.size,14,none⟩ (.int .u8 (d.toNat:Int))).heap[w.heap.size+1]? =some (.cells old 35 (0,0)) from(Below.heap_setCell _ _ _ _ (show w.heap.size+1≠w.heap.size by omega)).trans HZ.out);have HB2:=Zh (HBA.out.setCell (p:=⟨w.heap.size,14,none⟩) (Nat.le_refl _) (.int .u8 (d.toNat:Int)));have HO2:=Zh (show CmOk { c with pr:=(d.toNat:Int) } from⟨hc.lv,hc.sv,hc.dre,hc.re,hc.sub⟩);have HN2:=Zh (Zbk HO2.out);have HS2:=Zh (show old.size=(cmC { c with pr:=(d.toNat:Int) }).size from HOS.out)
 go_wp2_with (first
  | (refine wpList_load_row rfl 35 _ (by with_reducible rfl) w.heap.size rfl 35 (cmC { c with pr:=(d.toNat:Int) }) (0,0) _ HC2.out Tryz.underlying35 rfl Zaf ?_)
  | (refine wpList_store_row rfl 35 _ _ (by with_reducible rfl) (w.heap.size+1) (cmC { c with pr:=(d.toNat:Int) }) rfl rfl 35 old HZ2.out Zaf HS2.out HN2.out ?_))
 refine bodyPost_ret (v:= .tuple #[.agg (cmC { c with pr:=(d.toNat:Int) }),.int .i64 0]) (Zag (p:=4) (q:=5) (by kernel_rfl) _ _ (w.heap.size+1) 35 (cmC { c with pr:=(d.toNat:Int) }) (0,0) _ _ rfl rfl (setRow_heap _ _ _ _ _ _ HZ2.out) Tryz.underlying35 rfl Zaf) rfl ?_;exact⟨⟨_,0,rfl,rfl,rfl,HO2.out⟩,Zah HB2.out (Nat.le_succ _) _⟩
open Go Go.Proofs Go.RowKit Go.Ink Go.Sort
theorem coreNone_nil (w:World):Calls Tryz.prog 38 #[.pointer none] w fun e w'=>e= .returned (.bool true)∧w'=w:=by
 go_enter Tryz.func38,Tryz.ntmps38;go_wp2_with fail;go_returns;exact⟨rfl,rfl⟩
theorem coreRegs_nil (w:World):Calls Tryz.prog 20 #[.pointer none] w fun e w'=>e= .returned (.pointer none)∧w'=w:=by
 have HN:=Zh (coreNone_nil w);go_enter Tryz.func20,Tryz.ntmps20;go_wp2_with fail;refine HN.out.mono ?_;rintro e w1 ⟨rfl,rfl⟩;go_wp2_with fail;go_returns;exact⟨rfl,rfl⟩
theorem runsRun_nil (c:Cm)(t:Value)(w:World):Calls Tryz.prog 8 #[.pointer none,.agg (cmC c),t] w fun e w'=>e= .returned (.tuple #[.string ⟨#[]⟩,.slice none 0 0,.int .i64 1])∧Below w.heap.size w w':=by
 go_enter Tryz.func8,Tryz.ntmps8;go_wp2_with fail;generalize hwA:w.alloc _=wA;have HA:=Zh (show Below w.heap.size w wA from hwA▸Zab w _);clear hwA;refine(coreRegs_nil wA).mono ?_;rintro e w1 ⟨rfl,rfl⟩;go_wp2_with fail;go_returns;exact⟨rfl,HA.out⟩
def mineL:List UInt8:=[97,99,100,103,105,106,107,108,109,110,112,115,116,117,118,122,61,62,60,89,80]
def mineB (nm:Int):Bool:=(nm==0) || decide (0≤Lib.indexByte mineL nm.toNat.toUInt8)
theorem mineAny (c:Cm)(w:World):Calls Tryz.prog 11 #[.agg (cmC c)] w fun e w'=>e= .returned (.bool (mineB c.nm))∧Below w.heap.size w w':=by
 obtain⟨z,hz⟩:∃z,Lib.indexByte mineL c.nm.toNat.toUInt8=z:=⟨_,rfl⟩;have HIX:=Zh (fun(X:World)=>(show Calls Tryz.prog 40 #[.string ⟨#[97,99,100,103,105,106,107,108,109,110,112,115,116,117,118,122,61,62,60,89,80]⟩,.int .u8 c.nm] X fun e w'=>e= .returned (.int .i64 z)∧w'=X from by
  rw [← hz];exact Tryz.strings_IndexByte ⟨#[97,99,100,103,105,106,107,108,109,110,112,115,116,117,118,122,61,62,60,89,80]⟩ c.nm X))
 have HMB:=Zh (show mineB c.nm=((c.nm==0) || decide (0≤z)) by rw [← hz];rfl);clear hz;obtain⟨bz,hbz⟩:∃bz,decide (0≤z)=bz:=⟨_,rfl⟩;rw [hbz]at HMB;go_enter Tryz.func11,Tryz.ntmps11;go_upto_region 1 with fail;generalize hwA:w.alloc _=wA;have HX:=Zh (show CmAt wA w.heap.size c from hwA▸Zae w _);have HB:=Zh (show Below w.heap.size w wA from hwA▸Zab w _);clear hwA;have c2:=HX.out.cel 2 (u:= .int .u8 c.nm) rfl
 by_cases h0:c.nm=0
 case pos=>
  have h0b:(c.nm==0)=true:=Zt h0;rw [h0b,Bool.true_or]at HMB;rw [h0]at c2;clear h0 h0b;go_wp2_with fail;go_returns;exact⟨by rw [HMB.out];rfl,HB.out⟩
 have h0b:(c.nm==0)=false:=Zf h0;rw [h0b,Bool.false_or]at HMB;clear h0;go_wp2_with fail;refine(HIX.out wA).mono ?_;rintro e w1 ⟨rfl,rfl⟩;go_wp2_with fail;go_returns;exact⟨by rw [HMB.out];rfl,HB.out⟩
section
variable {w w':World}{c t:Nat}{cur:Int}{last:List UInt8}{r:Nat}{dirty:Bool}{undo held:Option Addr}{dn:Value}{s:Addr}
theorem coreBegin_no (h:CoreB w c t cur last r dirty undo (some s) held dn):Calls Tryz.prog 10 #[.pointer (some ⟨c,0,none⟩)] w fun e w'=>e= .returned (.int .i64 2)∧w'=w:=by
 have HN:=Zh (coreNone_b h.c0);have e32:=h.c32;clear h;go_enter Tryz.func10,Tryz.ntmps10;go_wp2_with fail;refine HN.out.mono ?_;rintro e w1 ⟨rfl,rfl⟩;go_wp2_with fail;go_returns;exact⟨rfl,rfl⟩
theorem coreUndo_no (h:CoreB w c t cur last r dirty undo (some s) held dn):Calls Tryz.prog 65 #[.pointer (some ⟨c,0,none⟩)] w fun e w'=>e= .returned (.tuple #[.slice none 0 0,.int .i64 2])∧w'=w:=by
 have HN:=Zh (coreNone_b h.c0);have e32:=h.c32;clear h;go_enter Tryz.func65,Tryz.ntmps65;go_wp2_with fail;refine HN.out.mono ?_;rintro e w1 ⟨rfl,rfl⟩;go_wp2_with fail;go_returns;exact⟨rfl,rfl⟩
theorem coreCur_b {was:Option Addr}(h:CoreB w c t cur last r dirty undo was held dn):Calls Tryz.prog 66 #[.pointer (some ⟨c,0,none⟩)] w fun e w'=>e= .returned (.int .i64 cur)∧w'=w:=by
 have HN:=Zh (coreNone_b h.c0);have e1:=h.c1;clear h;go_enter Tryz.func66,Tryz.ntmps66;go_wp2_with fail;refine HN.out.mono ?_;rintro e w1 ⟨rfl,rfl⟩;go_wp2_with fail;go_returns;exact⟨rfl,rfl⟩
theorem coreRegs_b {was:Option Addr}(h:CoreB w c t cur last r dirty undo was held dn):Calls Tryz.prog 20 #[.pointer (some ⟨c,0,none⟩)] w fun e w'=>e= .returned (.pointer (some ⟨r,0,none⟩))∧w'=w:=by
 have HN:=Zh (coreNone_b h.c0);have e29:=h.c29;clear h;go_enter Tryz.func20,Tryz.ntmps20;go_wp2_with fail;refine HN.out.mono ?_;rintro e w1 ⟨rfl,rfl⟩;go_wp2_with fail;go_returns;exact⟨rfl,rfl⟩
def NoRun (nm:Int)(e:Ending):Prop:=∃er:Int,e= .returned (.tuple #[.string ⟨#[]⟩,.slice none 0 0,.int .i64 er])∧(er=2∨(er=210∧mineB nm=false)∨(er=200∧nm=117))
theorem runsUndo_no (x:Cm)(hx:∃ao n cap,x.lv= .slice ao n cap)(h:CoreB w c t cur last r dirty undo (some s) held dn):
 Calls Tryz.prog 31 #[.pointer (some ⟨c,0,none⟩),.agg (cmC x)] w fun e w'=>(∃er:Int,e= .returned (.tuple #[.string ⟨#[]⟩,.slice none 0 0,.int .i64 er])∧(er=2∨er=200))∧Below w.heap.size w w':=by
 obtain⟨ao,n,cap,hlv⟩:=hx;go_enter Tryz.func31,Tryz.ntmps31;go_upto_region 1 with fail;generalize hwA:w.alloc _=wA;have HX:=Zh (show CmAt wA w.heap.size x from hwA▸Zae w _);have HB:=Zh (show Below w.heap.size w wA from hwA▸Zab w _);clear hwA;have HC:=Zh (h.later HB.out);have c0:wA.cell? ⟨w.heap.size,0,none⟩=some (.slice ao n cap):=by rw [HX.out.cel 0 (u:=x.lv) rfl,hlv]
 clear h hlv;have HU:=Zh (coreUndo_no HC.out);have HCU:=Zh (coreCur_b HC.out)
 by_cases hn:0 < n
 case pos=>
  have hni:(0:Int) < (n:Int):=by omega
  clear hn;go_wp2_with fail;go_returns;exact⟨⟨200,rfl,.inr rfl⟩,HB.out⟩
 obtain rfl:n=0:=by omega
 clear hn;go_wp2_with fail;refine HU.out.mono ?_;rintro e w1 ⟨rfl,rfl⟩;go_wp2_with fail;refine HCU.out.mono ?_;rintro e w2 ⟨rfl,rfl⟩;go_wp2_with fail;go_returns;exact⟨⟨2,rfl,.inl rfl⟩,HB.out⟩
theorem runsRun_begun (x:Cm)(hx:∃ao n cap,x.lv= .slice ao n cap)(tv:Value)(h:CoreB w c t cur last r dirty undo (some s) held dn):
 Calls Tryz.prog 8 #[.pointer (some ⟨c,0,none⟩),.agg (cmC x),tv] w fun e w'=>NoRun x.nm e∧Below w.heap.size w w':=by
 go_enter Tryz.func8,Tryz.ntmps8;go_upto_region 1 with fail;generalize hwA:w.alloc _=wA;have HX:=Zh (show CmAt wA w.heap.size x from hwA▸Zae w _);have HB:=Zh (show Below w.heap.size w wA from hwA▸Zab w _);clear hwA;have HC:=Zh (h.later HB.out);clear h;have HR:=Zh (coreRegs_b HC.out);have HM:=Zh (mineAny x wA);obtain⟨mb,hmb⟩:∃mb,mineB x.nm=mb:=⟨_,rfl⟩;rw [hmb]at HM;have HMB:=Zh hmb;clear hmb;go_wp2_with fail;refine HR.out.mono ?_;rintro e w1 ⟨rfl,rfl⟩;go_wp2_with (refine wpList_load_row rfl 35 _ (by with_reducible rfl) w.heap.size rfl 35 (cmC x) (0,0) _ HX.out Tryz.underlying35 rfl Zaf ?_);refine HM.out.mono ?_;rintro e w2 ⟨rfl,hb2⟩;have HB2:=Zh (HB.out.trans (hb2.mono HB.out.size));have HX2:=Zh (HX.out.later hb2);have HC2:=Zh (HC.out.later hb2);have c2:=HX2.out.cel 2 (u:= .int .u8 x.nm) rfl;clear hb2 HM HR;cases mb
 case false=>
  go_wp2_with fail;go_returns;exact⟨⟨210,rfl,.inr (.inl ⟨rfl,HMB.out⟩)⟩,HB2.out⟩
 by_cases hn:x.nm=117
 case pos=>
  have hnb:(x.nm==117)=true:=Zt hn;have HN:=Zh hn;have HU:=Zh (runsUndo_no x hx HC2.out);clear hn;go_wp2_with (refine wpList_load_row rfl 35 _ (by with_reducible rfl) w.heap.size rfl 35 (cmC x) (0,0) _ HX2.out Tryz.underlying35 rfl Zaf ?_);refine HU.out.mono ?_;rintro e w3 ⟨⟨er,rfl,her⟩,hb3⟩;have HE:=Zh her;have HB3:=Zh (HB2.out.trans (hb3.mono HB2.out.size));clear hb3 her;go_wp2_with fail;go_returns;exact⟨⟨er,rfl,HE.out.imp id (fun h=> .inr ⟨h,HN.out⟩)⟩,HB3.out⟩
 have hnb:(x.nm==117)=false:=Zf hn;have HG:=Zh (coreBegin_no HC2.out);clear hn;go_wp2_with fail;refine HG.out.mono ?_;rintro e w3 ⟨rfl,rfl⟩;go_wp2_with fail;go_returns;exact⟨⟨2,rfl,.inl rfl⟩,HB2.out⟩
end
open Go Go.Proofs Go.RowKit Go.Ink
theorem adrBlanks (s:List UInt8)(a:Nat)(w:World)(hs:s.length≤1000000)(ha:a≤1000000):
 Calls Tryz.prog 55 #[.string ⟨s.toArray⟩,.int .i64 (a:Int)] w fun e w'=>SomeN (fun b=>a≤b∧(b≤a∨b≤s.length)) e∧w'=w:=by
 have hsz:=size_mk s;go_enter Tryz.func55,Tryz.ntmps55;go_wp2_with fail
 go_loop [1] (fun iv=>∃k:Nat,iv= .int .i64 (k:Int)∧a≤k∧Hid (k≤a∨k≤s.length)∧k≤1000000) (fun iv=>1000000 - (intOf iv).toNat)
 case atStart=>exact⟨a,rfl,Nat.le_refl _,Zh (.inl (Nat.le_refl _)),ha⟩
 case round=>
  obtain⟨k,rfl,hak,HK,hk6⟩:=hrel
  by_cases hlt:k < s.length
  ·have hki:(k:Int) < (s.length:Int):=by omega
   obtain⟨d,hkd⟩:∃d,s[k]? =some d:=⟨_,Zg hlt⟩;have hby:=Zak hkd;clear hkd
   by_cases h32:(d.toNat:Int)=32
   ·have hdb:((d.toNat:Int)==32)=true:=Zt h32
    clear h32;go_wp2_with fail;go_round
    case rel=>exact⟨k+1,by go_num,by omega,Zh (.inr (by omega)),by omega⟩
    case measure=>simp [intOf] <;> omega
   ·have hdb:((d.toNat:Int)==32)=false:=Zf h32
    by_cases h9:(d.toNat:Int)=9
    ·have hdb9:((d.toNat:Int)==9)=true:=Zt h9
     clear h9 h32;go_wp2_with fail;go_round
     case rel=>exact⟨k+1,by go_num,by omega,Zh (.inr (by omega)),by omega⟩
     case measure=>simp [intOf] <;> omega
    ·have hdb9:((d.toNat:Int)==9)=false:=Zf h9
     go_wp2_with fail;go_returns;exact⟨.mk k ⟨hak,HK.out⟩,rfl⟩
  ·have hki:¬(k:Int) < (s.length:Int):=by omega
   go_wp2_with fail;go_returns;exact⟨.mk k ⟨hak,HK.out⟩,rfl⟩
theorem adrDigit (s:List UInt8)(a:Nat)(w:World)(hs:s.length≤1000000):
 Calls Tryz.prog 92 #[.string ⟨s.toArray⟩,.int .i64 (a:Int)] w fun e w'=>e= .returned (.bool (dgB s a))∧w'=w:=by
 have hsz:=size_mk s
 by_cases hlt:a < s.length
 ·have hki:(a:Int) < (s.length:Int):=by omega
  obtain⟨d,hkd⟩:∃d,s[a]? =some d:=⟨_,Zg hlt⟩;have hby:=Zak hkd;have HR:=Zh (show dgB s a=(decide (48≤d.toNat) && decide (d.toNat≤57)) by unfold dgB;rw [hkd]);clear hkd
  by_cases h48:d.toNat < 48
  ·have h48i:¬(48:Int)≤(d.toNat:Int):=by omega
   have HV:=Zh (show dgB s a=false by rw [HR.out,decide_eq_false (by omega)];rfl);rw [HV.out];clear h48;go_enter Tryz.func92,Tryz.ntmps92;go_wp2_with fail;go_returns;exact⟨rfl,rfl⟩
  ·have h48i:(48:Int)≤(d.toNat:Int):=by omega
   by_cases h57:d.toNat≤57
   ·have h57i:(d.toNat:Int)≤57:=by omega
    have HV:=Zh (show dgB s a=true by rw [HR.out,decide_eq_true (by omega),decide_eq_true h57];rfl);rw [HV.out];clear h48 h57;go_enter Tryz.func92,Tryz.ntmps92;go_wp2_with fail;go_returns;exact⟨rfl,rfl⟩
   ·have h57i:¬(d.toNat:Int)≤57:=by omega
    have HV:=Zh (show dgB s a=false by rw [HR.out,decide_eq_false h57,Bool.and_false]);rw [HV.out];clear h48 h57;go_enter Tryz.func92,Tryz.ntmps92;go_wp2_with fail;go_returns;exact⟨rfl,rfl⟩
 ·have hki:¬(a:Int) < (s.length:Int):=by omega
  have HV:=Zh (show dgB s a=false by unfold dgB;rw [List.getElem?_eq_none (by omega)]);rw [HV.out];go_enter Tryz.func92,Tryz.ntmps92;go_wp2_with fail;go_returns;exact⟨rfl,rfl⟩
theorem adrNumber (s:List UInt8)(a:Nat)(w:World)(hs:s.length≤1000000)(ha:a≤1000000):
 Calls Tryz.prog 93 #[.string ⟨s.toArray⟩,.int .i64 (a:Int)] w fun e w'=>NumE s a e∧w'=w:=by
 have hsz:=size_mk s;have HD:=Zh (fun(j:Nat)=>adrDigit s j w hs);go_enter Tryz.func93,Tryz.ntmps93;go_wp2_with fail
 go_loop [4,5] (fun nv kv=>∃(z:Int) (k:Nat),nv= .int .i64 z∧kv= .int .i64 ((a:Int)+(k:Int))∧k≤9∧Hid (∀j,j < k→dgB s (a+j)=true)) (fun _ kv=>a+10 - (intOf kv).toNat)
 case atStart=>exact⟨0,0,rfl,rfl,by omega,Zh (fun j hj=>by omega)⟩
 case round=>
  obtain⟨z,k,rfl,rfl,hk,HK⟩:=hrel;have hcv:((a+k:Nat):Int)=(a:Int)+(k:Int):=by omega
  have HDK:=Zh (HD.out (a+k));rw [hcv]at HDK;clear hcv;go_wp2_with fail;refine HDK.out.mono ?_;rintro e w1 ⟨rfl,rfl⟩;cases hdg:dgB s (a+k)
  case false=>
   have HN:=Zh (show a≤a+k∧(a+k≤a∨a+k≤s.length)∧(dgB s a=true→a < a+k) from by
    refine⟨by omega,?_,fun h=>?_⟩
    ·cases k with
     | zero=>exact .inl (by omega)
     | succ j=>
       have:=dgB_lt (HK.out j (by omega));exact .inr (by omega)
    ·cases k with
     | zero=>rw [Nat.add_zero]at hdg;rw [hdg]at h;cases h
     | succ j=>omega)
   clear hdg;go_wp2_with fail;go_returns;exact⟨⟨z,a+k,true,by simp,fun _=>HN.out⟩,rfl⟩
  case true=>
   have hlt:=dgB_lt hdg;obtain⟨d,hkd⟩:∃d,s[a+k]? =some d:=⟨_,Zg hlt⟩;have hby:=Zak hkd;have hli:(a:Int)+(k:Int) < (s.length:Int):=by omega
   have hl0:(0:Int)≤(a:Int)+(k:Int):=by omega
   have htn:((a:Int)+(k:Int)).toNat=a+k:=by omega
   have HG:=Zh hdg;clear hkd hdg
   by_cases h9:k=9
   ·subst h9
    go_wp2_with fail;go_returns;exact⟨⟨0,0,false,rfl,fun h=>by cases h⟩,rfl⟩
   ·have h9i:¬(9:Int) < (k:Int)+1:=by omega
    go_wp2_with fail;go_round
    case rel=>exact⟨_,k+1,rfl,by go_num,by omega,Zh (fun j hj=>by
     by_cases e:j=k
     ·subst e;exact HG.out
     ·exact HK.out j (by omega))⟩
    case measure=>simp [intOf] <;> omega
end Go.Proofs.YtndjgbehbgcpkaaGreatDoor
