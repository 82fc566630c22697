/- How heavy a pattern is. -/
import Derived.Test.YtndjgbehbgcpkaaGreatDoorPrn
set_option linter.unusedVariables false
set_option linter.unusedSimpArgs false
set_option maxRecDepth 100000
set_option maxHeartbeats 4000000
namespace Go.Proofs.YtndjgbehbgcpkaaGreatDoor
open Go Go.Proofs Go.RowKit Go.Ink Go.Sort
theorem refWeight {S:Nat→Prop}{v:Value}{w:World}(h:Tree w S v):∀n,Calls Tryz.prog 90 #[v] (w.drewN n) fun e w'=>SomeI e∧∃m,w'=w.drewN m:=by
 induction h with
 | nil=>
   intro n;go_enter Tryz.func90,Tryz.ntmps90;go_wp2_with fail
   go_loop [3,4,5] (fun nv iv _=>IsIn nv∧iv= .int .i64 0) (fun _ _ _=>0)
   case atStart=>exact⟨⟨_,rfl⟩,rfl⟩
   case round=>
    obtain⟨⟨z,rfl⟩,rfl⟩:=hrel;go_wp2_with fail;go_returns;exact⟨.mk z,n,rfl⟩
 | row b n cap cs T fr nc kid hS hh hn hc hv hk ih=>
   intro d;have HH:=Zh hh;have HC:=Zh hc;have HV:=Zh (show∀i,i < n→∀j u,(nc i)[j]? =some u→cs[i * 262+j]? =some u from fun i hi j u hj=>by rw [Nat.mul_comm];exact hv i hi j u hj);have HI:=Zh ih;have hnm:(n:Int)≤9223372036854775807:=by unfold maxLen at hn;omega
   clear hS hh hn hc hv hk ih;go_enter Tryz.func90,Tryz.ntmps90;go_wp2_with fail
   go_loopw [3,4,5] (fun nv iv _ wr=>IsIn nv∧∃i:Nat,iv= .int .i64 (i:Int)∧i≤n∧Hid (∃m,wr=w.drewN m)) (fun _ iv _ _=>n - (intOf iv).toNat)
   case atStart=>exact⟨⟨_,rfl⟩,0,rfl,Nat.zero_le _,Zh ⟨d,rfl⟩⟩
   case round=>
    obtain⟨⟨z,rfl⟩,i,rfl,hi,HX⟩:=hrel;obtain⟨m,hm⟩:=HX.out;have HHR:=Zh (show wr.heap[b]? =some (.cells cs T fr) by rw [hm];exact HH.out);have HM:=Zh hm;clear hm HX
    by_cases hlt:i < n
    case neg=>
     have hki:¬(i:Int) < (n:Int):=by omega
     clear hlt;go_wp2_with fail;go_returns;exact⟨.mk z,m,HM.out⟩
    have hki:(i:Int) < (n:Int):=by omega
    have HLT:=Zh hlt;obtain⟨k0,hk0⟩:=(HC.out i hlt).kind;obtain⟨k1,hk1⟩:=(HC.out i hlt).min_;obtain⟨k2,hk2⟩:=(HC.out i hlt).max_;have q0:wr.cell? ⟨b,i * 262,none⟩=some (.int .i64 k0):=by rw [Lib.cell_of_heap HHR.out];exact HV.out i hlt 0 _ hk0
    have q6:wr.cell? ⟨b,i * 262+261,none⟩=some (kid i):=by rw [Lib.cell_of_heap HHR.out];exact HV.out i hlt 261 _ (HC.out i hlt).kids
    have HQ4:=Zh (fun(X:World) (hX:X.heap=wr.heap)=>(show X.cell? ⟨b,i * 262+259,none⟩=some (.int .i64 k1) by rw [Lib.cell_of_heap (show X.heap[b]? =some (.cells cs T fr) by rw [hX];exact HHR.out)];exact HV.out i hlt 259 _ hk1));have HQ5:=Zh (fun(X:World) (hX:X.heap=wr.heap)=>(show X.cell? ⟨b,i * 262+260,none⟩=some (.int .i64 k2) by rw [Lib.cell_of_heap (show X.heap[b]? =some (.cells cs T fr) by rw [hX];exact HHR.out)];exact HV.out i hlt 260 _ hk2));have HQ0:=Zh (fun(X:World) (hX:X.heap=wr.heap)=>(show X.cell? ⟨b,i * 262,none⟩=some (.int .i64 k0) by rw [Lib.cell_of_heap (show X.heap[b]? =some (.cells cs T fr) by rw [hX];exact HHR.out)];exact HV.out i hlt 0 _ hk0));have HCL:=Zh (show Calls Tryz.prog 90 #[kid i] wr fun e w'=>SomeI e∧∃m,w'=w.drewN m by rw [HM.out];exact HI.out i hlt m);clear hk0 hk1 hk2 hlt;go_wp2_with fail;refine HCL.out.mono ?_;rintro e w1 ⟨⟨k,rfl⟩,m1,hm1⟩;have hh1:w1.heap=wr.heap:=by rw [hm1,HM.out];rfl
    have q0:=HQ0.out w1 hh1;have HQ4':=Zh (fun nq=>HQ4.out (w1.drewN nq) hh1);have HQ5':=Zh (fun nq=>HQ5.out (w1.drewN nq) hh1);have q4:=HQ4.out w1 hh1;have q5:=HQ5.out w1 hh1;have HM1:=Zh hm1;clear hm1 hh1 q6 HQ0 HQ4 HQ5 HCL
    by_cases h8:k0=8
    case neg=>
     have h8b:(k0==8)=false:=Zf h8;go_wp2_with fail;go_roundw
     case rel=>exact⟨⟨_,rfl⟩,i+1,by go_num,HLT.out,Zh ⟨m1,HM1.out⟩⟩
     case measure=>have:=HLT.out;simp [intOf] <;> omega
    have h8b:(k0==8)=true:=Zt h8;clear h8;go_wp2_with fail
    go_quiet (fail)
    go_wp2_with fail;go_roundw
    case rel=>exact⟨⟨_,rfl⟩,i+1,by go_num,HLT.out,Zh ⟨m1+nq,by rw [HM1.out,World.drewN_drewN]⟩⟩
    case measure=>have:=HLT.out;simp [intOf] <;> omega
theorem refHeavy (p s:List UInt8)(long:Int)(w:World)(hs:s.length≤1000000):
 Calls Tryz.prog 53 #[.string ⟨p.toArray⟩,.string ⟨s.toArray⟩,.int .i64 long] w fun e w'=>SomeB anyQ e∧Below w.heap.size w w':=by
 have hsz:=size_mk p;have hss:=size_mk s
 by_cases h60:60 < (p.length:Int)
 case pos=>
  go_enter Tryz.func53,Tryz.ntmps53;go_wp2_with fail;go_returns;exact⟨⟨_,rfl,trivial⟩,Below.refl _ _⟩
 by_cases hl:long < (s.length:Int)
 case pos=>
  go_enter Tryz.func53,Tryz.ntmps53;go_wp2_with fail;go_returns;exact⟨⟨_,rfl,trivial⟩,Below.refl _ _⟩
 have HPA:=Zh (refParse9 p w (by omega));go_enter Tryz.func53,Tryz.ntmps53;go_wp2_with fail;refine HPA.out.mono ?_;rintro e w2 ⟨q,er,rfl,-,hre,hb⟩;have HB:=Zh hb
 by_cases her:er=0
 case neg=>
  have herb:(er==0)=false:=Zf her;clear hre hb;go_wp2_with fail;go_returns;exact⟨⟨_,rfl,trivial⟩,HB.out⟩
 subst her;obtain⟨g,ao,n,cap,gr,mn,rf,rfl,hg,ht⟩:=hre rfl;have c0:w2.cell? ⟨g,0,none⟩=some (.slice ao n cap):=by rw [Lib.cell_of_heap hg];rfl
 have HW:=Zh (show Calls Tryz.prog 90 #[.slice ao n cap] w2 fun e w'=>SomeI e∧∃m,w'=w2.drewN m from refWeight ht 0);clear hre hb hg ht;go_wp2_with fail;refine HW.out.mono ?_;rintro e w3 ⟨⟨z,rfl⟩,m,rfl⟩;have HB3:=Zh (belowD HB.out m);go_wp2_with fail;go_returns;exact⟨⟨_,rfl,trivial⟩,HB3.out⟩
open Go Go.Proofs Go.RowKit Go.Ink Go.Sort
theorem Zdz (p:List UInt8)(w:World)(hp:p.length≤1000000):
 Calls Tryz.prog 24 #[.string ⟨p.toArray⟩] w fun e w'=>SomeB anyQ e∧Below w.heap.size w w':=by
 have hsz:=size_mk p;have HHV:=Zh (show Calls Tryz.prog 53 #[.string ⟨p.toArray⟩,.string ⟨#[]⟩,.int .i64 60] w fun e w'=>SomeB anyQ e∧Below w.heap.size w w' from refHeavy p [] 60 w (by decide))
 by_cases h20:20 < (p.length:Int)
 case pos=>
  go_enter Tryz.func24,Tryz.ntmps24;go_wp2_with fail;go_returns;exact⟨⟨_,rfl,trivial⟩,Below.refl _ _⟩
 go_enter Tryz.func24,Tryz.ntmps24;go_wp2_with fail;refine HHV.out.mono ?_;rintro e w2 ⟨⟨b,rfl,-⟩,hb⟩;have HB:=Zh hb;clear hb;go_wp2_with fail;go_returns;exact⟨⟨_,rfl,trivial⟩,HB.out⟩
def PatE (s:List UInt8)(e:Ending):Prop:=∃(re rest:List UInt8) (cl:Bool) (er:Int),e= .returned (.tuple #[.string ⟨re.toArray⟩,.string ⟨rest.toArray⟩,.bool cl,.int .i64 er])∧re.length≤s.length∧rest.length≤s.length∧(er=0→0 < s.length∧(re≠[]→Err9 re 0))
theorem PatE.no {s:List UInt8}{er:Int}(h:¬er=0):PatE s (.returned (.tuple #[.string ⟨#[]⟩,.string ⟨#[]⟩,.bool false,.int .i64 er])):=⟨[],[],false,er,rfl,Nat.zero_le _,Nat.zero_le _,fun e=>absurd e h⟩
theorem refPattern (s:List UInt8)(w:World)(hs:s.length≤100000):
 Calls Tryz.prog 137 #[.string ⟨s.toArray⟩] w fun e w'=>PatE s e∧Below w.heap.size w w':=by
 have hsz:=size_mk s;have HP9:=Zh (fun(t:List UInt8) (X:World) (ht:t.length≤100000)=>refParse9 t X ht);have HDL:=Zh (fun(c:UInt8)=>(show Calls Tryz.prog 138 #[.string ⟨s.toArray⟩,.int .i64 1,.int .u8 (c.toNat:Int)] w fun e w'=>DelE s 1 e∧w'=w from refDelimited s 1 c w (by omega) (by omega)));go_enter Tryz.func137,Tryz.ntmps137
 by_cases h0:s=[]
 case pos=>
  subst h0;go_wp2_with fail;go_returns;exact⟨PatE.no (by decide),Below.refl _ _⟩
 have hlp:0 < s.length:=List.length_pos_iff.2 h0;obtain⟨d,hkd⟩:∃d,s[0]? =some d:=⟨_,Zg hlp⟩;have hby:=Zak hkd;have h0b:(s==[])=false:=Zf h0;have HLP:=Zh hlp;have HLS:=Zh hs;clear hkd h0
 by_cases h32:(d.toNat:Int)=32
 case pos=>
  have h32b:((d.toNat:Int)==32)=true:=Zt h32;clear h32;go_wp2_with fail;go_returns;exact⟨PatE.no (by decide),Below.refl _ _⟩
 have h32b:((d.toNat:Int)==32)=false:=Zf h32
 by_cases h92:(d.toNat:Int)=92
 case pos=>
  have h92b:((d.toNat:Int)==92)=true:=Zt h92;clear h92;go_wp2_with fail;go_returns;exact⟨PatE.no (by decide),Below.refl _ _⟩
 have h92b:((d.toNat:Int)==92)=false:=Zf h92;have HD:=Zh (HDL.out d);go_wp2_with fail;refine HD.out.mono ?_;rintro e w1 ⟨⟨o,n,cl,rfl,ho,hn1,hn2⟩,rfl⟩;have HOL:=Zh ho;have hnl:n≤s.length:=by omega
 have hni:(n:Int)≤(s.length:Int):=by omega
 have he:=Zcg s n;obtain⟨t,ht⟩:∃t,s.drop n=t:=⟨_,rfl⟩;have HTL:=Zh (show t.length≤s.length by rw [← ht,List.length_drop];omega);rw [ht]at he;clear ht ho hn1 hn2
 by_cases ho0:o=[]
 case pos=>
  subst ho0;go_wp2_with fail
  go_quiet (fail)
  go_wp2_with fail;go_returns;exact⟨⟨[],t,cl,0,rfl,Nat.zero_le _,HTL.out,fun _=>⟨HLP.out,fun h=>absurd rfl h⟩⟩,belowD (Below.refl _ _) nq⟩
 have ho0b:(o==[])=false:=Zf ho0;have ho0c:(o !=[])=true:=by rw [bne_iff_ne];exact ho0
 have HPO:=Zh (HP9.out o w1 (by have:=HOL.out;have:=HLS.out;omega));clear ho0;go_wp2_with fail;refine HPO.out.mono ?_;rintro e w2 ⟨q,er,rfl,h9,-,hb⟩;have HB:=Zh hb;have H9:=Zh h9;clear h9 hb
 by_cases her:er=0
 case neg=>
  have herb:(er !=0)=true:=bne_iff_ne.2 her;have HER:=Zh her;go_wp2_with fail;go_returns;exact⟨PatE.no HER.out,HB.out⟩
 subst her;go_wp2_with fail
 go_quiet (fail)
 have HB2:=Zh (belowD HB.out nq);go_wp2_with fail;go_returns;exact⟨⟨o,t,cl,0,rfl,HOL.out,HTL.out,fun _=>⟨HLP.out,fun _=>H9.out⟩⟩,HB2.out⟩
open Go Go.Proofs Go.RowKit Go.Ink Go.Sort
theorem refGlobal (c:Cm)(hc:CmOk c)(s:List UInt8)(w:World)(hs:s.length≤100000):
 Calls Tryz.prog 86 #[.agg (cmC c),.string ⟨s.toArray⟩] w fun e w'=>CmdE c e∧Below w.heap.size w w':=by
 have hsz:=size_mk s;have HPT:=Zh (fun(X:World)=>refPattern s X hs);have HBK:=Zh (fun(t:List UInt8) (X:World) (ht:t.length≤100000)=>refBlanks t 0 X (by omega) (by omega));have HLS:=Zh hs;have HCO:=Zh hc;go_enter Tryz.func86,Tryz.ntmps86;go_upto_region 1 with fail;generalize hwA:(w.alloc _).alloc _=wA;obtain⟨old,HZ,HOS⟩:∃old:Array Value,Hid (wA.heap[w.heap.size+1]? =some (.cells old 35 (0,0)))∧Hid (old.size=15):=⟨cm0,Zh (hwA▸heap_alloc2_new _ _ _),Zh rfl⟩;have HCA:=Zh (show CmAt wA w.heap.size c from hwA▸heap_alloc2_old _ _ _);have HBA:=Zh (show Below w.heap.size w wA from hwA▸(Zab w _).trans ((Zab _ _).mono (Zab w _).size));clear hwA;have HPA:=Zh (HPT.out wA);go_wp2_with fail;refine HPA.out.mono ?_;rintro e w1 ⟨⟨re,rest,cl,er,rfl,hre,hrest,-⟩,hb1⟩;have HC0:=Zh (HCA.out.later hb1);have HZ0:=Zh ((hb1.block _ (Zaa HZ.out)).trans HZ.out);have HB0:=Zh (HBA.out.trans (hb1.mono HBA.out.size));have HRL:=Zh (show re.length≤100000∧rest.length≤100000 from⟨by omega,by omega⟩);have hrsz:=size_mk rest;clear hb1 hre hrest HPA HPT;have u1:w1.cell? ⟨w.heap.size,8,none⟩=some (.string ⟨c.re.toArray⟩):=HC0.out.cel 8 rfl;have g1:=HC0.out.fz 8;have HC1:=Zh (HC0.out.setN 8 (.string ⟨re.toArray⟩) { c with re:=re } rfl);have HZ1:=Zh (show(w1.setCell ⟨w.heap.size,8,none⟩ (.string ⟨re.toArray⟩)).heap[w.heap.size+1]? =some (.cells old 35 (0,0)) from(Below.heap_setCell _ _ _ _ (show w.heap.size+1≠w.heap.size by omega)).trans HZ0.out);have HB1:=Zh (HB0.out.setCell (p:=⟨w.heap.size,8,none⟩) (Nat.le_refl _) (.string ⟨re.toArray⟩));have u2:(w1.setCell ⟨w.heap.size,8,none⟩ (.string ⟨re.toArray⟩)).cell? ⟨w.heap.size,12,none⟩=some (.string ⟨c.sub.toArray⟩):=HC1.out.cel 12 rfl;have g2:=HC1.out.fz 12;have HC2:=Zh (HC1.out.setN 12 (.string ⟨rest.toArray⟩) { c with re:=re,sub:=rest } rfl);have HZ2:=Zh (show((w1.setCell ⟨w.heap.size,8,none⟩ (.string ⟨re.toArray⟩)).setCell ⟨w.heap.size,12,none⟩ (.string ⟨rest.toArray⟩)).heap[w.heap.size+1]? =some (.cells old 35 (0,0)) from(Below.heap_setCell _ _ _ _ (show w.heap.size+1≠w.heap.size by omega)).trans HZ1.out);have HB2:=Zh (HB1.out.setCell (p:=⟨w.heap.size,12,none⟩) (Nat.le_refl _) (.string ⟨rest.toArray⟩));have HO2:=Zh (show Zcf c { c with re:=re,sub:=rest } from⟨rfl,rfl,⟨HCO.out.lv,HCO.out.sv,HCO.out.dre,by have:=HRL.out;show re.length≤1000000;omega,by have:=HRL.out;show rest.length≤100000;omega⟩⟩);clear HC1 HZ1 HB1;go_upto_region 3 with fail;clear u1 g1 u2 g2;generalize (w1.setCell _ _).setCell _ _=w2 at *;obtain⟨x,hx⟩:∃x:Cm,{ c with re:=re,sub:=rest }=x:=⟨_,rfl⟩;rw [hx]at HC2 HO2;clear hx;have HBR:=Zh (HBK.out rest w2 HRL.out.2)
 go_cut [29] from 21 to 30 (fun v wx=>IsBo v∧wx=w2)
 case first=>
  cases cl
  case false=>
   go_wp2_with fail;go_meet
   case rel=>exact⟨⟨_,rfl⟩,rfl⟩
  go_wp2_with fail;refine HBR.out.mono ?_;rintro e w3 ⟨⟨m,rfl,-,hm⟩,rfl⟩;clear hm;go_wp2_with fail;go_meet
  case rel=>exact⟨⟨_,rfl⟩,rfl⟩
 case rest=>
  obtain⟨⟨b1,rfl⟩,hw⟩:=hcut;subst hw;cases b1
  case false=>
   have HNX:=Zh (Zbk HO2.out.2.2);have HSX:=Zh (show old.size=(cmC x).size from HOS.out)
   go_wp2_with (first
    | (refine wpList_load_row rfl 35 _ (by with_reducible rfl) w.heap.size rfl 35 (cmC x) (0,0) _ HC2.out Tryz.underlying35 rfl Zaf ?_)
    | (refine wpList_store_row rfl 35 _ _ (by with_reducible rfl) (w.heap.size+1) (cmC x) rfl rfl 35 old HZ2.out Zaf HSX.out HNX.out ?_))
   refine bodyPost_ret (v:= .tuple #[.agg (cmC x),.int .i64 er]) (Zag (p:=4) (q:=5) (by kernel_rfl) _ _ (w.heap.size+1) 35 (cmC x) (0,0) _ _ rfl rfl (setRow_heap _ _ _ _ _ _ HZ2.out) Tryz.underlying35 rfl Zaf) rfl ?_;exact⟨⟨_,er,rfl,HO2.out.1,HO2.out.2.1,HO2.out.2.2⟩,Zah HB2.out (Nat.le_succ _) _⟩
  have u3:wc.cell? ⟨w.heap.size,12,none⟩=some (.string ⟨x.sub.toArray⟩):=HC2.out.cel 12 rfl;have g3:=HC2.out.fz 12;have HC3:=Zh (HC2.out.setN 12 (.string ⟨#[112]⟩) { x with sub:=[112] } rfl);have HZ3:=Zh (show(wc.setCell ⟨w.heap.size,12,none⟩ (.string ⟨#[112]⟩)).heap[w.heap.size+1]? =some (.cells old 35 (0,0)) from(Below.heap_setCell _ _ _ _ (show w.heap.size+1≠w.heap.size by omega)).trans HZ2.out);have HB3:=Zh (HB2.out.setCell (p:=⟨w.heap.size,12,none⟩) (Nat.le_refl _) (.string ⟨#[112]⟩));have HO3:=Zh (show Zcf c { x with sub:=[112] } from⟨HO2.out.1,HO2.out.2.1,⟨HO2.out.2.2.lv,HO2.out.2.2.sv,HO2.out.2.2.dre,HO2.out.2.2.re,by show 1≤100000;omega⟩⟩);go_upto_region 5 with fail;clear u3 g3;generalize wc.setCell _ _=w4 at *;have HNX:=Zh (Zbk HO3.out.2.2);have HSX:=Zh (show old.size=(cmC { x with sub:=[112] }).size from HOS.out)
  go_wp2_with (first
   | (refine wpList_load_row rfl 35 _ (by with_reducible rfl) w.heap.size rfl 35 (cmC { x with sub:=[112] }) (0,0) _ HC3.out Tryz.underlying35 rfl Zaf ?_)
   | (refine wpList_store_row rfl 35 _ _ (by with_reducible rfl) (w.heap.size+1) (cmC { x with sub:=[112] }) rfl rfl 35 old HZ3.out Zaf HSX.out HNX.out ?_))
  refine bodyPost_ret (v:= .tuple #[.agg (cmC { x with sub:=[112] }),.int .i64 er]) (Zag (p:=4) (q:=5) (by kernel_rfl) _ _ (w.heap.size+1) 35 (cmC { x with sub:=[112] }) (0,0) _ _ rfl rfl (setRow_heap _ _ _ _ _ _ HZ3.out) Tryz.underlying35 rfl Zaf) rfl ?_;exact⟨⟨_,er,rfl,HO3.out.1,HO3.out.2.1,HO3.out.2.2⟩,Zah HB3.out (Nat.le_succ _) _⟩
end Go.Proofs.YtndjgbehbgcpkaaGreatDoor
