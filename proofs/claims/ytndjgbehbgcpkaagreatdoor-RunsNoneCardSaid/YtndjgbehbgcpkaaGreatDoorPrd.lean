/- The reference's reader of patterns: digits. -/
import Derived.Test.YtndjgbehbgcpkaaGreatDoorBuild
import Derived.Test.YtndjgbehbgcpkaaGreatDoorPr7
import Derived.Deep.CutRange
import GoSem.Instr.Build
import Derived.Laws.Tables
import Derived.Great.BuildSlice
import Derived.OrdersHeld
import Derived.Laws.Rows
set_option linter.unusedVariables false
set_option linter.unusedSimpArgs false
set_option maxRecDepth 100000
set_option maxHeartbeats 4000000
namespace Go.Proofs.YtndjgbehbgcpkaaGreatDoor
open Go Go.Proofs Go.RowKit Go.Ink Go.Sort
def rdPos (w:World)(b:Nat):Nat:=match w.cell? ⟨b,1,none⟩ with
 | some (.int _ z)=>z.toNat
 | _=>0
theorem RdAt.pos {w:World}{b:Nat}{s:List UInt8}{a gr mn:Nat}{rf:Bool×(Nat→Bool)}{bd:Bool}(h:RdAt w b s a gr mn rf bd):rdPos w b=a:=by
 unfold rdPos;rw [h.c1];simp
theorem RdAt.drewN {w:World}{b:Nat}{s:List UInt8}{a gr mn:Nat}{rf:Bool×(Nat→Bool)}{bd:Bool}(h:RdAt w b s a gr mn rf bd)(n:Nat):RdAt (w.drewN n) b s a gr mn rf bd:=h.kept (S:=fun _=>False) ((KeepT.refl _ _).drewN n) (fun h=>h)
def digGo:List UInt8→Int→Bool→Nat→Int×Bool×Nat
 | [],n,ok,k=>(n,ok,k)
 | c::r,n,ok,k=>if 48≤c.toNat∧c.toNat≤57 then digGo r (min (n * 10+((c.toNat:Int) - 48)) 1000) true (k+1) else(n,ok,k)
def dig (s:List UInt8)(a:Nat):Int×Bool×Nat:=digGo (s.drop a) 0 false a
theorem digGo_end {s:List UInt8}{i:Nat}{z:Int}{ob:Bool}(h:¬i < s.length):digGo (s.drop i) z ob i=(z,ob,i):=by
 rw [List.drop_eq_nil_of_le (by omega)]
 rfl
theorem digGo_no {s:List UInt8}{i:Nat}{z:Int}{ob:Bool}{d:UInt8}(h:s[i]? =some d)(hd:¬(48≤d.toNat∧d.toNat≤57)):digGo (s.drop i) z ob i=(z,ob,i):=by
 obtain⟨hl,rfl⟩:=List.getElem?_eq_some_iff.1 h;rw [List.drop_eq_getElem_cons hl];unfold digGo;rw [if_neg hd]
theorem digGo_yes {s:List UInt8}{i:Nat}{z:Int}{ob:Bool}{d:UInt8}(h:s[i]? =some d)(h1:48≤d.toNat)(h2:d.toNat≤57):digGo (s.drop i) z ob i=digGo (s.drop (i+1)) (min (z * 10+((d.toNat:Int) - 48)) 1000) true (i+1):=by
 obtain⟨hl,rfl⟩:=List.getElem?_eq_some_iff.1 h;rw [List.drop_eq_getElem_cons hl];rw [digGo,if_pos ⟨h1,h2⟩]
def DigE (s:List UInt8)(a:Nat)(e:Ending)(a':Nat):Prop:=∃(z:Int) (ok:Bool),e= .returned (.tuple #[.int .i64 z,.bool ok])∧dig s a=(z,ok,a')
theorem refDigits {b:Nat}{s:List UInt8}{a gr mn:Nat}{rf:Bool×(Nat→Bool)}{bd:Bool}(w:World)(h:RdAt w b s a gr mn rf bd)(ha:a≤s.length)(hs:s.length≤100000):
 Calls Tryz.prog 198 #[.pointer (some ⟨b,0,none⟩)] w fun e w'=>∃a',DigE s a e a'∧a≤a'∧a'≤s.length∧RdAt w' b s a' gr mn rf bd∧KeepT (fun j=>j=b) w w':=by
 have hsz:=size_mk s;have HR:=Zh h;clear h;go_enter Tryz.func198,Tryz.ntmps198;go_wp2_with fail
 go_loopw [4,5] (fun nv ov wr=>∃(z:Int) (ob:Bool) (i:Nat),nv= .int .i64 z∧ov= .bool ob∧a≤i∧i≤s.length∧0≤z∧z≤1000∧Hid (dig s a=digGo (s.drop i) z ob i)∧Hid (RdAt wr b s i gr mn rf bd∧KeepT (fun j=>j=b) w wr)) (fun _ _ wr=>s.length - rdPos wr b)
 case atStart=>exact⟨0,false,a,rfl,rfl,Nat.le_refl _,ha,by decide,by decide,Zh rfl,Zh ⟨HR.out,KeepT.refl _ _⟩⟩
 case round=>
  obtain⟨z,ob,i,rfl,rfl,hai,hi,hz0,hz1,HDG,HX⟩:=hrel;have HPO:=Zh HX.out.1.pos;have q0:=HX.out.1.c0;have q1:=HX.out.1.c1
  by_cases hlt:i < s.length
  case neg=>
   have hki:¬(i:Int) < (s.length:Int):=by omega
   have HDE:=Zh (HDG.out.trans (digGo_end hlt));go_wp2_with fail
   go_quiet (fail)
   go_wp2_with fail;go_returns;exact⟨i,⟨z,ob,rfl,HDE.out⟩,hai,hi,HX.out.1.drewN nq,HX.out.2.drewN nq⟩
  have hki:(i:Int) < (s.length:Int):=by omega
  obtain⟨d,hkd⟩:∃d,s[i]? =some d:=⟨_,Zg hlt⟩;have hby:=Zak hkd;have HKD:=Zh hkd;clear hkd
  by_cases h48:(48:Int)≤(d.toNat:Int)
  case neg=>
   have h48b:decide ((48:Int)≤(d.toNat:Int))=false:=decide_eq_false h48;have h48c:decide ((d.toNat:Int) ≥ 48)=false:=decide_eq_false h48;have HDE:=Zh (HDG.out.trans (digGo_no HKD.out (by omega)));clear h48;go_wp2_with fail
   go_quiet (fail)
   go_wp2_with fail;go_returns;exact⟨i,⟨z,ob,rfl,HDE.out⟩,hai,hi,HX.out.1.drewN nq,HX.out.2.drewN nq⟩
  by_cases h57:(d.toNat:Int)≤57
  case neg=>
   have h57b:decide ((d.toNat:Int)≤57)=false:=decide_eq_false h57;have HDE:=Zh (HDG.out.trans (digGo_no HKD.out (by omega)));clear h57;go_wp2_with fail
   go_quiet (fail)
   go_wp2_with fail;go_returns;exact⟨i,⟨z,ob,rfl,HDE.out⟩,hai,hi,HX.out.1.drewN nq,HX.out.2.drewN nq⟩
  have HDE:=Zh (HDG.out.trans (digGo_yes HKD.out (by omega) (by omega)));have h48n:48≤d.toNat:=by omega
  have h57n:d.toNat≤57:=by omega
  have HD:=Zh (fun n=>HX.out.1.drewN n);have HK:=Zh (fun n=>HX.out.2.drewN n);go_wp2_with fail
  go_quiet (fail)
  have HR2:=Zh (HD.out nq);have HK2:=Zh (HK.out nq);clear q0 q1 HD HK HX;generalize wr.drewN nq=wq at *;have q0:=HR2.out.c0;have q1:=HR2.out.c1;have HD:=Zh (fun n=>HR2.out.drewN n);have HK:=Zh (fun n=>HK2.out.drewN n);go_upto_region 3 with fail
  go_quiet (fail)
  have HR3:=Zh (HD.out nq);have HK3:=Zh (HK.out nq);clear q0 q1 HD HK;generalize wq.drewN nq=wz at *;have q1:=HR3.out.c1;have g1:=HR3.out.fz 1;have e1:((i+1:Nat):Int)=(i:Int)+1:=by omega
  have HR4:=Zh (HR3.out.set1 (i+1));rw [e1]at HR4;have HK4:=Zh (HK3.out.setCell (p:=⟨b,1,none⟩) (.inl rfl) (.int .i64 ((i:Int)+1)));have HP4:=Zh HR4.out.pos;have HLT:=Zh hlt;clear e1;go_wp2_with fail;go_roundw
  case rel=>exact⟨_,true,i+1,rfl,rfl,by omega,by omega,by omega,by omega,Zh HDE.out,Zh ⟨HR4.out,HK4.out⟩⟩
  case measure=>rw [HP4.out,HPO.out];have:=HLT.out;omega
open Go Go.Proofs Go.RowKit Go.Ink Go.Sort
theorem sum_factsP (o l n:Nat)(h:o+l≤n):¬(n:Int) < (o:Int)+(l:Int)∧(0:Int)≤(o:Int)+(l:Int)∧(o:Int)+(l:Int)≤(n:Int)∧((o:Int)+(l:Int)).toNat=o+l:=by
 refine⟨by omega,by omega,by omega,by omega⟩
theorem extr_takeP (s:List UInt8)(a n:Nat):(⟨s.toArray⟩:ByteArray).extract a (a+n)=⟨((s.drop a).take n).toArray⟩:=by
 apply ByteArray.ext
 simp [ByteArray.extract,ByteArray.copySlice,List.extract_eq_take_drop]
def isB (s:List UInt8)(a:Nat)(t:List UInt8):Bool:=decide (a+t.length≤s.length) && ((s.drop a).take t.length==t)
theorem isB_le {s:List UInt8}{a:Nat}{t:List UInt8}(h:isB s a t=true):a+t.length≤s.length:=by
 unfold isB at h;simp only [Bool.and_eq_true,decide_eq_true_eq]at h;exact h.1
def IsE (s:List UInt8)(a:Nat)(t:List UInt8)(e:Ending):Prop:=∃v:Bool,e= .returned (.bool v)∧(v=true→a+t.length≤s.length)∧isB s a t=v
theorem refIsQ {b:Nat}{s:List UInt8}{a gr mn:Nat}{rf:Bool×(Nat→Bool)}{bd:Bool}(t:List UInt8)(w:World)(h:RdAt w b s a gr mn rf bd)(ha:a≤s.length)(hs:s.length≤100000)(ht:t.length≤100000):
 Calls Tryz.prog 169 #[.pointer (some ⟨b,0,none⟩),.string ⟨t.toArray⟩] w fun e w'=>e= .returned (.bool (isB s a t))∧∃n,w'=w.drewN n:=by
 have hsz:=size_mk s;have hst:=size_mk t;have q0:=h.c0;have q1:=h.c1;clear h
 by_cases hl:a+t.length≤s.length
 case neg=>
  have hib:isB s a t=false:=by unfold isB;rw [decide_eq_false hl];rfl
  rw [hib];have hlb:decide ((t.length:Int)≤(s.length:Int) - (a:Int))=false:=decide_eq_false (by omega);have hlc:decide ((s.length:Int) - (a:Int) ≥ (t.length:Int))=false:=decide_eq_false (by omega);have hai:(a:Int)≤(s.length:Int):=by omega
  clear hl hib;go_enter Tryz.func169,Tryz.ntmps169;go_wp2_with fail
  go_quiet (fail)
  go_wp2_with fail;go_returns;exact⟨rfl,nq,rfl⟩
 have hlb:decide ((t.length:Int)≤(s.length:Int) - (a:Int))=true:=decide_eq_true (by omega);have hli:(t.length:Int)≤(s.length:Int) - (a:Int):=by omega
 obtain⟨-,hz0,hz1,hz2⟩:=sum_factsP a t.length s.length hl;have hz3:(a:Int)≤(a:Int)+(t.length:Int):=by omega
 have hex:=extr_takeP s a t.length;obtain⟨u,hu⟩:∃u,(s.drop a).take t.length=u:=⟨_,rfl⟩;rw [hu]at hex;have hib:isB s a t=(u==t):=by unfold isB;rw [decide_eq_true hl,hu];rfl
 rw [hib];obtain⟨eb,heb⟩:∃eb:Bool,(u==t)=eb:=⟨_,rfl⟩;rw [heb];clear hl hu hib;go_enter Tryz.func169,Tryz.ntmps169;go_wp2_with fail
 go_quiet (fail)
 go_wp2_with fail;go_returns;exact⟨rfl,nq,rfl⟩
theorem refIs {b:Nat}{s:List UInt8}{a gr mn:Nat}{rf:Bool×(Nat→Bool)}{bd:Bool}(t:List UInt8)(w:World)(h:RdAt w b s a gr mn rf bd)(ha:a≤s.length)(hs:s.length≤100000)(ht:t.length≤100000):
 Calls Tryz.prog 169 #[.pointer (some ⟨b,0,none⟩),.string ⟨t.toArray⟩] w fun e w'=>IsE s a t e∧RdAt w' b s a gr mn rf bd∧KeepT (fun _=>False) w w':=by
 refine(refIsQ t w h ha hs ht).mono ?_;rintro e w' ⟨rfl,n,rfl⟩;exact⟨⟨_,rfl,isB_le,rfl⟩,h.drewN n,(KeepT.refl _ _).drewN n⟩
open Go Go.Proofs Go.RowKit Go.Ink
theorem adrDelimited (s:List UInt8)(a:Nat)(by_:UInt8)(w:World)(hs:s.length≤1000000)(ha:a≤1000000):
 Calls Tryz.prog 99 #[.string ⟨s.toArray⟩,.int .i64 (a:Int),.int .u8 (by_.toNat:Int)] w fun e w'=>DelE s a e∧Below w.heap.size w w':=by
 have hsz:=size_mk s;go_enter Tryz.func99,Tryz.ntmps99;go_upto_region 2 with fail;generalize hwA:w.alloc _=wA;have HBd:=Zh (show Bdr wA w.heap.size w.heap.size [] from hwA▸bdr_new);have HB:=Zh (show Below w.heap.size w wA from hwA▸Zab w _);clear hwA;have hmx:max (a:Int) 0=(a:Int):=by omega
 go_wp2_with fail
 try rw [hmx]
 go_loopw [10] (fun iv wr=>∃(o:List UInt8) (i:Nat),iv= .int .i64 (i:Int)∧a≤i∧o.length≤i - a∧o.length≤s.length∧i≤1000000∧Hid (i≤a∨i≤s.length)∧Hid (Bdr wr w.heap.size w.heap.size o)∧Hid (Below w.heap.size w wr)) (fun iv _=>1000000 - (intOf iv).toNat)
 case atStart=>exact⟨[],a,rfl,Nat.le_refl _,by simp,by simp,ha,Zh (.inl (Nat.le_refl _)),HBd,HB⟩
 case round=>
  clear HBd HB;obtain⟨o,i,rfl,hai,hol,hos,hi6,HI,HBd,HB⟩:=hrel;have hbs:=HB.out.size
  by_cases hlt:i < s.length
  ·have hki:(i:Int) < (s.length:Int):=by omega
   obtain⟨c,hkc⟩:∃c,s[i]? =some c:=⟨_,Zg hlt⟩;have hby:=Zak hkc;obtain⟨hz0,hz1,hz2,hz3⟩:=Zew i s.length hlt;have HF1:=Zh (show a≤i+1∧(i+1≤a∨i+1≤s.length) from⟨by omega,.inr (by omega)⟩);clear hkc
   by_cases hcb:(c.toNat:Int)=(by_.toNat:Int)
   ·have hdb:((c.toNat:Int)==(by_.toNat:Int))=true:=Zt hcb
    clear hcb;go_wp2_with fail;refine(Tryz.Builder_String_any_k _ _ _ _ (Lib.IsBuilderF.of HBd.out) hbs).mono ?_;rintro e w7 ⟨rfl,_,hb7,_⟩;have HB7:=Zh (HB.out.trans hb7);clear hb7;go_wp2_with fail;go_returns;exact⟨⟨o,i+1,true,by simp,hos,HF1.out.1,HF1.out.2⟩,HB7.out⟩
   ·have hdb:((c.toNat:Int)==(by_.toNat:Int))=false:=Zf hcb
    have HWC:=Zh (writeByte_any _ _ o c _ HBd.out (by omega) hbs)
    by_cases h92:(c.toNat:Int)=92
    ·have h92b:((c.toNat:Int)==92)=true:=Zt h92
     clear h92
     by_cases hl2:i+1 < s.length
     ·obtain⟨d,hkd⟩:∃d,s[i+1]? =some d:=⟨_,Zg hl2⟩
      have hby2:=Zak hkd;obtain⟨hy0,hy1,hy2,hy3,hy4⟩:=idx_two i s.length hl2;clear hkd
      by_cases hdc:(d.toNat:Int)=(by_.toNat:Int)
      ·have hdcb:((d.toNat:Int)==(by_.toNat:Int))=true:=Zt hdc
       have HWD:=Zh (writeByte_any _ _ o by_ _ HBd.out (by omega) hbs);clear hdc;go_wp2_with fail;refine HWD.out.mono ?_;rintro e w3 ⟨rfl,hbd3,hb3⟩;have HBd3:=Zh hbd3;have HB3:=Zh (HB.out.trans hb3);clear hbd3 hb3 HWD HWC;go_wp2_with fail;go_roundw
       case rel=>exact⟨o++[by_],i+2,by go_num,by omega,by simp;omega,by simp;omega,by omega,Zh (.inr (by omega)),HBd3,HB3⟩
       case measure=>simp [intOf] <;> omega
      ·have hdcb:((d.toNat:Int)==(by_.toNat:Int))=false:=Zf hdc
       have hex:(⟨s.toArray⟩:ByteArray).extract i (i+2)=⟨((s.drop i).take 2).toArray⟩:=extr_takeP s i 2;obtain⟨t,ht⟩:∃t,(s.drop i).take 2=t:=⟨_,rfl⟩;have htl:t.length≤2:=by rw [← ht,List.length_take];omega
       rw [ht]at hex;have htz:=size_mk t;have HWD:=Zh (writeString_any _ _ o ⟨t.toArray⟩ _ HBd.out (by rw [htz];omega) hbs);clear ht;go_wp2_with fail;refine HWD.out.mono ?_;rintro e w3 ⟨rfl,hbd3,hb3⟩;have HBd3:=Zh (show Bdr w3 w.heap.size w.heap.size (o++t) by simpa using hbd3);have HB3:=Zh (HB.out.trans hb3);clear hbd3 hb3 HWD HWC;go_wp2_with fail;go_roundw
       case rel=>exact⟨o++t,i+2,by go_num,by omega,by simp;omega,by simp;omega,by omega,Zh (.inr (by omega)),HBd3,HB3⟩
       case measure=>simp [intOf] <;> omega
     ·have hl2i:¬(i:Int)+1 < (s.length:Int):=by omega
      go_wp2_with fail;refine HWC.out.mono ?_;rintro e w3 ⟨rfl,hbd3,hb3⟩;have HBd3:=Zh hbd3;have HB3:=Zh (HB.out.trans hb3);clear hbd3 hb3 HWC;go_wp2_with fail;go_roundw
      case rel=>exact⟨o++[c],i+1,by go_num,by omega,by simp;omega,by simp;omega,by omega,Zh (.inr (by omega)),HBd3,HB3⟩
      case measure=>simp [intOf] <;> omega
    ·have h92b:((c.toNat:Int)==92)=false:=Zf h92
     go_wp2_with fail;refine HWC.out.mono ?_;rintro e w3 ⟨rfl,hbd3,hb3⟩;have HBd3:=Zh hbd3;have HB3:=Zh (HB.out.trans hb3);clear hbd3 hb3 HWC;go_wp2_with fail;go_roundw
     case rel=>exact⟨o++[c],i+1,by go_num,by omega,by simp;omega,by simp;omega,by omega,Zh (.inr (by omega)),HBd3,HB3⟩
     case measure=>simp [intOf] <;> omega
  ·have hki:¬(i:Int) < (s.length:Int):=by omega
   go_wp2_with fail;refine(Tryz.Builder_String_any_k _ _ _ _ (Lib.IsBuilderF.of HBd.out) hbs).mono ?_;rintro e w7 ⟨rfl,_,hb7,_⟩;have HB7:=Zh (HB.out.trans hb7);clear hb7;go_wp2_with fail
   try rw [max_if]
   go_returns;exact⟨⟨o,max s.length a,false,by simp,hos,by omega,by omega⟩,HB7.out⟩
open Go Go.Proofs Go.RowKit Go.Ink Go.Sort
def knownL:List (List UInt8):=[[108,111,119,101,114],[117,112,112,101,114],[97,108,112,104,97],[100,105,103,105,116],[97,108,110,117,109],[120,100,105,103,105,116],[115,112,97,99,101],[98,108,97,110,107],[99,110,116,114,108],[103,114,97,112,104],[112,114,105,110,116],[112,117,110,99,116]]
def known (name:List UInt8):Bool:=knownL.any fun x=>name==x
def TwoB (name:List UInt8)(e:Ending):Prop:=∃a:Bool,e= .returned (.tuple #[.bool a,.bool (known name)])
theorem TwoB.mk {name:List UInt8}(a b:Bool)(h:known name=b):TwoB name (.returned (.tuple #[.bool a,.bool b])):=⟨a,by rw [h]⟩
theorem refClassIn (name:List UInt8)(c:UInt8)(w:World)(hs:name.length≤100000):
 Calls Tryz.prog 272 #[.string ⟨name.toArray⟩,.int .u8 (c.toNat:Int)] w fun e w'=>TwoB name e∧w'=w:=by
 have hsz:=size_mk name;go_enter Tryz.func272,Tryz.ntmps272;go_upto_region 1 with fail
 go_cut [6,7,8] from 10 to 28 (fun v1 v2 v3 wx=>IsBo v1∧IsBo v2∧IsBo v3∧wx=w)
 case first=>
  have hiv:(c.toNat:Int) < 48∨(48≤(c.toNat:Int)∧(c.toNat:Int)≤57)∨(57 < (c.toNat:Int)∧(c.toNat:Int) < 65)∨(65≤(c.toNat:Int)∧(c.toNat:Int)≤90)∨(90 < (c.toNat:Int)∧(c.toNat:Int) < 97)∨(97≤(c.toNat:Int)∧(c.toNat:Int)≤122)∨122 < (c.toNat:Int):=by omega
  rcases hiv with h | h | h | h | h | h | h
  all_goals(
   have k1:((97:Int)≤(c.toNat:Int))∨¬((97:Int)≤(c.toNat:Int)):=Decidable.em _;clear k1
   first | (have k1:(97:Int)≤(c.toNat:Int):=by omega) | (have k1:¬(97:Int)≤(c.toNat:Int):=by omega)
   first | (have k2:(c.toNat:Int)≤122:=by omega) | (have k2:¬(c.toNat:Int)≤122:=by omega)
   first | (have k3:(65:Int)≤(c.toNat:Int):=by omega) | (have k3:¬(65:Int)≤(c.toNat:Int):=by omega)
   first | (have k4:(c.toNat:Int)≤90:=by omega) | (have k4:¬(c.toNat:Int)≤90:=by omega)
   first | (have k5:(48:Int)≤(c.toNat:Int):=by omega) | (have k5:¬(48:Int)≤(c.toNat:Int):=by omega)
   first | (have k6:(c.toNat:Int)≤57:=by omega) | (have k6:¬(c.toNat:Int)≤57:=by omega)
   clear h;go_wp2_with fail;go_meet
   case rel=>exact⟨⟨_,rfl⟩,⟨_,rfl⟩,⟨_,rfl⟩,rfl⟩)
 case rest=>
  obtain⟨⟨b1,rfl⟩,⟨b2,rfl⟩,⟨b3,rfl⟩,hw⟩:=hcut;subst hw;go_upto_region 2 with fail
  go_cut [9] from 28 to 34 (fun v wx=>IsBo v∧wx=wc)
  case first=>
   by_cases h33:(33:Int)≤(c.toNat:Int)
   case neg=>
    go_wp2_with fail;go_meet
    case rel=>exact⟨⟨_,rfl⟩,rfl⟩
   by_cases h126:(c.toNat:Int)≤126
   case neg=>
    go_wp2_with fail;go_meet
    case rel=>exact⟨⟨_,rfl⟩,rfl⟩
   go_wp2_with fail;go_meet
   case rel=>exact⟨⟨_,rfl⟩,rfl⟩
  case rest=>
   obtain⟨⟨b4,rfl⟩,hw⟩:=hcut;subst hw
   by_cases n0:name=[108,111,119,101,114]
   case pos=>
    subst n0;cases b1 <;> (go_wp2_with fail;all_goals(go_returns;exact⟨.mk _ _ (by decide),rfl⟩))
   have n0b:(name==[108,111,119,101,114])=false:=Zf n0
   by_cases n1:name=[117,112,112,101,114]
   case pos=>
    subst n1;cases b2 <;> (go_wp2_with fail;all_goals(go_returns;exact⟨.mk _ _ (by decide),rfl⟩))
   have n1b:(name==[117,112,112,101,114])=false:=Zf n1
   by_cases n2:name=[97,108,112,104,97]
   case pos=>
    subst n2;cases b1 <;> cases b2 <;> (go_wp2_with fail;all_goals(go_returns;exact⟨.mk _ _ (by decide),rfl⟩))
   have n2b:(name==[97,108,112,104,97])=false:=Zf n2
   by_cases n3:name=[100,105,103,105,116]
   case pos=>
    subst n3;cases b3 <;> (go_wp2_with fail;all_goals(go_returns;exact⟨.mk _ _ (by decide),rfl⟩))
   have n3b:(name==[100,105,103,105,116])=false:=Zf n3
   by_cases n4:name=[97,108,110,117,109]
   case pos=>
    subst n4;cases b1 <;> cases b2 <;> cases b3 <;> (go_wp2_with fail;all_goals(go_returns;exact⟨.mk _ _ (by decide),rfl⟩))
   have n4b:(name==[97,108,110,117,109])=false:=Zf n4
   by_cases n5:name=[120,100,105,103,105,116]
   case pos=>
    subst n5;cases b3 <;> (go_wp2_with fail;all_goals(go_returns;exact⟨.mk _ _ (by decide),rfl⟩))
   have n5b:(name==[120,100,105,103,105,116])=false:=Zf n5
   by_cases n6:name=[115,112,97,99,101]
   case pos=>
    subst n6
    (go_wp2_with fail;all_goals(go_returns;exact⟨.mk _ _ (by decide),rfl⟩))
   have n6b:(name==[115,112,97,99,101])=false:=Zf n6
   by_cases n7:name=[98,108,97,110,107]
   case pos=>
    subst n7
    (go_wp2_with fail;all_goals(go_returns;exact⟨.mk _ _ (by decide),rfl⟩))
   have n7b:(name==[98,108,97,110,107])=false:=Zf n7
   by_cases n8:name=[99,110,116,114,108]
   case pos=>
    subst n8
    (go_wp2_with fail;all_goals(go_returns;exact⟨.mk _ _ (by decide),rfl⟩))
   have n8b:(name==[99,110,116,114,108])=false:=Zf n8
   by_cases n9:name=[103,114,97,112,104]
   case pos=>
    subst n9;cases b4 <;> (go_wp2_with fail;all_goals(go_returns;exact⟨.mk _ _ (by decide),rfl⟩))
   have n9b:(name==[103,114,97,112,104])=false:=Zf n9
   by_cases n10:name=[112,114,105,110,116]
   case pos=>
    subst n10;cases b4 <;> (go_wp2_with fail;all_goals(go_returns;exact⟨.mk _ _ (by decide),rfl⟩))
   have n10b:(name==[112,114,105,110,116])=false:=Zf n10
   by_cases n11:name=[112,117,110,99,116]
   case pos=>
    subst n11;cases b4 <;> cases b1 <;> cases b2 <;> cases b3 <;> (go_wp2_with fail;all_goals(go_returns;exact⟨.mk _ _ (by decide),rfl⟩))
   have n11b:(name==[112,117,110,99,116])=false:=Zf n11;have HKN:=Zh (show known name=false from by
    unfold known knownL;simp only [List.any_cons,List.any_nil,n0b,n1b,n2b,n3b,n4b,n5b,n6b,n7b,n8b,n9b,n10b,n11b,Bool.or_self])
   go_wp2_with fail;go_returns;exact⟨.mk _ _ HKN.out,rfl⟩
open Go Go.Proofs Go.RowKit Go.Ink Go.Sort
def SetC (cs:Array Value):Prop:=cs.size=256∧∀j,j < 256→∃v:Bool,cs[j]? =some (.bool v)
theorem SetC.set {cs:Array Value}(h:SetC cs)(j:Nat)(v:Bool):SetC (cs.setIfInBounds j (.bool v)):=by
 refine⟨by simp [h.1],fun i hi=>?_⟩;rw [Array.getElem?_setIfInBounds]
 split
 ·rename_i e
  subst e;rw [if_pos (by rw [h.1];exact hi)];exact⟨v,rfl⟩
 ·exact h.2 i hi
theorem SetC.one {cs:Array Value}(h:SetC cs):cs.all (·.oneCell')=true:=by
 rw [Array.all_eq_true];intro i hi;obtain⟨v,hv⟩:=h.2 i (by rw [← h.1];exact hi);rw [Array.getElem?_eq_getElem hi]at hv;simp only [Option.some.injEq]at hv;rw [hv]
 rfl
theorem Zcp:(Tryz.prog.info? 148).map (·.size)=some 256:=by kernel_rfl
noncomputable def zset:Array Value:=Tryz.zeroCells148
theorem Zca:SetC zset:=by
 have hz:zset=(List.replicate 256 (Value.bool false)).toArray:=by kernel_rfl
 rw [hz];refine⟨by rw [List.size_toArray,List.length_replicate],fun j hj=>⟨false,by rw [List.getElem?_toArray,List.getElem?_replicate,if_pos hj]⟩⟩
def ClsE (name:List UInt8)(e:Ending):Prop:=∃cs:Array Value,e= .returned (.tuple #[.agg cs,.bool (known name)])∧SetC cs
theorem refClass (name:List UInt8)(w:World)(hs:name.length≤100000):
 Calls Tryz.prog 246 #[.string ⟨name.toArray⟩] w fun e w'=>ClsE name e∧Below w.heap.size w w':=by
 have HIN:=Zh (fun(X:World) (c:UInt8)=>refClassIn name c X hs);go_enter Tryz.func246,Tryz.ntmps246;go_upto_region 2 with fail;generalize hwA:(w.alloc _).alloc _=wA;have HZ:=Zh (show wA.heap[w.heap.size]? =some (.cells zset 148 (0,0)) from hwA▸heap_alloc2_old _ _ _);have HS:=Zh (show wA.heap[w.heap.size+1]? =some (.cells zset 148 (0,0)) from hwA▸heap_alloc2_new _ _ _);have HB:=Zh (show Below w.heap.size w wA from hwA▸(Zab w _).trans ((Zab _ _).mono (Zab w _).size));have HI0:=Zh (show Calls Tryz.prog 272 #[.string ⟨name.toArray⟩,.int .u8 0] wA fun e w'=>TwoB name e∧w'=wA from HIN.out wA 0);clear hwA;go_wp2_with fail;refine HI0.out.mono ?_;rintro e w1 ⟨⟨b1,rfl⟩,rfl⟩;obtain⟨b2,hb2⟩:∃b2,known name=b2:=⟨_,rfl⟩;have HB2K:=Zh hb2;rw [hb2];clear hb2;go_wp2_with fail
 go_loopw [7] (fun kv wr=>∃k:Nat,kv= .int .i64 (k:Int)∧k≤256∧Hid (∃cs,wr.heap[w.heap.size+1]? =some (.cells cs 148 (0,0))∧SetC cs)∧Hid (wr.heap[w.heap.size]? =some (.cells zset 148 (0,0))∧Below w.heap.size w wr)) (fun kv _=>256 - (intOf kv).toNat)
 case atStart=>exact⟨0,rfl,by omega,Zh ⟨_,HS.out,Zca⟩,Zh ⟨HZ.out,HB.out⟩⟩
 case round=>
  obtain⟨k,rfl,hk,HX,HY⟩:=hrel;obtain⟨cs,hcs,hok⟩:=HX.out;have HCS:=Zh hcs;have HOK:=Zh hok;clear hcs hok HX
  by_cases hlt:k < 256
  case neg=>
   have hki:¬(k:Int) < 256:=by omega
   have HSZ:=Zh (show(Tryz.prog.info? 148).map (·.size)=some cs.size by rw [HOK.out.1];exact Zcp);have HOZ:=Zh (show zset.size=cs.size by rw [HOK.out.1,Zca.1]);have HON:=Zh HOK.out.one
   go_wp2_with (first
    | (refine wpList_load_row rfl 148 _ (by with_reducible rfl) (w.heap.size+1) rfl 148 cs (0,0) _ HCS.out Tryz.underlying148 rfl HSZ.out ?_)
    | (refine wpList_store_row rfl 148 _ _ (by with_reducible rfl) w.heap.size cs rfl rfl 148 zset HY.out.1 HSZ.out HOZ.out HON.out ?_))
   refine bodyPost_ret (v:= .tuple #[.agg cs,.bool b2]) (Zag (p:=2) (q:=3) (by kernel_rfl) _ _ w.heap.size 148 cs (0,0) _ _ rfl rfl (setRow_heap _ _ _ _ _ _ HY.out.1) Tryz.underlying148 rfl HSZ.out) rfl ?_;exact⟨⟨cs,by rw [HB2K.out],HOK.out⟩,Zah HY.out.2 (Nat.le_refl _) _⟩
  have hki:(k:Int) < 256:=by omega
  have hkw:IntKind.u8.wrap (k:Int)=(k:Int):=by rw [IntKind.wrap_u8];omega
  have hk8:(((UInt8.ofNat k).toNat:Nat):Int)=(k:Int):=by rw [UInt8.toNat_ofNat'];omega
  have HIK:=Zh (HIN.out wr (UInt8.ofNat k));rw [hk8]at HIK;clear hk8;go_wp2_with fail;refine HIK.out.mono ?_;rintro e w2 ⟨⟨c1,rfl⟩,rfl⟩;obtain⟨v0,hv0⟩:=HOK.out.2 k hlt;have u0:w2.cell? ⟨w.heap.size+1,k,none⟩=some (.bool v0):=by rw [Lib.cell_of_heap HCS.out];exact hv0
  have g0:w2.frozen? ⟨w.heap.size+1,k,none⟩=false:=Lib.frozen_of_heap HCS.out k;have HC2:=Zh (Zay (j:=k) HCS.out (.bool c1));have HY2:=Zh (show(w2.setCell ⟨w.heap.size+1,k,none⟩ (.bool c1)).heap[w.heap.size]? =some (.cells zset 148 (0,0)) from(Below.heap_setCell _ _ _ _ (show w.heap.size≠w.heap.size+1 by omega)).trans HY.out.1);have HB2:=Zh (HY.out.2.setCell (p:=⟨w.heap.size+1,k,none⟩) (Nat.le_succ _) (.bool c1));clear hv0 hkw;go_wp2_with fail;go_roundw
  case rel=>exact⟨k+1,by go_num,by omega,Zh ⟨_,HC2.out,HOK.out.set k c1⟩,Zh ⟨HY2.out,HB2.out⟩⟩
  case measure=>simp [intOf] <;> omega
end Go.Proofs.YtndjgbehbgcpkaaGreatDoor
namespace Go.Fil
open Go
def put (cells:Array Value)(off:Nat)(vs:Array Value):Array Value:=vs.zipIdx.foldl (fun cs (x:Value×Nat)=>cs.setIfInBounds (off+x.2) x.1) cells
theorem putL_size (off:Nat):∀(l:List (Value×Nat)) (cells:Array Value),(l.foldl (fun cs (x:Value×Nat)=>cs.setIfInBounds (off+x.2) x.1) cells).size=cells.size
 | [],_=>rfl
 | x::l,cells=>by rw [List.foldl_cons,putL_size off l];simp
theorem put_list (cells:Array Value)(off:Nat)(vs:Array Value):put cells off vs=(vs.toList.zipIdx.foldl (fun cs (x:Value×Nat)=>cs.setIfInBounds (off+x.2) x.1) cells):=by
 unfold put;rw [← Array.foldl_toList];simp
theorem put_size (cells:Array Value)(off:Nat)(vs:Array Value):(put cells off vs).size=cells.size:=by rw [put_list,putL_size]
theorem putL_get (off:Nat):∀(l:List Value) (s:Nat) (cells:Array Value) (j:Nat),off+s+l.length≤cells.size→
 ((l.zipIdx s).foldl (fun cs (x:Value×Nat)=>cs.setIfInBounds (off+x.2) x.1) cells)[j]? =if off+s≤j∧j < off+s+l.length then l[j - (off+s)]? else cells[j]?
 | [],s,cells,j,_=>by
   have hn:¬(off+s≤j∧j < off+s+([]:List Value).length):=by
    simp only [List.length_nil];omega
   rw [if_neg hn]
   rfl
 | v::l,s,cells,j,h=>by
   have hl:(v::l).length=l.length+1:=rfl;rw [List.zipIdx_cons,List.foldl_cons,putL_get off l (s+1) _ j (by simp;omega)]
   by_cases h1:off+(s+1)≤j∧j < off+(s+1)+l.length
   ·rw [if_pos h1,if_pos (by omega),show j - (off+s)=(j - (off+(s+1)))+1 by omega,List.getElem?_cons_succ]
   ·rw [if_neg h1]
    by_cases h2:j=off+s
    ·subst h2
     rw [if_pos (by omega),Nat.sub_self,List.getElem?_cons_zero,Array.getElem?_setIfInBounds,if_pos rfl,if_pos (by omega)]
    ·rw [if_neg (by omega),Array.getElem?_setIfInBounds_ne (by omega)]
theorem put_get (cells:Array Value)(off:Nat)(vs:Array Value)(j:Nat)(h:off+vs.size≤cells.size):
 (put cells off vs)[j]? =if off≤j∧j < off+vs.size then vs[j - off]? else cells[j]?:=by
 rw [put_list,putL_get off vs.toList 0 cells j (by simpa using h)];simp
theorem put_all (cells:Array Value)(off:Nat)(vs:Array Value)(h:off+vs.size≤cells.size)(h1:cells.all (·.oneCell')=true)(h2:vs.all (·.oneCell')=true):(put cells off vs).all (·.oneCell')=true:=by
 rw [Array.all_eq_true];intro i hi;have hg:=put_get cells off vs i h;rw [Array.getElem?_eq_getElem hi]at hg
 by_cases hc:off≤i∧i < off+vs.size
 ·rw [if_pos hc]at hg
  have:=Array.all_eq_true_iff_forall_mem.1 h2 _ (Array.mem_of_getElem? hg.symm);exact this
 ·rw [if_neg hc]at hg
  exact Array.all_eq_true_iff_forall_mem.1 h1 _ (Array.mem_of_getElem? hg.symm)
theorem put_whole (cells vs:Array Value)(h:cells.size=vs.size):put cells 0 vs=vs:=by
 apply Array.ext_getElem?
 intro j;rw [put_get cells 0 vs j (by omega)]
 by_cases hj:j < vs.size
 ·rw [if_pos (by omega),Nat.sub_zero]
 ·rw [if_neg (by omega),Array.getElem?_eq_none (by omega),Array.getElem?_eq_none (by omega)]
theorem fill_cons {place:Nat→Option (Nat×Nat)}{cells:Array Value}{i off size:Nat}{v:Value}{rest:List (Nat×Value)}(hp:place i=some (off,size))(hv:v.cells.size=size)(ho:off+size≤cells.size):
 Instr.fill place cells ((i,v)::rest)=Instr.fill place (put cells off v.cells) rest:=by
 have hn:¬((v.cells.size≠size || decide (off+v.cells.size > cells.size))=true):=by
  rw [hv];simp;omega
 show(match place i with
  | none=>none
  | some (off,size)=>if (v.cells.size≠size || decide (off+v.cells.size > cells.size))=true then none else Instr.fill place (v.cells.zipIdx.foldl (fun cs (c,j)=>cs.setIfInBounds (off+j) c) cells) rest)=_
 rw [hp];simp only;rw [if_neg hn]
 rfl
theorem fill_row {n:Nat}(z nc:Array Value)(hn:nc.size=n)(hz:z.size=n):
 Instr.fill (fun i=>some (i * n,n)) z [(0,.agg nc)]=some nc:=by
 rw [fill_cons (off:=0) (size:=n) (by simp) (by exact hn) (by omega)]
 show some (put z 0 nc)=_
 rw [put_whole _ _ (by omega)]
theorem wpList_row_one {P:Program}{ops:Array Oper}{rest:List Oper}{o:Oper}{a:Act}{w:World}{Q:Exit→Act→World→Prop}(hg:o.guard=none)(t e:TypeId)(x:Operand)(ho:o.op= .buildSlice t 1 #[(0,x)])
 (nc:Array Value) (hx:a.eval x= .agg nc) (ie:TypeInfo) (z:Value) (hu:P.underlying t=some (.slice e)) (hie:P.info? e=some ie) (hz:ie.zero=some z) (hs:nc.size=ie.size) (hsmall:ie.size≤1000000) (hpos:0 < ie.size)
 (h:wpList P ops Q rest (a.put o.dst (.slice (some ⟨w.heap.size,0,none⟩) 1 1)) (w.alloc (.cells nc e))):wpList P ops Q (o::rest) a w:=by
 refine wpList_buildSlice hg t e 1 #[(0,x)] ho nc ie z hu hie hz (by omega) (by omega) ?_ h;have e:(Array.map (fun(y:Nat×Operand)=>match y with | (i,x)=>(i,a.eval x)) #[(0,x)]).toList=[(0,a.eval x)]:=by simp
 rw [e,hx];exact fill_row _ _ hs (by simp)
theorem yieldsIf_load_row {P:Program}{ops:Array Oper}{S:World→Prop}{op:Oper}{a:Act}(hw:Region.wanted op (yielded ops a.tmps)=true)(ty:TypeId)(x:Operand)(ho:op.op= .load ty x)
 (g:Nat) (hx:a.eval x= .pointer (some ⟨g,0,none⟩)) (t:TypeId) (cs:Array Value) (fr:Nat×Nat) (d:TypeDesc) (hS:∀w,S w→w.heap[g]? =some (.cells cs t fr))
 (hu:P.underlying ty=some d) (hd:(match d with | .struct _ | .array _ _=>true | _=>false)=true) (hi:(P.info? ty).map (·.size)=some cs.size):YieldsIf P ops S op (.agg cs) a:=
 .inl ⟨hw,fun w hw'=>by
  unfold execOp;simp only [ho,hx,Instr.loadAt,Instr.sureAddr,Sem.run_bind,Sem.run_pure,Result.andThen_ok,run_loadVar_row w g t ty cs fr d (hS w hw') hu hd hi]⟩
theorem yieldsIf_build {P:Program}{ops:Array Oper}{S:World→Prop}{op:Oper}{a:Act}(hw:Region.wanted op (yielded ops a.tmps)=true)(ty:TypeId)(parts:Array (Nat×Operand))(ho:op.op= .build ty parts)
 (vs:List (Nat×Value)) (hv:(parts.map fun(i,x)=>(i,a.eval x)).toList=vs) (cs:Array Value) (hb:P.built ty vs=some cs):YieldsIf P ops S op (.agg cs) a:=
 .inl ⟨hw,fun w _=>by
  unfold execOp;simp only [ho,Sem.run_bind,run_build w ty (parts.map fun(i,x)=>(i,a.eval x)) cs (hv▸hb),Result.andThen_ok,Sem.run_pure]⟩
end Go.Fil
