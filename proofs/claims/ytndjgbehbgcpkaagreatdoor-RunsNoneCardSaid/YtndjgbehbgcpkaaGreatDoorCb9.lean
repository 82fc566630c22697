/- The program's reader of command lines: a substitution. Printed by gcb9.py. -/
import Derived.Test.YtndjgbehbgcpkaaGreatDoorCb4
set_option linter.unusedVariables false
set_option linter.unusedSimpArgs false
set_option maxRecDepth 100000
set_option maxHeartbeats 4000000
namespace Go.Proofs.YtndjgbehbgcpkaaGreatDoor
open Go Go.Proofs Go.RowKit Go.Ink Go.Sort
def TplP:Prop:=∀(s:List UInt8) (w:World),s.length≤100000→Calls Tryz.prog 100 #[.string ⟨s.toArray⟩] w fun e w'=>(∃(v:Value) (er:Int),e= .returned (.tuple #[v,.int .i64 er])∧TplV w' w.heap.size v)∧Below w.heap.size w w'
theorem reE_groups {w:World}{e:Ending}{w':World}(h:ReE w e w'):∃(v:Value) (er:Int),e= .returned (.tuple #[v,.int .i64 er])∧(v= .pointer none∨∃b lo l,v= .pointer (some ⟨b,1,none⟩)∧ReAtb w' lo b l):=by
 rcases h with h | ⟨b,l,h,h2,_⟩
 ·exact⟨_,_,h,.inl rfl⟩
 ·exact⟨_,_,h,.inr ⟨b,_,l,rfl,h2⟩⟩
theorem TplV.later {w w':World}{B:Nat}{v:Value}(h:TplV w B v)(hb:Below w.heap.size w w'):TplV w' B v:=by
 rcases h with rfl | ⟨g,lv,n,rfl,hg,ho,hn⟩
 ·exact .inl rfl
 ·exact .inr ⟨g,lv,n,rfl,(hb.block g (Zaa hg)).trans hg,ho.later hb,hn⟩
theorem cmdSubstitute (HTP:TplP)(b:Nat)(c:Cm)(hc:CmOk c)(s:List UInt8)(w:World)(hs:s.length≤100000)(hx:MaxW w)(hb:CmAt w b c):
 Calls Tryz.prog 61 #[.pointer (some ⟨b,0,none⟩),.string ⟨s.toArray⟩] w fun e w'=>CmdT w b c e w':=by
 have hsz:=size_mk s;have HPT:=Zh (cmdPattern s w hs hx);have HAT:=Zh hb;have HMX:=Zh hx;clear hx hb;go_enter Tryz.func61,Tryz.ntmps61;go_wp2_with fail;refine HPT.out.mono ?_;rintro e w1 ⟨⟨re,rest,cl,er,rfl,hre,hrs,hne⟩,hb1⟩;have HA1:=Zh (HAT.out.later hb1);have HB1:=Zh hb1;have HM1:=Zh (HMX.out.later hb1);have HK1:=Zh (show KeepT (fun j=>j=b) w w1 from KeepT.of_below hb1);clear hb1 HPT
 by_cases her:er=0
 case neg=>
  have herb:(er !=0)=true:=bne_iff_ne.2 her;clear her hne;go_wp2_with fail;go_returns;exact .same er HA1.out hc HK1.out
 subst her;cases cl
 case false=>
  clear hne;go_wp2_with fail;go_returns;exact .same 90 HA1.out hc HK1.out
 have hl0:=hne rfl;clear hne;have hl0i:(0:Int) < (s.length:Int):=by omega
 obtain⟨d,hkd⟩:∃d,s[0]? =some d:=⟨_,Zg hl0⟩;have hby:=Zak hkd;have HDL:=Zh (show Calls Tryz.prog 99 #[.string ⟨rest.toArray⟩,.int .i64 0,.int .u8 (d.toNat:Int)] w1 fun e w'=>DelE rest 0 e∧Below w1.heap.size w1 w' from adrDelimited rest 0 d w1 (by omega) (by omega));have hrz:=size_mk rest;have HRE:=Zh (show re.length≤1000000 by omega);have HRX:=Zh (show re.length≤100000 by omega);clear hkd;go_wp2_with fail;refine HDL.out.mono ?_;rintro e w2 ⟨⟨o,n,cl2,rfl,ho,-,hn2⟩,hb2⟩;have hni:(n:Int)≤(rest.length:Int):=by omega
 have he1:=Zcb rest n;obtain⟨q,hq⟩:∃q,rest.drop n=q:=⟨_,rfl⟩;have HQ:=Zh (show q.length≤100000 by rw [← hq,List.length_drop];omega);rw [hq]at he1;have HB2:=Zh (HB1.out.trans (hb2.mono HB1.out.size));have HTT:=Zh (HTP o w2 (by omega));clear hq hn2 hb2 HDL;go_wp2_with fail;refine HTT.out.mono ?_;rintro e w3 ⟨⟨v,er2,rfl,htv⟩,hb3⟩;have HTV:=Zh htv;have HB3:=Zh (HB2.out.trans (hb3.mono HB2.out.size));clear htv hb3 HTT
 by_cases her2:er2=0
 case neg=>
  have herb2:(er2 !=0)=true:=bne_iff_ne.2 her2;clear her2;go_wp2_with fail;go_returns;exact .same er2 (HAT.out.later HB3.out) hc (KeepT.of_below HB3.out)
 subst her2
 by_cases hr0:re=[]
 case pos=>
  subst hr0;have HA:=Zh (HAT.out.later HB3.out);have HK:=Zh (show KeepT (fun j=>j=b) w w3 from KeepT.of_below HB3.out);obtain⟨re,hre0⟩:∃re:List UInt8,[]=re:=⟨_,rfl⟩;subst hre0;have u8:=HA.out.cel 8 (u:= .string ⟨c.re.toArray⟩) rfl;have g8:=HA.out.fz 8;have s8:=HA.out.setN 8 (.string ⟨#[]⟩) { c with re:=[] } rfl;have u9:=s8.cel 9 (u:= .string ⟨c.rp.toArray⟩) rfl;have g9:=s8.fz 9;have s9:=s8.setN 9 (.string ⟨o.toArray⟩) { c with re:=[],rp:=o } rfl;have u11:=s9.cel 11 (u:= .int .i64 c.nth) rfl;have g11:=s9.fz 11;have s11:=s9.setN 11 (.int .i64 1) { c with re:=[],rp:=o,nth:=1 } rfl;have u14:=s11.cel 14 (u:= .int .u8 c.pr) rfl;have g14:=s11.fz 14;have HS:=Zh s11;have HZ:=Zh (s11.setN 14 (.int .u8 112) { c with re:=[],rp:=o,nth:=1,pr:=112 } rfl);have HK2:=Zh (((HK.out.setCell (p:=⟨b,8,none⟩) (.inl rfl) (.string ⟨#[]⟩)).setCell (p:=⟨b,9,none⟩) (.inl rfl) (.string ⟨o.toArray⟩)).setCell (p:=⟨b,11,none⟩) (.inl rfl) (.int .i64 1));have HKZ:=Zh (HK2.out.setCell (p:=⟨b,14,none⟩) (.inl rfl) (.int .u8 112));have HFL:=Zh (cmdFlags b { c with re:=[],rp:=o,nth:=1 } ⟨hc.lv,hc.sv,hc.dre,HRE.out,hc.sub⟩ q _ HQ.out s11);clear s8 s9 s11;cases cl2
  case false=>
   go_wp2_with fail;go_returns;exact⟨0,_,rfl,HZ.out,rfl,rfl,⟨hc.lv,hc.sv,hc.dre,HRE.out,hc.sub⟩,HKZ.out⟩
  go_wp2_with fail;refine HFL.out.mono ?_;rintro e w9 ⟨er,c',rfl,h1,h2,h3,h4,h5⟩;have HR:=Zh (show CmdT w b c (.returned (.int .i64 er)) w9 from⟨er,c',rfl,h1,h2,h3,h4,HK2.out.trans h5 (fun _ _ e=>e)⟩);clear h1 h2 h3 h4 h5;go_wp2_with fail;go_returns;exact HR.out
 have hreb:re.isEmpty=false:=by cases re with | nil=>exact absurd rfl hr0 | cons _ _=>rfl
 have hred:(re==[])=false:=Zf hr0;have hren:(re !=[])=true:=bne_iff_ne.2 hr0;have HBP:=Zh (breParse clsParse re w3 HRX.out (HMX.out.later HB3.out));go_wp2_with fail;refine HBP.out.mono ?_;rintro e w4 ⟨hre4,hb4⟩;obtain⟨v2,er3,rfl,hgv⟩:=reE_groups hre4;have HMO:=Zh (tplMost w4 (HTV.out.later hb4));have HGR:=Zh (breGroups v2 w4 hgv);have HB4:=Zh (HB3.out.trans (hb4.mono HB3.out.size));have HA:=Zh (HAT.out.later HB4.out);have HK:=Zh (show KeepT (fun j=>j=b) w w4 from KeepT.of_below HB4.out);clear hre4 hb4 hgv HBP;go_wp2_with fail;refine HMO.out.mono ?_;rintro e w5 ⟨⟨z1,rfl⟩,rfl⟩;clear HMO;go_wp2_with fail;refine HGR.out.mono ?_;rintro e w6 ⟨⟨z2,rfl⟩,rfl⟩;clear HGR
 by_cases hgt:z2 < z1
 case pos=>
  go_wp2_with fail;go_returns;exact .same 110 HA.out hc HK.out
 have u8:=HA.out.cel 8 (u:= .string ⟨c.re.toArray⟩) rfl;have g8:=HA.out.fz 8;have s8:=HA.out.setN 8 (.string ⟨re.toArray⟩) { c with re:=re } rfl;have u9:=s8.cel 9 (u:= .string ⟨c.rp.toArray⟩) rfl;have g9:=s8.fz 9;have s9:=s8.setN 9 (.string ⟨o.toArray⟩) { c with re:=re,rp:=o } rfl;have u11:=s9.cel 11 (u:= .int .i64 c.nth) rfl;have g11:=s9.fz 11;have s11:=s9.setN 11 (.int .i64 1) { c with re:=re,rp:=o,nth:=1 } rfl;have u14:=s11.cel 14 (u:= .int .u8 c.pr) rfl;have g14:=s11.fz 14;have HS:=Zh s11;have HZ:=Zh (s11.setN 14 (.int .u8 112) { c with re:=re,rp:=o,nth:=1,pr:=112 } rfl);have HK2:=Zh (((HK.out.setCell (p:=⟨b,8,none⟩) (.inl rfl) (.string ⟨re.toArray⟩)).setCell (p:=⟨b,9,none⟩) (.inl rfl) (.string ⟨o.toArray⟩)).setCell (p:=⟨b,11,none⟩) (.inl rfl) (.int .i64 1));have HKZ:=Zh (HK2.out.setCell (p:=⟨b,14,none⟩) (.inl rfl) (.int .u8 112));have HFL:=Zh (cmdFlags b { c with re:=re,rp:=o,nth:=1 } ⟨hc.lv,hc.sv,hc.dre,HRE.out,hc.sub⟩ q _ HQ.out s11);clear s8 s9 s11;cases cl2
 case false=>
  go_wp2_with fail;go_returns;exact⟨0,_,rfl,HZ.out,rfl,rfl,⟨hc.lv,hc.sv,hc.dre,HRE.out,hc.sub⟩,HKZ.out⟩
 go_wp2_with fail;refine HFL.out.mono ?_;rintro e w9 ⟨er,c',rfl,h1,h2,h3,h4,h5⟩;have HR:=Zh (show CmdT w b c (.returned (.int .i64 er)) w9 from⟨er,c',rfl,h1,h2,h3,h4,HK2.out.trans h5 (fun _ _ e=>e)⟩);clear h1 h2 h3 h4 h5;go_wp2_with fail;go_returns;exact HR.out
end Go.Proofs.YtndjgbehbgcpkaaGreatDoor
