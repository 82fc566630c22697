/- The program's reader of command lines: what belongs to a command of a letter. Printed by gcbb.py. -/
import Derived.Test.YtndjgbehbgcpkaaGreatDoorBr0
import Derived.Test.YtndjgbehbgcpkaaGreatDoorTp1
set_option linter.unusedVariables false
set_option linter.unusedSimpArgs false
set_option maxRecDepth 100000
set_option maxHeartbeats 4000000
namespace Go.Proofs.YtndjgbehbgcpkaaGreatDoor
open Go Go.Proofs Go.RowKit Go.Ink Go.Sort
theorem named_suf (b:Nat)(c:Cm)(hc:CmOk c)(s:List UInt8)(w:World)(hs:s.length≤100000)(hx:MaxW w)(hbm:b≠0)(hb:CmAt w b c)(k0:Int)(hk:k0=97∨k0=99∨k0=105∨k0=100∨k0=106∨k0=108∨k0=110∨k0=112∨k0=117∨k0=61∨k0=62∨k0=60):
 Calls Tryz.prog 30 #[.pointer (some ⟨b,0,none⟩),.int .u8 k0,.string ⟨s.toArray⟩] w fun e w'=>CmdT w b c e w':=by
 have hsz:=size_mk s;have c2:=hb.cel 2 (u:= .int .u8 c.nm) rfl;have f2:=hb.fz 2;have HA:=Zh (hb.setN 2 (.int .u8 k0) { c with nm:=k0 } rfl);have HKC:=Zh (show KeepT (fun j=>j=b) w (w.setCell ⟨b,2,none⟩ (.int .u8 k0)) from(KeepT.refl (fun j=>j=b) w).setCell (p:=⟨b,2,none⟩) (.inl rfl) (.int .u8 k0));have HX:=Zh (hx.kept HKC.out (fun e=>hbm e.symm));obtain⟨w1,hw1⟩:∃w1,w.setCell ⟨b,2,none⟩ (.int .u8 k0)=w1:=⟨_,rfl⟩;rw [hw1]at HA HKC HX;obtain⟨c1,hc1⟩:∃c1:Cm,{ c with nm:=k0 }=c1:=⟨_,rfl⟩;have HO:=Zh (show CmOk c1 from hc1▸⟨hc.lv,hc.sv,hc.dre,hc.re,hc.sub⟩);rw [hc1]at HA;have HBK:=Zh (fun(e:Ending) (w':World) (h:CmdT w1 b c1 e w')=>(h.from HKC.out (by rw [← hc1]) (by rw [← hc1]):CmdT w b c e w'));have HC:=Zh (cmdSuffix b c1 HO.out s w1 HX.out HA.out);clear hc1 hb hx hs hbm HX HKC;rcases hk with rfl | rfl | rfl | rfl | rfl | rfl | rfl | rfl | rfl | rfl | rfl | rfl
 all_goals(
  go_enter Tryz.func30,Tryz.ntmps30;go_wp2_with fail;refine HC.out.mono ?_;rintro e w3 ⟨er,c',rfl,h1,h2,h3,h4,h5⟩;have HR:=Zh (HBK.out _ _ ⟨er,c',rfl,h1,h2,h3,h4,h5⟩);clear h1 h2 h3 h4 h5;go_wp2_with fail;go_returns;exact HR.out)
theorem named_k (b:Nat)(c:Cm)(hc:CmOk c)(s:List UInt8)(w:World)(hs:s.length≤100000)(hx:MaxW w)(hbm:b≠0)(hb:CmAt w b c)(k0:Int)(hk:k0=107):
 Calls Tryz.prog 30 #[.pointer (some ⟨b,0,none⟩),.int .u8 k0,.string ⟨s.toArray⟩] w fun e w'=>CmdT w b c e w':=by
 have hsz:=size_mk s;have c2:=hb.cel 2 (u:= .int .u8 c.nm) rfl;have f2:=hb.fz 2;have HA:=Zh (hb.setN 2 (.int .u8 k0) { c with nm:=k0 } rfl);have HKC:=Zh (show KeepT (fun j=>j=b) w (w.setCell ⟨b,2,none⟩ (.int .u8 k0)) from(KeepT.refl (fun j=>j=b) w).setCell (p:=⟨b,2,none⟩) (.inl rfl) (.int .u8 k0));have HX:=Zh (hx.kept HKC.out (fun e=>hbm e.symm));obtain⟨w1,hw1⟩:∃w1,w.setCell ⟨b,2,none⟩ (.int .u8 k0)=w1:=⟨_,rfl⟩;rw [hw1]at HA HKC HX;obtain⟨c1,hc1⟩:∃c1:Cm,{ c with nm:=k0 }=c1:=⟨_,rfl⟩;have HO:=Zh (show CmOk c1 from hc1▸⟨hc.lv,hc.sv,hc.dre,hc.re,hc.sub⟩);rw [hc1]at HA;have HBK:=Zh (fun(e:Ending) (w':World) (h:CmdT w1 b c1 e w')=>(h.from HKC.out (by rw [← hc1]) (by rw [← hc1]):CmdT w b c e w'));have HC:=Zh (cmdLetter b c1 HO.out s true w1 HX.out hbm HA.out);clear hc1 hb hx hs hbm HX HKC;rcases hk with rfl
 all_goals(
  go_enter Tryz.func30,Tryz.ntmps30;go_wp2_with fail;refine HC.out.mono ?_;rintro e w3 ⟨er,c',rfl,h1,h2,h3,h4,h5⟩;have HR:=Zh (HBK.out _ _ ⟨er,c',rfl,h1,h2,h3,h4,h5⟩);clear h1 h2 h3 h4 h5;go_wp2_with fail;go_returns;exact HR.out)
theorem named_m (b:Nat)(c:Cm)(hc:CmOk c)(s:List UInt8)(w:World)(hs:s.length≤100000)(hx:MaxW w)(hbm:b≠0)(hb:CmAt w b c)(k0:Int)(hk:k0=109∨k0=116):
 Calls Tryz.prog 30 #[.pointer (some ⟨b,0,none⟩),.int .u8 k0,.string ⟨s.toArray⟩] w fun e w'=>CmdT w b c e w':=by
 have hsz:=size_mk s;have c2:=hb.cel 2 (u:= .int .u8 c.nm) rfl;have f2:=hb.fz 2;have HA:=Zh (hb.setN 2 (.int .u8 k0) { c with nm:=k0 } rfl);have HKC:=Zh (show KeepT (fun j=>j=b) w (w.setCell ⟨b,2,none⟩ (.int .u8 k0)) from(KeepT.refl (fun j=>j=b) w).setCell (p:=⟨b,2,none⟩) (.inl rfl) (.int .u8 k0));have HX:=Zh (hx.kept HKC.out (fun e=>hbm e.symm));obtain⟨w1,hw1⟩:∃w1,w.setCell ⟨b,2,none⟩ (.int .u8 k0)=w1:=⟨_,rfl⟩;rw [hw1]at HA HKC HX;obtain⟨c1,hc1⟩:∃c1:Cm,{ c with nm:=k0 }=c1:=⟨_,rfl⟩;have HO:=Zh (show CmOk c1 from hc1▸⟨hc.lv,hc.sv,hc.dre,hc.re,hc.sub⟩);rw [hc1]at HA;have HBK:=Zh (fun(e:Ending) (w':World) (h:CmdT w1 b c1 e w')=>(h.from HKC.out (by rw [← hc1]) (by rw [← hc1]):CmdT w b c e w'));have HC:=Zh (cmdDest b c1 HO.out s w1 hs HX.out hbm HA.out);clear hc1 hb hx hs hbm HX HKC;rcases hk with rfl | rfl
 all_goals(
  go_enter Tryz.func30,Tryz.ntmps30;go_wp2_with fail;refine HC.out.mono ?_;rintro e w3 ⟨er,c',rfl,h1,h2,h3,h4,h5⟩;have HR:=Zh (HBK.out _ _ ⟨er,c',rfl,h1,h2,h3,h4,h5⟩);clear h1 h2 h3 h4 h5;go_wp2_with fail;go_returns;exact HR.out)
theorem named_s (b:Nat)(c:Cm)(hc:CmOk c)(s:List UInt8)(w:World)(hs:s.length≤100000)(hx:MaxW w)(hbm:b≠0)(hb:CmAt w b c)(k0:Int)(hk:k0=115):
 Calls Tryz.prog 30 #[.pointer (some ⟨b,0,none⟩),.int .u8 k0,.string ⟨s.toArray⟩] w fun e w'=>CmdT w b c e w':=by
 have hsz:=size_mk s;have c2:=hb.cel 2 (u:= .int .u8 c.nm) rfl;have f2:=hb.fz 2;have HA:=Zh (hb.setN 2 (.int .u8 k0) { c with nm:=k0 } rfl);have HKC:=Zh (show KeepT (fun j=>j=b) w (w.setCell ⟨b,2,none⟩ (.int .u8 k0)) from(KeepT.refl (fun j=>j=b) w).setCell (p:=⟨b,2,none⟩) (.inl rfl) (.int .u8 k0));have HX:=Zh (hx.kept HKC.out (fun e=>hbm e.symm));obtain⟨w1,hw1⟩:∃w1,w.setCell ⟨b,2,none⟩ (.int .u8 k0)=w1:=⟨_,rfl⟩;rw [hw1]at HA HKC HX;obtain⟨c1,hc1⟩:∃c1:Cm,{ c with nm:=k0 }=c1:=⟨_,rfl⟩;have HO:=Zh (show CmOk c1 from hc1▸⟨hc.lv,hc.sv,hc.dre,hc.re,hc.sub⟩);rw [hc1]at HA;have HBK:=Zh (fun(e:Ending) (w':World) (h:CmdT w1 b c1 e w')=>(h.from HKC.out (by rw [← hc1]) (by rw [← hc1]):CmdT w b c e w'));have HC:=Zh (cmdSubstitute tplParse b c1 HO.out s w1 hs HX.out HA.out);clear hc1 hb hx hs hbm HX HKC;rcases hk with rfl
 all_goals(
  go_enter Tryz.func30,Tryz.ntmps30;go_wp2_with fail;refine HC.out.mono ?_;rintro e w3 ⟨er,c',rfl,h1,h2,h3,h4,h5⟩;have HR:=Zh (HBK.out _ _ ⟨er,c',rfl,h1,h2,h3,h4,h5⟩);clear h1 h2 h3 h4 h5;go_wp2_with fail;go_returns;exact HR.out)
theorem named_g (b:Nat)(c:Cm)(hc:CmOk c)(s:List UInt8)(w:World)(hs:s.length≤100000)(hx:MaxW w)(hbm:b≠0)(hb:CmAt w b c)(k0:Int)(hk:k0=103∨k0=118):
 Calls Tryz.prog 30 #[.pointer (some ⟨b,0,none⟩),.int .u8 k0,.string ⟨s.toArray⟩] w fun e w'=>CmdT w b c e w':=by
 have hsz:=size_mk s;have c2:=hb.cel 2 (u:= .int .u8 c.nm) rfl;have f2:=hb.fz 2;have HA:=Zh (hb.setN 2 (.int .u8 k0) { c with nm:=k0 } rfl);have HKC:=Zh (show KeepT (fun j=>j=b) w (w.setCell ⟨b,2,none⟩ (.int .u8 k0)) from(KeepT.refl (fun j=>j=b) w).setCell (p:=⟨b,2,none⟩) (.inl rfl) (.int .u8 k0));have HX:=Zh (hx.kept HKC.out (fun e=>hbm e.symm));obtain⟨w1,hw1⟩:∃w1,w.setCell ⟨b,2,none⟩ (.int .u8 k0)=w1:=⟨_,rfl⟩;rw [hw1]at HA HKC HX;obtain⟨c1,hc1⟩:∃c1:Cm,{ c with nm:=k0 }=c1:=⟨_,rfl⟩;have HO:=Zh (show CmOk c1 from hc1▸⟨hc.lv,hc.sv,hc.dre,hc.re,hc.sub⟩);rw [hc1]at HA;have HBK:=Zh (fun(e:Ending) (w':World) (h:CmdT w1 b c1 e w')=>(h.from HKC.out (by rw [← hc1]) (by rw [← hc1]):CmdT w b c e w'));have HC:=Zh (cmdGlobal b c1 HO.out s w1 hs HX.out HA.out);clear hc1 hb hx hs hbm HX HKC;rcases hk with rfl | rfl
 all_goals(
  go_enter Tryz.func30,Tryz.ntmps30;go_wp2_with fail;refine HC.out.mono ?_;rintro e w3 ⟨er,c',rfl,h1,h2,h3,h4,h5⟩;have HR:=Zh (HBK.out _ _ ⟨er,c',rfl,h1,h2,h3,h4,h5⟩);clear h1 h2 h3 h4 h5;go_wp2_with fail;go_returns;exact HR.out)
theorem named_z (b:Nat)(c:Cm)(hc:CmOk c)(s:List UInt8)(w:World)(hs:s.length≤100000)(hx:MaxW w)(hbm:b≠0)(hb:CmAt w b c)(k0:Int)(hk:k0=122):
 Calls Tryz.prog 30 #[.pointer (some ⟨b,0,none⟩),.int .u8 k0,.string ⟨s.toArray⟩] w fun e w'=>CmdT w b c e w':=by
 have hsz:=size_mk s;have c2:=hb.cel 2 (u:= .int .u8 c.nm) rfl;have f2:=hb.fz 2;have HA:=Zh (hb.setN 2 (.int .u8 k0) { c with nm:=k0 } rfl);have HKC:=Zh (show KeepT (fun j=>j=b) w (w.setCell ⟨b,2,none⟩ (.int .u8 k0)) from(KeepT.refl (fun j=>j=b) w).setCell (p:=⟨b,2,none⟩) (.inl rfl) (.int .u8 k0));have HX:=Zh (hx.kept HKC.out (fun e=>hbm e.symm));obtain⟨w1,hw1⟩:∃w1,w.setCell ⟨b,2,none⟩ (.int .u8 k0)=w1:=⟨_,rfl⟩;rw [hw1]at HA HKC HX;obtain⟨c1,hc1⟩:∃c1:Cm,{ c with nm:=k0 }=c1:=⟨_,rfl⟩;have HO:=Zh (show CmOk c1 from hc1▸⟨hc.lv,hc.sv,hc.dre,hc.re,hc.sub⟩);rw [hc1]at HA;have HBK:=Zh (fun(e:Ending) (w':World) (h:CmdT w1 b c1 e w')=>(h.from HKC.out (by rw [← hc1]) (by rw [← hc1]):CmdT w b c e w'));have HC:=Zh (cmdCount b c1 HO.out s w1 hs HA.out);clear hc1 hb hx hs hbm HX HKC;rcases hk with rfl
 all_goals(
  go_enter Tryz.func30,Tryz.ntmps30;go_wp2_with fail;refine HC.out.mono ?_;rintro e w3 ⟨er,c',rfl,h1,h2,h3,h4,h5⟩;have HR:=Zh (HBK.out _ _ ⟨er,c',rfl,h1,h2,h3,h4,h5⟩);clear h1 h2 h3 h4 h5;go_wp2_with fail;go_returns;exact HR.out)
theorem named_q (b:Nat)(c:Cm)(hc:CmOk c)(s:List UInt8)(w:World)(hs:s.length≤100000)(hx:MaxW w)(hbm:b≠0)(hb:CmAt w b c)(k0:Int)(hk:k0=104∨k0=113∨k0=81):
 Calls Tryz.prog 30 #[.pointer (some ⟨b,0,none⟩),.int .u8 k0,.string ⟨s.toArray⟩] w fun e w'=>CmdT w b c e w':=by
 have hsz:=size_mk s;have c2:=hb.cel 2 (u:= .int .u8 c.nm) rfl;have f2:=hb.fz 2;have HA:=Zh (hb.setN 2 (.int .u8 k0) { c with nm:=k0 } rfl);have HKC:=Zh (show KeepT (fun j=>j=b) w (w.setCell ⟨b,2,none⟩ (.int .u8 k0)) from(KeepT.refl (fun j=>j=b) w).setCell (p:=⟨b,2,none⟩) (.inl rfl) (.int .u8 k0));have HX:=Zh (hx.kept HKC.out (fun e=>hbm e.symm));obtain⟨w1,hw1⟩:∃w1,w.setCell ⟨b,2,none⟩ (.int .u8 k0)=w1:=⟨_,rfl⟩;rw [hw1]at HA HKC HX;obtain⟨c1,hc1⟩:∃c1:Cm,{ c with nm:=k0 }=c1:=⟨_,rfl⟩;have HO:=Zh (show CmOk c1 from hc1▸⟨hc.lv,hc.sv,hc.dre,hc.re,hc.sub⟩);rw [hc1]at HA;have HBK:=Zh (fun(e:Ending) (w':World) (h:CmdT w1 b c1 e w')=>(h.from HKC.out (by rw [← hc1]) (by rw [← hc1]):CmdT w b c e w'));obtain⟨q0,hq0⟩:∃q,(s !=[])=q:=⟨_,rfl⟩;clear hc1 hb hx hs hbm HX HKC;rcases hk with rfl | rfl | rfl
 all_goals(
  go_enter Tryz.func30,Tryz.ntmps30;go_wp2_with fail
  all_goals(
   go_returns;exact HBK.out _ _ (.same _ HA.out HO.out (KeepT.refl _ _))))
theorem named_e (b:Nat)(c:Cm)(hc:CmOk c)(s:List UInt8)(w:World)(hs:s.length≤100000)(hx:MaxW w)(hbm:b≠0)(hb:CmAt w b c)(k0:Int)(hk:k0=101∨k0=69∨k0=102∨k0=114∨k0=119∨k0=87):
 Calls Tryz.prog 30 #[.pointer (some ⟨b,0,none⟩),.int .u8 k0,.string ⟨s.toArray⟩] w fun e w'=>CmdT w b c e w':=by
 have hsz:=size_mk s;have c2:=hb.cel 2 (u:= .int .u8 c.nm) rfl;have f2:=hb.fz 2;have HA:=Zh (hb.setN 2 (.int .u8 k0) { c with nm:=k0 } rfl);have HKC:=Zh (show KeepT (fun j=>j=b) w (w.setCell ⟨b,2,none⟩ (.int .u8 k0)) from(KeepT.refl (fun j=>j=b) w).setCell (p:=⟨b,2,none⟩) (.inl rfl) (.int .u8 k0));have HX:=Zh (hx.kept HKC.out (fun e=>hbm e.symm));obtain⟨w1,hw1⟩:∃w1,w.setCell ⟨b,2,none⟩ (.int .u8 k0)=w1:=⟨_,rfl⟩;rw [hw1]at HA HKC HX;obtain⟨c1,hc1⟩:∃c1:Cm,{ c with nm:=k0 }=c1:=⟨_,rfl⟩;have HO:=Zh (show CmOk c1 from hc1▸⟨hc.lv,hc.sv,hc.dre,hc.re,hc.sub⟩);rw [hc1]at HA;have HBK:=Zh (fun(e:Ending) (w':World) (h:CmdT w1 b c1 e w')=>(h.from HKC.out (by rw [← hc1]) (by rw [← hc1]):CmdT w b c e w'));have HC:=Zh (cmdAsks s w1 hs);clear hc1 hb hx hs hbm HX HKC;rcases hk with rfl | rfl | rfl | rfl | rfl | rfl
 all_goals(
  go_enter Tryz.func30,Tryz.ntmps30;go_wp2_with fail;refine HC.out.mono ?_;rintro e w3 ⟨⟨t,er,rfl,hl⟩,hb3⟩;have hA3:=HA.out.later hb3;have c9:=hA3.cel 13 (u:= .string ⟨c1.n2.toArray⟩) rfl;have f9:=hA3.fz 13;have HA4:=Zh (hA3.setN 13 (.string ⟨t.toArray⟩) { c1 with n2:=t } rfl);have HK4:=Zh ((KeepT.of_below hb3:KeepT (fun j=>j=b) w1 w3).setCell (p:=⟨b,13,none⟩) (.inl rfl) (.string ⟨t.toArray⟩));clear hb3 hA3;go_wp2_with fail;go_returns;exact HBK.out _ _ ⟨er,_,rfl,HA4.out,rfl,rfl,⟨HO.out.lv,HO.out.sv,HO.out.dre,HO.out.re,HO.out.sub⟩,HK4.out⟩)
theorem named_no (b:Nat)(c:Cm)(hc:CmOk c)(s:List UInt8)(w:World)(hb:CmAt w b c)(k0:Int)(n97:(k0==97)=false)(n99:(k0==99)=false)(n105:(k0==105)=false)(n100:(k0==100)=false)(n106:(k0==106)=false)(n108:(k0==108)=false)(n110:(k0==110)=false)(n112:(k0==112)=false)(n117:(k0==117)=false)(n61:(k0==61)=false)(n62:(k0==62)=false)(n60:(k0==60)=false)(n107:(k0==107)=false)(n109:(k0==109)=false)(n116:(k0==116)=false)(n115:(k0==115)=false)(n103:(k0==103)=false)(n118:(k0==118)=false)(n122:(k0==122)=false)(n104:(k0==104)=false)(n113:(k0==113)=false)(n81:(k0==81)=false)(n101:(k0==101)=false)(n69:(k0==69)=false)(n102:(k0==102)=false)(n114:(k0==114)=false)(n119:(k0==119)=false)(n87:(k0==87)=false):
 Calls Tryz.prog 30 #[.pointer (some ⟨b,0,none⟩),.int .u8 k0,.string ⟨s.toArray⟩] w fun e w'=>CmdT w b c e w':=by
 have c2:=hb.cel 2 (u:= .int .u8 c.nm) rfl;have f2:=hb.fz 2;have HA:=Zh (hb.setN 2 (.int .u8 k0) { c with nm:=k0 } rfl);have HKC:=Zh (show KeepT (fun j=>j=b) w (w.setCell ⟨b,2,none⟩ (.int .u8 k0)) from(KeepT.refl (fun j=>j=b) w).setCell (p:=⟨b,2,none⟩) (.inl rfl) (.int .u8 k0));clear hb;go_enter Tryz.func30,Tryz.ntmps30;go_wp2_with fail;go_returns;exact⟨210,_,rfl,HA.out,rfl,rfl,⟨hc.lv,hc.sv,hc.dre,hc.re,hc.sub⟩,HKC.out⟩
theorem cmdNamed (b:Nat)(c:Cm)(hc:CmOk c)(d:UInt8)(s:List UInt8)(w:World)(hs:s.length≤100000)(hx:MaxW w)(hbm:b≠0)(hb:CmAt w b c):
 Calls Tryz.prog 30 #[.pointer (some ⟨b,0,none⟩),.int .u8 (d.toNat:Int),.string ⟨s.toArray⟩] w fun e w'=>CmdT w b c e w':=by
 generalize (d.toNat:Int)=k0
 by_cases h_named_suf:k0=97∨k0=99∨k0=105∨k0=100∨k0=106∨k0=108∨k0=110∨k0=112∨k0=117∨k0=61∨k0=62∨k0=60
 case pos=>exact named_suf b c hc s w hs hx hbm hb k0 h_named_suf
 by_cases h_named_k:k0=107
 case pos=>exact named_k b c hc s w hs hx hbm hb k0 h_named_k
 by_cases h_named_m:k0=109∨k0=116
 case pos=>exact named_m b c hc s w hs hx hbm hb k0 h_named_m
 by_cases h_named_s:k0=115
 case pos=>exact named_s b c hc s w hs hx hbm hb k0 h_named_s
 by_cases h_named_g:k0=103∨k0=118
 case pos=>exact named_g b c hc s w hs hx hbm hb k0 h_named_g
 by_cases h_named_z:k0=122
 case pos=>exact named_z b c hc s w hs hx hbm hb k0 h_named_z
 by_cases h_named_q:k0=104∨k0=113∨k0=81
 case pos=>exact named_q b c hc s w hs hx hbm hb k0 h_named_q
 by_cases h_named_e:k0=101∨k0=69∨k0=102∨k0=114∨k0=119∨k0=87
 case pos=>exact named_e b c hc s w hs hx hbm hb k0 h_named_e
 have hn:¬k0=97∧¬k0=99∧¬k0=105∧¬k0=100∧¬k0=106∧¬k0=108∧¬k0=110∧¬k0=112∧¬k0=117∧¬k0=61∧¬k0=62∧¬k0=60∧¬k0=107∧¬k0=109∧¬k0=116∧¬k0=115∧¬k0=103∧¬k0=118∧¬k0=122∧¬k0=104∧¬k0=113∧¬k0=81∧¬k0=101∧¬k0=69∧¬k0=102∧¬k0=114∧¬k0=119∧¬k0=87:=by omega
 obtain⟨n97,n99,n105,n100,n106,n108,n110,n112,n117,n61,n62,n60,n107,n109,n116,n115,n103,n118,n122,n104,n113,n81,n101,n69,n102,n114,n119,n87⟩:=hn;exact named_no b c hc s w hb k0 (beq_eq_false_iff_ne.2 n97) (beq_eq_false_iff_ne.2 n99) (beq_eq_false_iff_ne.2 n105) (beq_eq_false_iff_ne.2 n100) (beq_eq_false_iff_ne.2 n106) (beq_eq_false_iff_ne.2 n108) (beq_eq_false_iff_ne.2 n110) (beq_eq_false_iff_ne.2 n112) (beq_eq_false_iff_ne.2 n117) (beq_eq_false_iff_ne.2 n61) (beq_eq_false_iff_ne.2 n62) (beq_eq_false_iff_ne.2 n60) (beq_eq_false_iff_ne.2 n107) (beq_eq_false_iff_ne.2 n109) (beq_eq_false_iff_ne.2 n116) (beq_eq_false_iff_ne.2 n115) (beq_eq_false_iff_ne.2 n103) (beq_eq_false_iff_ne.2 n118) (beq_eq_false_iff_ne.2 n122) (beq_eq_false_iff_ne.2 n104) (beq_eq_false_iff_ne.2 n113) (beq_eq_false_iff_ne.2 n81) (beq_eq_false_iff_ne.2 n101) (beq_eq_false_iff_ne.2 n69) (beq_eq_false_iff_ne.2 n102) (beq_eq_false_iff_ne.2 n114) (beq_eq_false_iff_ne.2 n119) (beq_eq_false_iff_ne.2 n87)
end Go.Proofs.YtndjgbehbgcpkaaGreatDoor
