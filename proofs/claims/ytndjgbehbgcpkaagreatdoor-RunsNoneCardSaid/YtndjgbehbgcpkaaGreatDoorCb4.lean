/- The program's reader of command lines: what stands behind a substitution. -/
import Derived.Test.YtndjgbehbgcpkaaGreatDoorCb2
import Derived.Test.YtndjgbehbgcpkaaGreatDoorBuild
import Derived.Test.YtndjgbehbgcpkaaGreatDoorCl4
import Derived.Test.YtndjgbehbgcpkaaGreatDoorBra
import Derived.Test.YtndjgbehbgcpkaaGreatDoorBase
import Derived.Laws.BytesArg
import Derived.Test.YtndjgbehbgcpkaaGreatDoorBr0
set_option linter.unusedVariables false
set_option linter.unusedSimpArgs false
set_option maxRecDepth 100000
set_option maxHeartbeats 4000000
namespace Go.Proofs.YtndjgbehbgcpkaaGreatDoor
open Go Go.Proofs Go.RowKit Go.Ink Go.Sort
def CmVar (w wr:World)(b:Nat)(c:Cm):Prop:=∃x,CmAt wr b x∧Zcf c x∧KeepT (fun j=>j=b) w wr
theorem CmVar.set {w wr:World}{b:Nat}{c x:Cm}(h:CmAt wr b x)(hf:Zcf c x)(hk:KeepT (fun j=>j=b) w wr)(j:Nat)(v:Value)(x':Cm)(hc:(cmC x).setIfInBounds j v=cmC x')(hf':Zcf c x'):CmVar w (wr.setCell ⟨b,j,none⟩ v) b c:=
 ⟨x',h.setN j v x' hc,hf',hk.setCell (p:=⟨b,j,none⟩) (.inl rfl) v⟩
theorem CmVar.told {w wr:World}{b:Nat}{c:Cm}(h:CmVar w wr b c)(er:Int):CmdT w b c (.returned (.int .i64 er)) wr:=by
 obtain⟨x,h1,h2,h3⟩:=h;exact⟨er,x,rfl,h1,h2.1,h2.2.1,h2.2.2,h3⟩
theorem cmdFlags (b:Nat)(c:Cm)(hc:CmOk c)(s:List UInt8)(w:World)(hs:s.length≤100000)(hb:CmAt w b c):
 Calls Tryz.prog 104 #[.pointer (some ⟨b,0,none⟩),.string ⟨s.toArray⟩] w fun e w'=>CmdT w b c e w':=by
 have hsz:=size_mk s;have HV0:=Zh (CmVar.set (w:=w) hb ⟨rfl,rfl,hc⟩ (KeepT.refl _ _) 11 (.int .i64 1) { c with nth:=1 } rfl ⟨rfl,rfl,⟨hc.lv,hc.sv,hc.dre,hc.re,hc.sub⟩⟩);have c11:=hb.cel 11 (u:= .int .i64 c.nth) rfl;have f11:=hb.fz 11;have HIX:=Zh (fun(d:UInt8) (X:World)=>Tryz.strings_IndexByte ⟨#[112,108,110]⟩ (d.toNat:Int) X);clear hb;go_enter Tryz.func104,Tryz.ntmps104;go_upto_region 2 with fail;clear c11 f11;generalize w.setCell _ _=wA at *;go_wp2_with fail
 go_loopw [5,6,7,8] (fun fv iv _ _ wr=>IsBo fv∧∃i:Nat,iv= .int .i64 (i:Int)∧i≤s.length∧Hid (CmVar w wr b c)) (fun _ iv _ _ _=>s.length - (intOf iv).toNat)
 case atStart=>exact⟨⟨_,rfl⟩,0,rfl,Nat.zero_le _,HV0⟩
 case round=>
  clear HV0;obtain⟨⟨fb,rfl⟩,i,rfl,hi,HV⟩:=hrel
  by_cases hlt:i < s.length
  case neg=>
   have hki:¬(i:Int) < (s.length:Int):=by omega
   clear hlt;go_wp2_with fail;go_returns;exact HV.out.told 0
  have hki:(i:Int) < (s.length:Int):=by omega
  obtain⟨d,hkd⟩:∃d,s[i]? =some d:=⟨_,Zg hlt⟩;have hby:=Zak hkd;have HKD:=Zh hkd;have HLT:=Zh hlt;obtain⟨x,hx1,hx2,hx3⟩:=HV.out;have u10:=hx1.cel 10 (u:= .bool x.al) rfl;have u11:=hx1.cel 11 (u:= .int .i64 x.nth) rfl;have u14:=hx1.cel 14 (u:= .int .u8 x.pr) rfl;have g10:=hx1.fz 10;have g11:=hx1.fz 11;have g14:=hx1.fz 14;have HF:=Zh (show∀x',x'.lv=x.lv→x'.sv=x.sv→x'.dre=x.dre→x'.re=x.re→x'.sub=x.sub→Zcf c x' from fun x' e1 e2 e3 e4 e5=>⟨e1.trans hx2.1,e2.trans hx2.2.1,⟨e1▸hx2.2.2.lv,e2▸hx2.2.2.sv,e3▸hx2.2.2.dre,e4▸hx2.2.2.re,e5▸hx2.2.2.sub⟩⟩);have HA:=Zh (CmVar.set hx1 hx2 hx3 10 (.bool true) { x with al:=true } rfl (HF.out _ rfl rfl rfl rfl rfl));have HN:=Zh (fun z:Int=>CmVar.set hx1 hx2 hx3 11 (.int .i64 z) { x with nth:=z } rfl (HF.out _ rfl rfl rfl rfl rfl));have HP:=Zh (CmVar.set hx1 hx2 hx3 14 (.int .u8 (d.toNat:Int)) { x with pr:=(d.toNat:Int) } rfl (HF.out _ rfl rfl rfl rfl rfl));have HID:=Zh (HIX.out d wr);obtain⟨z,hz⟩:∃z,Lib.indexByte (⟨#[112,108,110]⟩:ByteArray).data.toList (UInt8.ofNat (d.toNat:Int).toNat)=z:=⟨_,rfl⟩;obtain⟨al,hal⟩:∃al,x.al=al:=⟨_,rfl⟩;obtain⟨pr,hpr⟩:∃pr,x.pr=pr:=⟨_,rfl⟩;rw [hal]at u10;rw [hpr]at u14;clear hkd hlt hx1 hx2 hx3 HF hz z hal hpr
  by_cases hg:(d.toNat:Int)=103∧al=false
  case pos=>
   obtain⟨hg1,rfl⟩:=hg;have hgb:((d.toNat:Int)==103)=true:=Zt hg1;clear hg1;go_wp2_with fail;go_roundw
   case rel=>exact⟨⟨_,rfl⟩,i+1,by go_num,by have:=HLT.out;omega,HA⟩
   case measure=>have:=HLT.out;simp [intOf] <;> omega
  have hng:((d.toNat:Int)==103)=true→al=true:=fun e=>by
   rw [beq_iff_eq]at e;cases al
   ·exact absurd ⟨e,rfl⟩ hg
   ·rfl
  clear hg;obtain⟨gb,hgb⟩:∃gb,((d.toNat:Int)==103)=gb:=⟨_,rfl⟩;rw [hgb]at hng;cases gb
  case true=>
   have hal:=hng rfl;subst hal;clear hng;go_wp2_with fail;refine HID.out.mono ?_;generalize Lib.indexByte _ _=z;rintro e w5 ⟨rfl,rfl⟩;clear HID
   by_cases hz:0≤z
   case pos=>
    by_cases hp:pr=0
    case pos=>
     subst hp;go_wp2_with fail;go_roundw
     case rel=>exact⟨⟨_,rfl⟩,i+1,by go_num,by have:=HLT.out;omega,HP⟩
     case measure=>have:=HLT.out;simp [intOf] <;> omega
    have hpb:(pr==0)=false:=Zf hp
    by_cases h49:(49:Int)≤(d.toNat:Int)
    case neg=>
     go_wp2_with fail;go_returns;exact HV.out.told 211
    by_cases h57:(d.toNat:Int)≤57
    case neg=>
     go_wp2_with fail;go_returns;exact HV.out.told 211
    have HDG:=Zh (show 48≤d.toNat∧d.toNat≤57 from⟨by omega,by omega⟩);cases fb
    case true=>
     go_wp2_with fail;go_returns;exact HV.out.told 211
    go_wp2_with fail
    go_loop [6,8] (fun iv nv=>∃(i2:Nat) (z:Int),iv= .int .i64 (i2:Int)∧nv= .int .i64 z∧i≤i2∧i2≤s.length∧Hid (i2=i→z=0)) (fun iv _=>s.length - (intOf iv).toNat)
    case atStart=>exact⟨i,0,rfl,rfl,Nat.le_refl _,hi,Zh (fun _=>rfl)⟩
    case round=>
     obtain⟨i2,n,rfl,rfl,hi1,hi2,HZ⟩:=hrel
     by_cases hl2:i2 < s.length
     case neg=>
      have hki2:¬(i2:Int) < (s.length:Int):=by omega
      have HNE:=Zh (show i < i2 by have:=HLT.out;omega);clear hl2;go_wp2_with fail;go_roundw
      case rel=>exact⟨⟨_,rfl⟩,i2,rfl,hi2,HN.out _⟩
      case measure=>have:=HNE.out;have:=HLT.out;simp [intOf] <;> omega
     have hki2:(i2:Int) < (s.length:Int):=by omega
     obtain⟨d2,hkd2⟩:∃d,s[i2]? =some d:=⟨_,Zg hl2⟩;have hby2:=Zak hkd2;have HSM:=Zh (show i2=i→d2=d from fun e=>by subst e;exact Option.some.inj (hkd2.symm.trans HKD.out));clear hkd2
     by_cases k48:(48:Int)≤(d2.toNat:Int)
     case neg=>
      have HNE:=Zh (show i < i2 by
       rcases Nat.lt_or_ge i i2 with h | h
       ·exact h
       ·have:=HSM.out (by omega);subst this;have:=HDG.out;omega)
      go_wp2_with fail;go_roundw
      case rel=>exact⟨⟨_,rfl⟩,i2,rfl,hi2,HN.out _⟩
      case measure=>have:=HNE.out;have:=HLT.out;simp [intOf] <;> omega
     by_cases k57:(d2.toNat:Int)≤57
     case neg=>
      have HNE:=Zh (show i < i2 by
       rcases Nat.lt_or_ge i i2 with h | h
       ·exact h
       ·have:=HSM.out (by omega);subst this;have:=HDG.out;omega)
      go_wp2_with fail;go_roundw
      case rel=>exact⟨⟨_,rfl⟩,i2,rfl,hi2,HN.out _⟩
      case measure=>have:=HNE.out;have:=HLT.out;simp [intOf] <;> omega
     by_cases hn:n < 1000
     case neg=>
      have HNE:=Zh (show i < i2 by
       rcases Nat.lt_or_ge i i2 with h | h
       ·exact h
       ·have:=HZ.out (by omega);omega)
      go_wp2_with fail;go_roundw
      case rel=>exact⟨⟨_,rfl⟩,i2,rfl,hi2,HN.out _⟩
      case measure=>have:=HNE.out;have:=HLT.out;simp [intOf] <;> omega
     have HL2:=Zh hl2;go_wp2_with fail;go_round
     case rel=>exact⟨i2+1,_,by go_num,rfl,by omega,by omega,Zh (fun e=>by omega)⟩
     case measure=>have:=HL2.out;simp [intOf] <;> omega
   by_cases h49:(49:Int)≤(d.toNat:Int)
   case neg=>
    go_wp2_with fail;go_returns;exact HV.out.told 211
   by_cases h57:(d.toNat:Int)≤57
   case neg=>
    go_wp2_with fail;go_returns;exact HV.out.told 211
   have HDG:=Zh (show 48≤d.toNat∧d.toNat≤57 from⟨by omega,by omega⟩);cases fb
   case true=>
    go_wp2_with fail;go_returns;exact HV.out.told 211
   go_wp2_with fail
   go_loop [6,8] (fun iv nv=>∃(i2:Nat) (z:Int),iv= .int .i64 (i2:Int)∧nv= .int .i64 z∧i≤i2∧i2≤s.length∧Hid (i2=i→z=0)) (fun iv _=>s.length - (intOf iv).toNat)
   case atStart=>exact⟨i,0,rfl,rfl,Nat.le_refl _,hi,Zh (fun _=>rfl)⟩
   case round=>
    obtain⟨i2,n,rfl,rfl,hi1,hi2,HZ⟩:=hrel
    by_cases hl2:i2 < s.length
    case neg=>
     have hki2:¬(i2:Int) < (s.length:Int):=by omega
     have HNE:=Zh (show i < i2 by have:=HLT.out;omega);clear hl2;go_wp2_with fail;go_roundw
     case rel=>exact⟨⟨_,rfl⟩,i2,rfl,hi2,HN.out _⟩
     case measure=>have:=HNE.out;have:=HLT.out;simp [intOf] <;> omega
    have hki2:(i2:Int) < (s.length:Int):=by omega
    obtain⟨d2,hkd2⟩:∃d,s[i2]? =some d:=⟨_,Zg hl2⟩;have hby2:=Zak hkd2;have HSM:=Zh (show i2=i→d2=d from fun e=>by subst e;exact Option.some.inj (hkd2.symm.trans HKD.out));clear hkd2
    by_cases k48:(48:Int)≤(d2.toNat:Int)
    case neg=>
     have HNE:=Zh (show i < i2 by
      rcases Nat.lt_or_ge i i2 with h | h
      ·exact h
      ·have:=HSM.out (by omega);subst this;have:=HDG.out;omega)
     go_wp2_with fail;go_roundw
     case rel=>exact⟨⟨_,rfl⟩,i2,rfl,hi2,HN.out _⟩
     case measure=>have:=HNE.out;have:=HLT.out;simp [intOf] <;> omega
    by_cases k57:(d2.toNat:Int)≤57
    case neg=>
     have HNE:=Zh (show i < i2 by
      rcases Nat.lt_or_ge i i2 with h | h
      ·exact h
      ·have:=HSM.out (by omega);subst this;have:=HDG.out;omega)
     go_wp2_with fail;go_roundw
     case rel=>exact⟨⟨_,rfl⟩,i2,rfl,hi2,HN.out _⟩
     case measure=>have:=HNE.out;have:=HLT.out;simp [intOf] <;> omega
    by_cases hn:n < 1000
    case neg=>
     have HNE:=Zh (show i < i2 by
      rcases Nat.lt_or_ge i i2 with h | h
      ·exact h
      ·have:=HZ.out (by omega);omega)
     go_wp2_with fail;go_roundw
     case rel=>exact⟨⟨_,rfl⟩,i2,rfl,hi2,HN.out _⟩
     case measure=>have:=HNE.out;have:=HLT.out;simp [intOf] <;> omega
    have HL2:=Zh hl2;go_wp2_with fail;go_round
    case rel=>exact⟨i2+1,_,by go_num,rfl,by omega,by omega,Zh (fun e=>by omega)⟩
    case measure=>have:=HL2.out;simp [intOf] <;> omega
  clear hng;go_wp2_with fail;refine HID.out.mono ?_;generalize Lib.indexByte _ _=z;rintro e w5 ⟨rfl,rfl⟩;clear HID
  by_cases hz:0≤z
  case pos=>
   by_cases hp:pr=0
   case pos=>
    subst hp;go_wp2_with fail;go_roundw
    case rel=>exact⟨⟨_,rfl⟩,i+1,by go_num,by have:=HLT.out;omega,HP⟩
    case measure=>have:=HLT.out;simp [intOf] <;> omega
   have hpb:(pr==0)=false:=Zf hp
   by_cases h49:(49:Int)≤(d.toNat:Int)
   case neg=>
    go_wp2_with fail;go_returns;exact HV.out.told 211
   by_cases h57:(d.toNat:Int)≤57
   case neg=>
    go_wp2_with fail;go_returns;exact HV.out.told 211
   have HDG:=Zh (show 48≤d.toNat∧d.toNat≤57 from⟨by omega,by omega⟩);cases fb
   case true=>
    go_wp2_with fail;go_returns;exact HV.out.told 211
   go_wp2_with fail
   go_loop [6,8] (fun iv nv=>∃(i2:Nat) (z:Int),iv= .int .i64 (i2:Int)∧nv= .int .i64 z∧i≤i2∧i2≤s.length∧Hid (i2=i→z=0)) (fun iv _=>s.length - (intOf iv).toNat)
   case atStart=>exact⟨i,0,rfl,rfl,Nat.le_refl _,hi,Zh (fun _=>rfl)⟩
   case round=>
    obtain⟨i2,n,rfl,rfl,hi1,hi2,HZ⟩:=hrel
    by_cases hl2:i2 < s.length
    case neg=>
     have hki2:¬(i2:Int) < (s.length:Int):=by omega
     have HNE:=Zh (show i < i2 by have:=HLT.out;omega);clear hl2;go_wp2_with fail;go_roundw
     case rel=>exact⟨⟨_,rfl⟩,i2,rfl,hi2,HN.out _⟩
     case measure=>have:=HNE.out;have:=HLT.out;simp [intOf] <;> omega
    have hki2:(i2:Int) < (s.length:Int):=by omega
    obtain⟨d2,hkd2⟩:∃d,s[i2]? =some d:=⟨_,Zg hl2⟩;have hby2:=Zak hkd2;have HSM:=Zh (show i2=i→d2=d from fun e=>by subst e;exact Option.some.inj (hkd2.symm.trans HKD.out));clear hkd2
    by_cases k48:(48:Int)≤(d2.toNat:Int)
    case neg=>
     have HNE:=Zh (show i < i2 by
      rcases Nat.lt_or_ge i i2 with h | h
      ·exact h
      ·have:=HSM.out (by omega);subst this;have:=HDG.out;omega)
     go_wp2_with fail;go_roundw
     case rel=>exact⟨⟨_,rfl⟩,i2,rfl,hi2,HN.out _⟩
     case measure=>have:=HNE.out;have:=HLT.out;simp [intOf] <;> omega
    by_cases k57:(d2.toNat:Int)≤57
    case neg=>
     have HNE:=Zh (show i < i2 by
      rcases Nat.lt_or_ge i i2 with h | h
      ·exact h
      ·have:=HSM.out (by omega);subst this;have:=HDG.out;omega)
     go_wp2_with fail;go_roundw
     case rel=>exact⟨⟨_,rfl⟩,i2,rfl,hi2,HN.out _⟩
     case measure=>have:=HNE.out;have:=HLT.out;simp [intOf] <;> omega
    by_cases hn:n < 1000
    case neg=>
     have HNE:=Zh (show i < i2 by
      rcases Nat.lt_or_ge i i2 with h | h
      ·exact h
      ·have:=HZ.out (by omega);omega)
     go_wp2_with fail;go_roundw
     case rel=>exact⟨⟨_,rfl⟩,i2,rfl,hi2,HN.out _⟩
     case measure=>have:=HNE.out;have:=HLT.out;simp [intOf] <;> omega
    have HL2:=Zh hl2;go_wp2_with fail;go_round
    case rel=>exact⟨i2+1,_,by go_num,rfl,by omega,by omega,Zh (fun e=>by omega)⟩
    case measure=>have:=HL2.out;simp [intOf] <;> omega
  by_cases h49:(49:Int)≤(d.toNat:Int)
  case neg=>
   go_wp2_with fail;go_returns;exact HV.out.told 211
  by_cases h57:(d.toNat:Int)≤57
  case neg=>
   go_wp2_with fail;go_returns;exact HV.out.told 211
  have HDG:=Zh (show 48≤d.toNat∧d.toNat≤57 from⟨by omega,by omega⟩);cases fb
  case true=>
   go_wp2_with fail;go_returns;exact HV.out.told 211
  go_wp2_with fail
  go_loop [6,8] (fun iv nv=>∃(i2:Nat) (z:Int),iv= .int .i64 (i2:Int)∧nv= .int .i64 z∧i≤i2∧i2≤s.length∧Hid (i2=i→z=0)) (fun iv _=>s.length - (intOf iv).toNat)
  case atStart=>exact⟨i,0,rfl,rfl,Nat.le_refl _,hi,Zh (fun _=>rfl)⟩
  case round=>
   obtain⟨i2,n,rfl,rfl,hi1,hi2,HZ⟩:=hrel
   by_cases hl2:i2 < s.length
   case neg=>
    have hki2:¬(i2:Int) < (s.length:Int):=by omega
    have HNE:=Zh (show i < i2 by have:=HLT.out;omega);clear hl2;go_wp2_with fail;go_roundw
    case rel=>exact⟨⟨_,rfl⟩,i2,rfl,hi2,HN.out _⟩
    case measure=>have:=HNE.out;have:=HLT.out;simp [intOf] <;> omega
   have hki2:(i2:Int) < (s.length:Int):=by omega
   obtain⟨d2,hkd2⟩:∃d,s[i2]? =some d:=⟨_,Zg hl2⟩;have hby2:=Zak hkd2;have HSM:=Zh (show i2=i→d2=d from fun e=>by subst e;exact Option.some.inj (hkd2.symm.trans HKD.out));clear hkd2
   by_cases k48:(48:Int)≤(d2.toNat:Int)
   case neg=>
    have HNE:=Zh (show i < i2 by
     rcases Nat.lt_or_ge i i2 with h | h
     ·exact h
     ·have:=HSM.out (by omega);subst this;have:=HDG.out;omega)
    go_wp2_with fail;go_roundw
    case rel=>exact⟨⟨_,rfl⟩,i2,rfl,hi2,HN.out _⟩
    case measure=>have:=HNE.out;have:=HLT.out;simp [intOf] <;> omega
   by_cases k57:(d2.toNat:Int)≤57
   case neg=>
    have HNE:=Zh (show i < i2 by
     rcases Nat.lt_or_ge i i2 with h | h
     ·exact h
     ·have:=HSM.out (by omega);subst this;have:=HDG.out;omega)
    go_wp2_with fail;go_roundw
    case rel=>exact⟨⟨_,rfl⟩,i2,rfl,hi2,HN.out _⟩
    case measure=>have:=HNE.out;have:=HLT.out;simp [intOf] <;> omega
   by_cases hn:n < 1000
   case neg=>
    have HNE:=Zh (show i < i2 by
     rcases Nat.lt_or_ge i i2 with h | h
     ·exact h
     ·have:=HZ.out (by omega);omega)
    go_wp2_with fail;go_roundw
    case rel=>exact⟨⟨_,rfl⟩,i2,rfl,hi2,HN.out _⟩
    case measure=>have:=HNE.out;have:=HLT.out;simp [intOf] <;> omega
   have HL2:=Zh hl2;go_wp2_with fail;go_round
   case rel=>exact⟨i2+1,_,by go_num,rfl,by omega,by omega,Zh (fun e=>by omega)⟩
   case measure=>have:=HL2.out;simp [intOf] <;> omega
open Go Go.Proofs Go.RowKit Go.Ink Go.Sort
theorem cmdGlobal (b:Nat)(c:Cm)(hc:CmOk c)(s:List UInt8)(w:World)(hs:s.length≤100000)(hx:MaxW w)(hb:CmAt w b c):
 Calls Tryz.prog 62 #[.pointer (some ⟨b,0,none⟩),.string ⟨s.toArray⟩] w fun e w'=>CmdT w b c e w':=by
 have HPT:=Zh (cmdPattern s w hs hx);have HAT:=Zh hb;clear hx hb;go_enter Tryz.func62,Tryz.ntmps62;go_wp2_with fail;refine HPT.out.mono ?_;rintro e w1 ⟨⟨re,rest,cl,er,rfl,hre,hrs,-⟩,hb1⟩;have hx1:=HAT.out.later hb1;have HA1:=Zh hx1;have HK1:=Zh (show KeepT (fun j=>j=b) w w1 from KeepT.of_below hb1);clear hb1 HPT HAT
 by_cases her:er=0
 case neg=>
  have herb:(er !=0)=true:=bne_iff_ne.2 her;clear her hx1;go_wp2_with fail;go_returns;exact .same er HA1.out hc HK1.out
 subst her;have u8:=hx1.cel 8 (u:= .string ⟨c.re.toArray⟩) rfl;have g8:=hx1.fz 8;have s8:=hx1.setN 8 (.string ⟨re.toArray⟩) { c with re:=re } rfl;have u12:=s8.cel 12 (u:= .string ⟨c.sub.toArray⟩) rfl;have g12:=s8.fz 12;have s12:=s8.setN 12 (.string ⟨rest.toArray⟩) { c with re:=re,sub:=rest } rfl;have HS:=Zh s12;have HK2:=Zh ((HK1.out.setCell (p:=⟨b,8,none⟩) (.inl rfl) (.string ⟨re.toArray⟩)).setCell (p:=⟨b,12,none⟩) (.inl rfl) (.string ⟨rest.toArray⟩));have HO2:=Zh (show CmOk { c with re:=re,sub:=rest } from⟨hc.lv,hc.sv,hc.dre,by show re.length≤1000000;omega,by show rest.length≤100000;omega⟩);have HO3:=Zh (show CmOk { c with re:=re,sub:=[112] } from⟨hc.lv,hc.sv,hc.dre,by show re.length≤1000000;omega,by show [112].length≤100000;decide⟩);have v12:=s12.cel 12 (u:= .string ⟨rest.toArray⟩) rfl;have k12:=s12.fz 12;clear s8 s12 hx1;go_upto_region 5 with fail;clear u8 g8 u12 g12;generalize (w1.setCell _ _).setCell _ _=w2 at *;have HT:=Zh (cmdTrim rest w2);cases cl
 case false=>
  have HZ:=Zh (HS.out.setN 12 (.string ⟨#[112]⟩) { c with re:=re,sub:=[112] } rfl);have HKZ:=Zh (HK2.out.setCell (p:=⟨b,12,none⟩) (.inl rfl) (.string ⟨#[112]⟩));go_wp2_with fail;go_returns;exact⟨0,_,rfl,HZ.out,rfl,rfl,HO3.out,HKZ.out⟩
 clear v12 k12;go_wp2_with fail;refine HT.out.mono ?_;rintro e w3 ⟨⟨t,rfl,-⟩,hb3⟩;have h3:=HS.out.later hb3;have HS3:=Zh h3;have HK3:=Zh (HK2.out.then_below hb3);have v12:=h3.cel 12 (u:= .string ⟨rest.toArray⟩) rfl;have k12:=h3.fz 12;clear h3 hb3 HT;cases t with
 | nil=>
   have HZ:=Zh (HS3.out.setN 12 (.string ⟨#[112]⟩) { c with re:=re,sub:=[112] } rfl);have HKZ:=Zh (HK3.out.setCell (p:=⟨b,12,none⟩) (.inl rfl) (.string ⟨#[112]⟩));go_wp2_with fail;go_returns;exact⟨0,_,rfl,HZ.out,rfl,rfl,HO3.out,HKZ.out⟩
 | cons d r=>
   have h0b:(d::r).isEmpty=false:=rfl;have h0d:((d::r)==[])=false:=rfl;go_wp2_with fail;go_returns;exact⟨0,_,rfl,HS3.out,rfl,rfl,HO2.out,HK3.out⟩
open Go Go.Proofs Go.RowKit Go.Ink Go.Sort
theorem breGroups (v:Value)(w:World)(h:v= .pointer none∨∃b lo l,v= .pointer (some ⟨b,1,none⟩)∧ReAtb w lo b l):
 Calls Tryz.prog 103 #[v] w fun e w'=>(∃z:Int,e= .returned (.int .i64 z))∧w'=w:=by
 rcases h with rfl | ⟨b,lo,l,rfl,p,hp,-⟩
 ·go_enter Tryz.func103,Tryz.ntmps103
  go_wp2_with fail;go_returns;exact⟨⟨_,rfl⟩,rfl⟩
 ·have c2:w.cell? ⟨b,2,none⟩=some (.int .i64 (p.gr:Int)):=by rw [Lib.cell_of_heap hp];rfl
  clear hp;go_enter Tryz.func103,Tryz.ntmps103;go_wp2_with fail;go_returns;exact⟨⟨_,rfl⟩,rfl⟩
end Go.Proofs.YtndjgbehbgcpkaaGreatDoor
namespace Go.Ink
open Go Go.RowKit
theorem strOfNums_bytes (l:List UInt8):strOfNums (l.map fun c=>(c.toNat:Int))=⟨l.toArray⟩:=by
 simp [strOfNums,Function.comp_def]
end Go.Ink
namespace Go.Proofs.YtndjgbehbgcpkaaGreatDoor
open Go Go.Proofs Go.RowKit Go.Ink Go.Sort
def PcV (v:Value):Prop:=(∃z:Int,v= .iface 202 (.int .i64 z))∨∃t:List UInt8,v= .iface 201 (.string ⟨t.toArray⟩)
theorem PcV.one {v:Value}(h:PcV v):v.oneCell'=true:=by
 rcases h with⟨z,rfl⟩ | ⟨t,rfl⟩ <;> rfl
theorem tplBehind (c:UInt8)(w:World):Calls Tryz.prog 147 #[.int .u8 (c.toNat:Int)] w fun e w'=>(∃v,e= .returned v∧PcV v)∧Below w.heap.size w w':=by
 by_cases h49:(49:Int)≤(c.toNat:Int)∧(c.toNat:Int)≤57
 case pos=>
  obtain⟨h1,h2⟩:=h49;have hw:IntKind.u8.wrap ((c.toNat:Int) - 48)=(c.toNat:Int) - 48:=by show((c.toNat:Int) - 48) % 256=_;omega
  go_enter Tryz.func147,Tryz.ntmps147;go_wp2_with fail;go_returns;exact⟨⟨_,rfl,.inl ⟨_,rfl⟩⟩,Below.refl _ _⟩
 by_cases h110:(c.toNat:Int)=110
 case pos=>
  have h110b:((c.toNat:Int)==110)=true:=Zt h110;have h1:(49:Int)≤(c.toNat:Int):=by omega
  have h2:¬(c.toNat:Int)≤57:=by omega
  clear h49 h110;go_enter Tryz.func147,Tryz.ntmps147;go_wp2_with fail;go_returns;exact⟨⟨_,rfl,.inr ⟨[10],rfl⟩⟩,Below.refl _ _⟩
 have h110b:((c.toNat:Int)==110)=false:=Zf h110;have hba:=Zab w (.cells #[.int .u8 (c.toNat:Int)] 5);have hca:(w.alloc (.cells #[.int .u8 (c.toNat:Int)] 5)).cell? ⟨w.heap.size,0,none⟩=some (.int .u8 (c.toNat:Int)):=by rw [Lib.cell_of_heap (Zae w _)];rfl
 have HB:=Zh hba;have hcv:(Go.convert 81 201 (.slice (some ⟨w.heap.size,0,none⟩) 1 1)).run Tryz.prog (w.alloc (.cells #[.int .u8 (c.toNat:Int)] 5))= .ok (.string ⟨[c].toArray⟩) (w.alloc (.cells #[.int .u8 (c.toNat:Int)] 5)):=by
  rw [← strOfNums_bytes];refine run_convert_bytes_arg _ 81 5 Tryz.underlying81 Tryz.underlying5 w.heap.size 0 _ 1 _ (by simp) (fun i hi=>?_) 201 Tryz.underlying201;have hi0:i=0:=by simpa using hi
  subst hi0;exact hca
 clear hba
 by_cases h1:(49:Int)≤(c.toNat:Int)
 case pos=>
  have h2:¬(c.toNat:Int)≤57:=fun h=>h49 ⟨h1,h⟩;clear h49;go_enter Tryz.func147,Tryz.ntmps147;go_wp2_with (simp only [hcv,Result.andThen]);go_returns;exact⟨⟨_,rfl,.inr ⟨[c],rfl⟩⟩,HB.out⟩
 clear h49;go_enter Tryz.func147,Tryz.ntmps147;go_wp2_with (simp only [hcv,Result.andThen]);go_returns;exact⟨⟨_,rfl,.inr ⟨[c],rfl⟩⟩,HB.out⟩
open Go Go.Proofs Go.RowKit Go.Ink Go.Sort
def Zdf (w:World)(B:Nat)(v:Value)(n:Nat):Prop:=∃vs:List Value,vs.length=n∧(∀x∈vs,PcV x)∧w.ownsRow B 204 1 v n vs
section
variable {w w':World}{B n:Nat}{v:Value}
theorem Zdf.nil (w:World)(B:Nat):Zdf w B (.slice none 0 0) 0:=⟨[],rfl,fun _ h=>(by cases h),World.ownsRow_nil _ _ _ _⟩
theorem Zdf.shape (h:Zdf w B v n):∃ao cap,v= .slice ao n cap:=by
 obtain⟨vs,_,_,h⟩:=h;exact Zdv h
theorem Zdf.later (h:Zdf w B v n)(hb:Below w.heap.size w w'):Zdf w' B v n:=by
 obtain⟨vs,hz,hp,h⟩:=h;exact⟨vs,hz,hp,Zdc h hb⟩
theorem Zdf.kept {S:Nat→Prop}(h:Zdf w B v n)(hk:KeepT S w w')(hn:∀g,v.ownBlock=some g→¬S g):Zdf w' B v n:=by
 obtain⟨vs,hz,hp,h⟩:=h;exact⟨vs,hz,hp,Zda hk h hn⟩
theorem Zdf.kind {g:Nat}(h:Zdf w B v n)(hg:v.ownBlock=some g):B≤g∧∃cs fr,w.heap[g]? =some (.cells cs 204 fr):=by
 obtain⟨vs,hz,hp,h⟩:=h;rcases h.2 with⟨rfl,_⟩ | ⟨g',cap,cur,rfl,hb,hh,_⟩
 ·cases hg
 ·simp only [Value.ownBlock,Option.some.injEq]at hg
  subst hg;exact⟨hb,_,_,hh⟩
end
def TplV (w:World)(B:Nat)(v:Value):Prop:=v= .pointer none∨∃g lv n,v= .pointer (some ⟨g,0,none⟩)∧w.heap[g]? =some (.cells #[lv] 200 (0,0))∧Zdf w B lv n∧n≤1000000
theorem tplMost {v:Value}{B:Nat}(w:World)(h:TplV w B v):Calls Tryz.prog 102 #[v] w fun e w'=>(∃z:Int,e= .returned (.int .i64 z))∧w'=w:=by
 rcases h with rfl | ⟨g,lv,n,rfl,hg,ho,hn⟩
 ·go_enter Tryz.func102,Tryz.ntmps102
  go_wp2_with fail;go_returns;exact⟨⟨_,rfl⟩,rfl⟩
 obtain⟨ao,cap,rfl⟩:=ho.shape;have HO:=Zh ho;have c0:w.cell? ⟨g,0,none⟩=some (.slice ao n cap):=by rw [Lib.cell_of_heap hg];rfl
 clear ho hg;go_enter Tryz.func102,Tryz.ntmps102;go_wp2_with fail
 go_loop [3,16] (fun mv iv=>∃(z:Int) (i:Nat),mv= .int .i64 z∧iv= .int .i64 (i:Int)∧i≤n) (fun _ iv=>n - (intOf iv).toNat)
 case atStart=>exact⟨0,0,rfl,rfl,Nat.zero_le _⟩
 case round=>
  obtain⟨z,i,rfl,rfl,hi⟩:=hrel
  by_cases hlt:i < n
  case neg=>
   have hki:¬(i:Int) < (n:Int):=by omega
   clear hlt;go_wp2_with fail;go_returns;exact⟨⟨_,rfl⟩,rfl⟩
  have hki:(i:Int) < (n:Int):=by omega
  obtain⟨vs,hz,hp,ho⟩:=HO.out;rcases ho.2 with⟨_,h0⟩ | ⟨g2,cap',cur,hv,_⟩
  ·omega
  simp only [Value.slice.injEq]at hv;obtain⟨rfl,_,_⟩:=hv;obtain⟨x,hxi⟩:∃x,vs[i]? =some x:=⟨_,Zg (by omega)⟩;have hc:=ho.cells (g:=g2) rfl i x hxi;have hcc:w.cell? ⟨g2,i,none⟩=some x:=by by_cases h0:i=0 <;> simpa [Addr.add,h0] using hc
  have hpx:=hp x (List.mem_of_getElem? hxi);have HLT:=Zh hlt;have hta1:∀(z:Int) (W:World),(Instr.typeAssert (.iface 202 (.int .i64 z)) 204 202 true).run Tryz.prog W= .ok (.tuple #[.int .i64 z,.bool true]) W:=fun _ _=>rfl;have hta2:∀(t:ByteArray) (W:World),(Instr.typeAssert (.iface 201 (.string t)) 204 202 true).run Tryz.prog W= .ok (.tuple #[.int .i64 0,.bool false]) W:=fun _ _=>rfl;have hta3:∀(t:ByteArray) (W:World),(Instr.typeAssert (.iface 201 (.string t)) 204 201 true).run Tryz.prog W= .ok (.tuple #[.string t,.bool true]) W:=fun _ _=>rfl;clear hc hxi ho hlt hp hz;rcases hpx with⟨k,rfl⟩ | ⟨t,rfl⟩
  ·go_wp2_with (simp only [hta1,Result.andThen])
   go_round
   case rel=>exact⟨_,i+1,rfl,by go_num,HLT.out⟩
   case measure=>have:=HLT.out;simp [intOf] <;> omega
  ·go_wp2_with (first | simp only [hta2,Result.andThen] | simp only [hta3,Result.andThen])
   go_round
   case rel=>exact⟨_,i+1,rfl,by go_num,HLT.out⟩
   case measure=>have:=HLT.out;simp [intOf] <;> omega
end Go.Proofs.YtndjgbehbgcpkaaGreatDoor
