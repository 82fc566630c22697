/- The program's reader of addresses: an address's base. Printed by gca3.py. -/
import Derived.Test.YtndjgbehbgcpkaaGreatDoorPrd
import Derived.Test.YtndjgbehbgcpkaaGreatDoorPr3
import Derived.Test.YtndjgbehbgcpkaaGreatDoorPri
set_option linter.unusedVariables false
set_option linter.unusedSimpArgs false
set_option maxRecDepth 100000
set_option maxHeartbeats 4000000
namespace Go.Proofs.YtndjgbehbgcpkaaGreatDoor
open Go Go.Proofs Go.RowKit Go.Ink
theorem adrBase (s:List UInt8)(a:Nat)(w:World)(hs:s.length≤1000000)(ha:a≤1000000):
 Calls Tryz.prog 91 #[.string ⟨s.toArray⟩,.int .i64 (a:Int)] w fun e w'=>BaseE s a e∧Below w.heap.size w w':=by
 have hsz:=size_mk s
 by_cases hlt:a < s.length
 case neg=>
  have hki:(s.length:Int)≤(a:Int):=by omega
  go_enter Tryz.func91,Tryz.ntmps91;go_wp2_with fail;go_returns;exact⟨.mk 0 0 [] 0 a _ rfl (by simp) ⟨Nat.le_refl _,.inl (Nat.le_refl _)⟩,Zab _ _⟩
 have hki:¬(s.length:Int)≤(a:Int):=by omega
 obtain⟨c,hkc⟩:∃c,s[a]? =some c:=⟨_,Zg hlt⟩;have hby:=Zak hkc;have HB1:=Zh (show a≤a+1∧(a+1≤a∨a+1≤s.length) from⟨by omega,.inr (by omega)⟩);have HDL:=Zh (fun(X:World)=>adrDelimited s (a+1) c X hs (by omega));have HDG:=Zh (fun(X:World)=>adrDigit s a X hs);have HNU:=Zh (fun(X:World)=>adrNumber s a X hs ha);have hcv:((a+1:Nat):Int)=(a:Int)+1:=by omega
 rw [hcv]at HDL;clear hkc hcv;go_enter Tryz.func91,Tryz.ntmps91
 by_cases h46:(c.toNat:Int)=46
 case pos=>
  have h46b:((c.toNat:Int)==46)=true:=Zt h46;clear h46;go_wp2_with fail;go_returns;exact⟨.mk 1 0 [] 0 (a+1) _ (by omega) (by simp) HB1.out,Zab _ _⟩
 have h46b:((c.toNat:Int)==46)=false:=Zf h46
 by_cases h36:(c.toNat:Int)=36
 case pos=>
  have h36b:((c.toNat:Int)==36)=true:=Zt h36;clear h36;go_wp2_with fail;go_returns;exact⟨.mk 2 0 [] 0 (a+1) _ (by omega) (by simp) HB1.out,Zab _ _⟩
 have h36b:((c.toNat:Int)==36)=false:=Zf h36
 by_cases h39:(c.toNat:Int)=39
 case pos=>
  have h39b:((c.toNat:Int)==39)=true:=Zt h39;clear h39
  by_cases hl2:a+1 < s.length
  case neg=>
   have hl2i:¬(a:Int)+1 < (s.length:Int):=by omega
   go_wp2_with fail;go_returns;exact⟨.no 0 0 0 200 (by decide),Zab _ _⟩
  obtain⟨d,hkd⟩:∃d,s[a+1]? =some d:=⟨_,Zg hl2⟩;have hby2:=Zak hkd;obtain⟨hz0,hz1,hz2,hz3⟩:=Zew a s.length hlt;obtain⟨hy0,hy1,hy2,hy3,hy4⟩:=idx_two a s.length hl2;have HB2:=Zh (show a≤a+2∧(a+2≤a∨a+2≤s.length) from⟨by omega,.inr (by omega)⟩);clear hkd
  by_cases h97:(97:Int)≤(d.toNat:Int)
  case neg=>
   go_wp2_with fail;go_returns;exact⟨.no 0 0 0 200 (by decide),Zab _ _⟩
  by_cases h122:(d.toNat:Int)≤122
  case neg=>
   go_wp2_with fail;go_returns;exact⟨.no 0 0 0 200 (by decide),Zab _ _⟩
  go_wp2_with fail;go_returns;exact⟨.mk 4 _ [] 0 (a+2) _ (by omega) (by simp) HB2.out,Zab _ _⟩
 have h39b:((c.toNat:Int)==39)=false:=Zf h39
 by_cases h47:(c.toNat:Int)=47
 case pos=>
  have h47b:((c.toNat:Int)==47)=true:=Zt h47;have h63b:((c.toNat:Int)==63)=false:=by rw [beq_eq_false_iff_ne,h47];decide
  clear h47;go_upto_region 3 with fail;generalize hwA:w.alloc _=wA;have HZ:=Zh (show AdAt wA w.heap.size 0 0 [] 0 from hwA▸Zae _ _);have HB:=Zh (show Below w.heap.size w wA from hwA▸Zab w _);clear hwA;go_wp2_with fail;refine(HDL.out _).mono ?_;rintro e w1 ⟨⟨o,nn,b,rfl,ho,hn1,hn2⟩,hb1⟩;have HN:=Zh (show a≤nn∧(nn≤a∨nn≤s.length) from⟨by omega,by omega⟩);have HZ1:=Zh (HZ.out.later hb1);have HB1':=Zh (HB.out.trans (hb1.mono HB.out.size));have hbt:b=b:=rfl;clear hn1 hn2 hb1 HZ HB;have c0:=HZ1.out.c 0 rfl;have f0:=HZ1.out.fz 0;have s0:=HZ1.out.set0 5;have c1:=s0.c 1 rfl;have f1:=s0.fz 1;have s1:=s0.set1 0;have c2:=s1.c 2 rfl;have f2:=s1.fz 2;have s2:=s1.set2 o;have c3:=s2.c 3 rfl;have f3:=s2.fz 3;have HZE:=Zh (s2.set3 0);have HBE:=Zh ((((HB1'.out.setCell (p:=⟨w.heap.size,0,none⟩) (Nat.le_refl _) (.int .i64 5)).setCell (p:=⟨w.heap.size,1,none⟩) (Nat.le_refl _) (.int .i64 0)).setCell (p:=⟨w.heap.size,2,none⟩) (Nat.le_refl _) (.string ⟨o.toArray⟩)).setCell (p:=⟨w.heap.size,3,none⟩) (Nat.le_refl _) (.int .i64 0));clear s0 s1 s2;go_wp2_with fail;clear c0 c1 c2 c3 f0 f1 f2 f3;generalize (((w1.setCell _ _).setCell _ _).setCell _ _).setCell _ _=wE at *;have r0:=HZE.out.c 0 rfl;have r1:=HZE.out.c 1 rfl;have r2:=HZE.out.c 2 rfl;have r3:=HZE.out.c 3 rfl;refine bodyPost_ret (v:= .tuple #[.agg #[.int .i64 5,.int .i64 0,.string ⟨o.toArray⟩,.int .i64 0],.int .i64 (nn:Int),.int .i64 0]) ?_ rfl ?_
  ·simp [results,Tryz.results91,go_sem,r0,r1,r2,r3]
  exact⟨.mk 5 0 o 0 nn _ rfl ho HN.out,HBE.out⟩
 have h47b:((c.toNat:Int)==47)=false:=Zf h47
 by_cases h63:(c.toNat:Int)=63
 case pos=>
  have h63b:((c.toNat:Int)==63)=true:=Zt h63;clear h63;go_upto_region 3 with fail;generalize hwA:w.alloc _=wA;have HZ:=Zh (show AdAt wA w.heap.size 0 0 [] 0 from hwA▸Zae _ _);have HB:=Zh (show Below w.heap.size w wA from hwA▸Zab w _);clear hwA;go_wp2_with fail;refine(HDL.out _).mono ?_;rintro e w1 ⟨⟨o,nn,b,rfl,ho,hn1,hn2⟩,hb1⟩;have HN:=Zh (show a≤nn∧(nn≤a∨nn≤s.length) from⟨by omega,by omega⟩);have HZ1:=Zh (HZ.out.later hb1);have HB1':=Zh (HB.out.trans (hb1.mono HB.out.size));have hbt:b=b:=rfl;clear hn1 hn2 hb1 HZ HB;have c0:=HZ1.out.c 0 rfl;have f0:=HZ1.out.fz 0;have s0:=HZ1.out.set0 6;have c1:=s0.c 1 rfl;have f1:=s0.fz 1;have s1:=s0.set1 0;have c2:=s1.c 2 rfl;have f2:=s1.fz 2;have s2:=s1.set2 o;have c3:=s2.c 3 rfl;have f3:=s2.fz 3;have HZE:=Zh (s2.set3 0);have HBE:=Zh ((((HB1'.out.setCell (p:=⟨w.heap.size,0,none⟩) (Nat.le_refl _) (.int .i64 6)).setCell (p:=⟨w.heap.size,1,none⟩) (Nat.le_refl _) (.int .i64 0)).setCell (p:=⟨w.heap.size,2,none⟩) (Nat.le_refl _) (.string ⟨o.toArray⟩)).setCell (p:=⟨w.heap.size,3,none⟩) (Nat.le_refl _) (.int .i64 0));clear s0 s1 s2;go_wp2_with fail;clear c0 c1 c2 c3 f0 f1 f2 f3;generalize (((w1.setCell _ _).setCell _ _).setCell _ _).setCell _ _=wE at *;have r0:=HZE.out.c 0 rfl;have r1:=HZE.out.c 1 rfl;have r2:=HZE.out.c 2 rfl;have r3:=HZE.out.c 3 rfl;refine bodyPost_ret (v:= .tuple #[.agg #[.int .i64 6,.int .i64 0,.string ⟨o.toArray⟩,.int .i64 0],.int .i64 (nn:Int),.int .i64 0]) ?_ rfl ?_
  ·simp [results,Tryz.results91,go_sem,r0,r1,r2,r3]
  exact⟨.mk 6 0 o 0 nn _ rfl ho HN.out,HBE.out⟩
 have h63b:((c.toNat:Int)==63)=false:=Zf h63;go_wp2_with fail;refine(HDG.out _).mono ?_;rintro e w1 ⟨rfl,rfl⟩;cases hdg:dgB s a
 case false=>
  clear hdg;go_wp2_with fail;go_returns;exact⟨.mk 0 0 [] 0 a _ rfl (by simp) ⟨Nat.le_refl _,.inl (Nat.le_refl _)⟩,Zab _ _⟩
 clear hdg;go_wp2_with fail;refine(HNU.out _).mono ?_;rintro e w1 ⟨⟨z,nx,ok,rfl,hok⟩,rfl⟩;cases ok
 case false=>
  clear hok;go_wp2_with fail;go_returns;exact⟨.no 0 0 0 200 (by decide),Zab _ _⟩
 have HN:=Zh (show a≤nx∧(nx≤a∨nx≤s.length) from⟨(hok rfl).1,(hok rfl).2.1⟩);clear hok;go_wp2_with fail;go_returns;exact⟨.mk 3 z [] 0 nx _ rfl (by simp) HN.out,Zab _ _⟩
open Go Go.Proofs Go.RowKit Go.Ink
theorem adrOne (s:List UInt8)(w:World)(hs:s.length≤1000000):
 Calls Tryz.prog 56 #[.string ⟨s.toArray⟩] w fun e w'=>OneE s e∧Below w.heap.size w w':=by
 have hsz:=size_mk s;have HBL:=Zh (fun(X:World) (a:Nat) (ha:a≤1000000)=>adrBlanks s a X hs ha);have HBS:=Zh (fun(X:World) (a:Nat) (ha:a≤1000000)=>adrBase s a X hs ha);have HDG:=Zh (fun(X:World) (a:Nat)=>adrDigit s a X hs);have HNU:=Zh (fun(X:World) (a:Nat) (ha:a≤1000000)=>adrNumber s a X hs ha);go_enter Tryz.func56,Tryz.ntmps56;go_upto_region 1 with fail;generalize hwA:w.alloc _=wA;have HZ0:=Zh (show AdAt wA w.heap.size 0 0 [] 0 from hwA▸Zae _ _);have HW0:=Zh (show Below w.heap.size w wA from hwA▸Zab w _);clear hwA;have HB0:=Zh (HBL.out wA 0 (by omega));go_wp2_with fail;refine HB0.out.mono ?_;rintro e w1 ⟨⟨fr,rfl,hf1,hf2⟩,rfl⟩;have HFR:=Zh (show fr≤s.length by omega);have HBF:=Zh (HBS.out w1 fr (by omega));clear hf1 hf2 HB0;go_wp2_with fail;refine HBF.out.mono ?_;rintro e w2 ⟨⟨kd,z,re,ad,nx,er,rfl,hre,hnx⟩,hb2⟩;have HW2:=Zh (HW0.out.trans (hb2.mono HW0.out.size));have HZ2:=Zh (HZ0.out.later hb2);have HRE:=Zh hre;unfold adV;clear hb2 hre HBF HZ0 HW0;have c0:=HZ2.out.c 0 rfl;have f0:=HZ2.out.fz 0;have s0:=HZ2.out.set0 kd;have c1:=s0.c 1 rfl;have f1:=s0.fz 1;have s1:=s0.set1 z;have c2:=s1.c 2 rfl;have f2:=s1.fz 2;have s2:=s1.set2 re;have c3:=s2.c 3 rfl;have f3:=s2.fz 3;have HZE:=Zh (s2.set3 ad);have HBE:=Zh (((((HW2.out.setCell (p:=⟨w.heap.size,0,none⟩) (Nat.le_refl _) (.int .i64 kd)).setCell (p:=⟨w.heap.size,1,none⟩) (Nat.le_refl _) (.int .i64 z)).setCell (p:=⟨w.heap.size,2,none⟩) (Nat.le_refl _) (.string ⟨re.toArray⟩)).setCell (p:=⟨w.heap.size,3,none⟩) (Nat.le_refl _) (.int .i64 ad)));clear s0 s1 s2;go_upto_region 3 with fail;clear c0 c1 c2 c3 f0 f1 f2 f3;generalize ((((_:World).setCell ⟨w.heap.size,0,none⟩ _).setCell _ _).setCell _ _).setCell _ _=wE at *
 by_cases her:er=0
 case neg=>
  have herb:(er !=0)=true:=bne_iff_ne.2 her;clear hnx her;have HZ3:=HZE;have HW3:=HBE;clear HZE HBE;have c0:=HZ3.out.c 0 rfl;have f0:=HZ3.out.fz 0;have s0:=HZ3.out.set0 0;have c1:=s0.c 1 rfl;have f1:=s0.fz 1;have s1:=s0.set1 0;have c2:=s1.c 2 rfl;have f2:=s1.fz 2;have s2:=s1.set2n;have c3:=s2.c 3 rfl;have f3:=s2.fz 3;have HZE:=Zh (s2.set3 0);have HBE:=Zh (((((HW3.out.setCell (p:=⟨w.heap.size,0,none⟩) (Nat.le_refl _) (.int .i64 0)).setCell (p:=⟨w.heap.size,1,none⟩) (Nat.le_refl _) (.int .i64 0)).setCell (p:=⟨w.heap.size,2,none⟩) (Nat.le_refl _) (.string ⟨#[]⟩)).setCell (p:=⟨w.heap.size,3,none⟩) (Nat.le_refl _) (.int .i64 0)));clear s0 s1 s2;go_wp2_with fail;clear c0 c1 c2 c3 f0 f1 f2 f3;generalize ((((_:World).setCell ⟨w.heap.size,0,none⟩ _).setCell _ _).setCell _ _).setCell _ _=wF at *;have r0:=HZE.out.c 0 rfl;have r1:=HZE.out.c 1 rfl;have r2:=HZE.out.c 2 rfl;have r3:=HZE.out.c 3 rfl;refine bodyPost_ret (v:= .tuple #[.agg #[.int .i64 0,.int .i64 0,.string ⟨#[]⟩,.int .i64 0],.int .i64 0,.int .i64 er]) ?_ rfl ?_
  ·simp [results,Tryz.results56,go_sem,r0,r1,r2,r3]
  exact⟨.no er,HBE.out⟩
 have hnl:nx≤s.length:=by have h:=hnx her;have:=HFR.out;omega
 subst her;clear hnx;have HAT:=Zh (show∃kd z ad,AdAt wE w.heap.size kd z re ad from⟨_,_,_,HZE.out⟩);have HBW:=HBE;clear HZE HBE HZ2 HW2;go_wp2_with fail
 go_loopw [3,5,6,7,8,9,10] (fun nv _ tv _ _ _ _ wr=>∃n:Nat,nv= .int .i64 (n:Int)∧IsBo tv∧n≤s.length∧Hid (∃kd z ad,AdAt wr w.heap.size kd z re ad)∧Hid (Below w.heap.size w wr)) (fun nv _ _ _ _ _ _ _=>s.length+1 - (intOf nv).toNat)
 case atStart=>exact⟨nx,rfl,⟨_,rfl⟩,hnl,HAT,HBW⟩
 case round=>
  clear HAT HBW;obtain⟨n,rfl,⟨b,rfl⟩,hn,HAT,HBR⟩:=hrel;obtain⟨kd,z,ad,hgr⟩:=HAT.out;have HZR:=Zh hgr;have HBB:=Zh (HBL.out wr n (by omega));clear hgr HAT;go_wp2_with fail;refine HBB.out.mono ?_;rintro e w3 ⟨⟨m,rfl,hm1,hm2⟩,rfl⟩;have hml:m≤s.length:=by omega
  have HNM:=Zh hm1;clear hm1 hm2 HBB
  by_cases hlt:m < s.length
  case pos=>
   have hki:(m:Int) < (s.length:Int):=by omega
   obtain⟨c,hkc⟩:∃c,s[m]? =some c:=⟨_,Zg hlt⟩;have hby:=Zak hkc;clear hkc
   by_cases h43:(c.toNat:Int)=43
   case pos=>
    have h43b:((c.toNat:Int)==43)=true:=Zt h43;have h45b:((c.toNat:Int)==45)=false:=by rw [beq_eq_false_iff_ne,h43];decide
    clear h43;have HNB:=Zh (HNU.out w3 (m+1) (by omega));rw [show(((m+1):Nat):Int)=(m:Int)+1 by omega]at HNB;go_wp2_with fail;refine HNB.out.mono ?_;rintro e w4 ⟨⟨z1,to_,ok,rfl,hok⟩,rfl⟩;cases ok
    case false=>
     clear hok HNB;have c0:=HZR.out.c 0 rfl;have f0:=HZR.out.fz 0;have s0:=HZR.out.set0 0;have c1:=s0.c 1 rfl;have f1:=s0.fz 1;have s1:=s0.set1 0;have c2:=s1.c 2 rfl;have f2:=s1.fz 2;have s2:=s1.set2n;have c3:=s2.c 3 rfl;have f3:=s2.fz 3;have HZE:=Zh (s2.set3 0);have HBE:=Zh (((((HBR.out.setCell (p:=⟨w.heap.size,0,none⟩) (Nat.le_refl _) (.int .i64 0)).setCell (p:=⟨w.heap.size,1,none⟩) (Nat.le_refl _) (.int .i64 0)).setCell (p:=⟨w.heap.size,2,none⟩) (Nat.le_refl _) (.string ⟨#[]⟩)).setCell (p:=⟨w.heap.size,3,none⟩) (Nat.le_refl _) (.int .i64 0)));clear s0 s1 s2;go_wp2_with fail;clear c0 c1 c2 c3 f0 f1 f2 f3;generalize ((((_:World).setCell ⟨w.heap.size,0,none⟩ _).setCell _ _).setCell _ _).setCell _ _=wE at *;have r0:=HZE.out.c 0 rfl;have r1:=HZE.out.c 1 rfl;have r2:=HZE.out.c 2 rfl;have r3:=HZE.out.c 3 rfl;refine bodyPost_ret (v:= .tuple #[.agg #[.int .i64 0,.int .i64 0,.string ⟨#[]⟩,.int .i64 0],.int .i64 0,.int .i64 200]) ?_ rfl ?_
     ·simp [results,Tryz.results56,go_sem,r0,r1,r2,r3]
     exact⟨.no 200,HBE.out⟩
    have HTO:=Zh (show to_≤s.length∧n < to_ from by
     obtain⟨h1,h2,h3⟩:=hok rfl;have h4:=HNM.out;exact⟨by omega,by omega⟩)
    clear hok HNB
    by_cases heq:(to_:Int)=(m:Int)+1
    case pos=>
     have heb:((to_:Int)==(m:Int)+1)=true:=Zt heq;clear heq;cases b
     case false=>
      have e0:=HZR.out.c 0 rfl;have g0:=HZR.out.fz 0;have HG1:=Zh (HZR.out.set0 1);have HB1:=Zh (HBR.out.setCell (p:=⟨w.heap.size,0,none⟩) (Nat.le_refl _) (.int .i64 1));have e3:=HG1.out.c 3 rfl;have g3:=HG1.out.fz 3;go_wp2_with fail;go_roundw
      case rel=>exact⟨to_,rfl,⟨true,rfl⟩,HTO.out.1,Zh ⟨_,_,_,HG1.out.set3 _⟩,Zh (HB1.out.setCell (p:=⟨w.heap.size,3,none⟩) (Nat.le_refl _) _)⟩
      case measure=>have:=HTO.out;simp [intOf] <;> omega
     have HG1:=HZR;have HB1:=HBR;have e3:=HG1.out.c 3 rfl;have g3:=HG1.out.fz 3;go_wp2_with fail;go_roundw
     case rel=>exact⟨to_,rfl,⟨true,rfl⟩,HTO.out.1,Zh ⟨_,_,_,HG1.out.set3 _⟩,Zh (HB1.out.setCell (p:=⟨w.heap.size,3,none⟩) (Nat.le_refl _) _)⟩
     case measure=>have:=HTO.out;simp [intOf] <;> omega
    have heb:((to_:Int)==(m:Int)+1)=false:=Zf heq;cases b
    case false=>
     have e0:=HZR.out.c 0 rfl;have g0:=HZR.out.fz 0;have HG1:=Zh (HZR.out.set0 1);have HB1:=Zh (HBR.out.setCell (p:=⟨w.heap.size,0,none⟩) (Nat.le_refl _) (.int .i64 1));have e3:=HG1.out.c 3 rfl;have g3:=HG1.out.fz 3;go_wp2_with fail;go_roundw
     case rel=>exact⟨to_,rfl,⟨true,rfl⟩,HTO.out.1,Zh ⟨_,_,_,HG1.out.set3 _⟩,Zh (HB1.out.setCell (p:=⟨w.heap.size,3,none⟩) (Nat.le_refl _) _)⟩
     case measure=>have:=HTO.out;simp [intOf] <;> omega
    have HG1:=HZR;have HB1:=HBR;have e3:=HG1.out.c 3 rfl;have g3:=HG1.out.fz 3;go_wp2_with fail;go_roundw
    case rel=>exact⟨to_,rfl,⟨true,rfl⟩,HTO.out.1,Zh ⟨_,_,_,HG1.out.set3 _⟩,Zh (HB1.out.setCell (p:=⟨w.heap.size,3,none⟩) (Nat.le_refl _) _)⟩
    case measure=>have:=HTO.out;simp [intOf] <;> omega
   have h43b:((c.toNat:Int)==43)=false:=Zf h43
   by_cases h45:(c.toNat:Int)=45
   case pos=>
    have h45b:((c.toNat:Int)==45)=true:=Zt h45;clear h45;have HNB:=Zh (HNU.out w3 (m+1) (by omega));rw [show(((m+1):Nat):Int)=(m:Int)+1 by omega]at HNB;go_wp2_with fail;refine HNB.out.mono ?_;rintro e w4 ⟨⟨z1,to_,ok,rfl,hok⟩,rfl⟩;cases ok
    case false=>
     clear hok HNB;have c0:=HZR.out.c 0 rfl;have f0:=HZR.out.fz 0;have s0:=HZR.out.set0 0;have c1:=s0.c 1 rfl;have f1:=s0.fz 1;have s1:=s0.set1 0;have c2:=s1.c 2 rfl;have f2:=s1.fz 2;have s2:=s1.set2n;have c3:=s2.c 3 rfl;have f3:=s2.fz 3;have HZE:=Zh (s2.set3 0);have HBE:=Zh (((((HBR.out.setCell (p:=⟨w.heap.size,0,none⟩) (Nat.le_refl _) (.int .i64 0)).setCell (p:=⟨w.heap.size,1,none⟩) (Nat.le_refl _) (.int .i64 0)).setCell (p:=⟨w.heap.size,2,none⟩) (Nat.le_refl _) (.string ⟨#[]⟩)).setCell (p:=⟨w.heap.size,3,none⟩) (Nat.le_refl _) (.int .i64 0)));clear s0 s1 s2;go_wp2_with fail;clear c0 c1 c2 c3 f0 f1 f2 f3;generalize ((((_:World).setCell ⟨w.heap.size,0,none⟩ _).setCell _ _).setCell _ _).setCell _ _=wE at *;have r0:=HZE.out.c 0 rfl;have r1:=HZE.out.c 1 rfl;have r2:=HZE.out.c 2 rfl;have r3:=HZE.out.c 3 rfl;refine bodyPost_ret (v:= .tuple #[.agg #[.int .i64 0,.int .i64 0,.string ⟨#[]⟩,.int .i64 0],.int .i64 0,.int .i64 200]) ?_ rfl ?_
     ·simp [results,Tryz.results56,go_sem,r0,r1,r2,r3]
     exact⟨.no 200,HBE.out⟩
    have HTO:=Zh (show to_≤s.length∧n < to_ from by
     obtain⟨h1,h2,h3⟩:=hok rfl;have h4:=HNM.out;exact⟨by omega,by omega⟩)
    clear hok HNB
    by_cases heq:(to_:Int)=(m:Int)+1
    case pos=>
     have heb:((to_:Int)==(m:Int)+1)=true:=Zt heq;clear heq;cases b
     case false=>
      have e0:=HZR.out.c 0 rfl;have g0:=HZR.out.fz 0;have HG1:=Zh (HZR.out.set0 1);have HB1:=Zh (HBR.out.setCell (p:=⟨w.heap.size,0,none⟩) (Nat.le_refl _) (.int .i64 1));have e3:=HG1.out.c 3 rfl;have g3:=HG1.out.fz 3;go_wp2_with fail;go_roundw
      case rel=>exact⟨to_,rfl,⟨true,rfl⟩,HTO.out.1,Zh ⟨_,_,_,HG1.out.set3 _⟩,Zh (HB1.out.setCell (p:=⟨w.heap.size,3,none⟩) (Nat.le_refl _) _)⟩
      case measure=>have:=HTO.out;simp [intOf] <;> omega
     have HG1:=HZR;have HB1:=HBR;have e3:=HG1.out.c 3 rfl;have g3:=HG1.out.fz 3;go_wp2_with fail;go_roundw
     case rel=>exact⟨to_,rfl,⟨true,rfl⟩,HTO.out.1,Zh ⟨_,_,_,HG1.out.set3 _⟩,Zh (HB1.out.setCell (p:=⟨w.heap.size,3,none⟩) (Nat.le_refl _) _)⟩
     case measure=>have:=HTO.out;simp [intOf] <;> omega
    have heb:((to_:Int)==(m:Int)+1)=false:=Zf heq;cases b
    case false=>
     have e0:=HZR.out.c 0 rfl;have g0:=HZR.out.fz 0;have HG1:=Zh (HZR.out.set0 1);have HB1:=Zh (HBR.out.setCell (p:=⟨w.heap.size,0,none⟩) (Nat.le_refl _) (.int .i64 1));have e3:=HG1.out.c 3 rfl;have g3:=HG1.out.fz 3;go_wp2_with fail;go_roundw
     case rel=>exact⟨to_,rfl,⟨true,rfl⟩,HTO.out.1,Zh ⟨_,_,_,HG1.out.set3 _⟩,Zh (HB1.out.setCell (p:=⟨w.heap.size,3,none⟩) (Nat.le_refl _) _)⟩
     case measure=>have:=HTO.out;simp [intOf] <;> omega
    have HG1:=HZR;have HB1:=HBR;have e3:=HG1.out.c 3 rfl;have g3:=HG1.out.fz 3;go_wp2_with fail;go_roundw
    case rel=>exact⟨to_,rfl,⟨true,rfl⟩,HTO.out.1,Zh ⟨_,_,_,HG1.out.set3 _⟩,Zh (HB1.out.setCell (p:=⟨w.heap.size,3,none⟩) (Nat.le_refl _) _)⟩
    case measure=>have:=HTO.out;simp [intOf] <;> omega
   have h45b:((c.toNat:Int)==45)=false:=Zf h45;cases b
   case false=>
    have e0:=HZR.out.c 0 rfl;have e1:=HZR.out.c 1 rfl;have e2:=HZR.out.c 2 rfl;have e3:=HZR.out.c 3 rfl;have c0:=HZR.out.c 0 rfl;have f0:=HZR.out.fz 0;have s0:=HZR.out.set0 kd;have c1:=s0.c 1 rfl;have f1:=s0.fz 1;have s1:=s0.set1 z;have c2:=s1.c 2 rfl;have f2:=s1.fz 2;have s2:=s1.set2 re;have c3:=s2.c 3 rfl;have f3:=s2.fz 3;have HZE:=Zh (s2.set3 ad);have HBE:=Zh (((((HBR.out.setCell (p:=⟨w.heap.size,0,none⟩) (Nat.le_refl _) (.int .i64 kd)).setCell (p:=⟨w.heap.size,1,none⟩) (Nat.le_refl _) (.int .i64 z)).setCell (p:=⟨w.heap.size,2,none⟩) (Nat.le_refl _) (.string ⟨re.toArray⟩)).setCell (p:=⟨w.heap.size,3,none⟩) (Nat.le_refl _) (.int .i64 ad)));clear s0 s1 s2;go_wp2_with fail;clear e0 e1 e2 e3;clear c0 c1 c2 c3 f0 f1 f2 f3;generalize ((((_:World).setCell ⟨w.heap.size,0,none⟩ _).setCell _ _).setCell _ _).setCell _ _=wE at *;have r0:=HZE.out.c 0 rfl;have r1:=HZE.out.c 1 rfl;have r2:=HZE.out.c 2 rfl;have r3:=HZE.out.c 3 rfl;refine bodyPost_ret (v:= .tuple #[.agg #[.int .i64 kd,.int .i64 z,.string ⟨re.toArray⟩,.int .i64 ad],.int .i64 (n:Int),.int .i64 0]) ?_ rfl ?_
    ·simp [results,Tryz.results56,go_sem,r0,r1,r2,r3]
    exact⟨.mk kd z re ad n 0 HRE.out hn,HBE.out⟩
   have HDM:=Zh (HDG.out w3 m);go_wp2_with fail;refine HDM.out.mono ?_;rintro e w5 ⟨rfl,rfl⟩;cases hdg:dgB s m
   case false=>
    clear hdg HDM;have e0:=HZR.out.c 0 rfl;have e1:=HZR.out.c 1 rfl;have e2:=HZR.out.c 2 rfl;have e3:=HZR.out.c 3 rfl;have c0:=HZR.out.c 0 rfl;have f0:=HZR.out.fz 0;have s0:=HZR.out.set0 kd;have c1:=s0.c 1 rfl;have f1:=s0.fz 1;have s1:=s0.set1 z;have c2:=s1.c 2 rfl;have f2:=s1.fz 2;have s2:=s1.set2 re;have c3:=s2.c 3 rfl;have f3:=s2.fz 3;have HZE:=Zh (s2.set3 ad);have HBE:=Zh (((((HBR.out.setCell (p:=⟨w.heap.size,0,none⟩) (Nat.le_refl _) (.int .i64 kd)).setCell (p:=⟨w.heap.size,1,none⟩) (Nat.le_refl _) (.int .i64 z)).setCell (p:=⟨w.heap.size,2,none⟩) (Nat.le_refl _) (.string ⟨re.toArray⟩)).setCell (p:=⟨w.heap.size,3,none⟩) (Nat.le_refl _) (.int .i64 ad)));clear s0 s1 s2;go_wp2_with fail;clear e0 e1 e2 e3;clear c0 c1 c2 c3 f0 f1 f2 f3;generalize ((((_:World).setCell ⟨w.heap.size,0,none⟩ _).setCell _ _).setCell _ _).setCell _ _=wE at *;have r0:=HZE.out.c 0 rfl;have r1:=HZE.out.c 1 rfl;have r2:=HZE.out.c 2 rfl;have r3:=HZE.out.c 3 rfl;refine bodyPost_ret (v:= .tuple #[.agg #[.int .i64 kd,.int .i64 z,.string ⟨re.toArray⟩,.int .i64 ad],.int .i64 (n:Int),.int .i64 0]) ?_ rfl ?_
    ·simp [results,Tryz.results56,go_sem,r0,r1,r2,r3]
    exact⟨.mk kd z re ad n 0 HRE.out hn,HBE.out⟩
   have HDT:=Zh hdg;have HNB:=Zh (HNU.out w5 m (by omega));clear hdg HDM;go_wp2_with fail;refine HNB.out.mono ?_;rintro e w4 ⟨⟨z1,to_,ok,rfl,hok⟩,rfl⟩;cases ok
   case false=>
    clear hok HNB;have c0:=HZR.out.c 0 rfl;have f0:=HZR.out.fz 0;have s0:=HZR.out.set0 0;have c1:=s0.c 1 rfl;have f1:=s0.fz 1;have s1:=s0.set1 0;have c2:=s1.c 2 rfl;have f2:=s1.fz 2;have s2:=s1.set2n;have c3:=s2.c 3 rfl;have f3:=s2.fz 3;have HZE:=Zh (s2.set3 0);have HBE:=Zh (((((HBR.out.setCell (p:=⟨w.heap.size,0,none⟩) (Nat.le_refl _) (.int .i64 0)).setCell (p:=⟨w.heap.size,1,none⟩) (Nat.le_refl _) (.int .i64 0)).setCell (p:=⟨w.heap.size,2,none⟩) (Nat.le_refl _) (.string ⟨#[]⟩)).setCell (p:=⟨w.heap.size,3,none⟩) (Nat.le_refl _) (.int .i64 0)));clear s0 s1 s2;go_wp2_with fail;clear c0 c1 c2 c3 f0 f1 f2 f3;generalize ((((_:World).setCell ⟨w.heap.size,0,none⟩ _).setCell _ _).setCell _ _).setCell _ _=wE at *;have r0:=HZE.out.c 0 rfl;have r1:=HZE.out.c 1 rfl;have r2:=HZE.out.c 2 rfl;have r3:=HZE.out.c 3 rfl;refine bodyPost_ret (v:= .tuple #[.agg #[.int .i64 0,.int .i64 0,.string ⟨#[]⟩,.int .i64 0],.int .i64 0,.int .i64 200]) ?_ rfl ?_
    ·simp [results,Tryz.results56,go_sem,r0,r1,r2,r3]
    exact⟨.no 200,HBE.out⟩
   have HTO:=Zh (show to_≤s.length∧n < to_ from by
    obtain⟨h1,h2,h3⟩:=hok rfl;have h4:=HNM.out;have h5:=h3 HDT.out;have h6:=dgB_lt HDT.out;exact⟨by omega,by omega⟩)
   clear hok HNB
   by_cases heq:(to_:Int)=(m:Int)
   case pos=>
    have heb:((to_:Int)==(m:Int))=true:=Zt heq;clear heq;have HG1:=HZR;have HB1:=HBR;have e3:=HG1.out.c 3 rfl;have g3:=HG1.out.fz 3;go_wp2_with fail;go_roundw
    case rel=>exact⟨to_,rfl,⟨true,rfl⟩,HTO.out.1,Zh ⟨_,_,_,HG1.out.set3 _⟩,Zh (HB1.out.setCell (p:=⟨w.heap.size,3,none⟩) (Nat.le_refl _) _)⟩
    case measure=>have:=HTO.out;simp [intOf] <;> omega
   have heb:((to_:Int)==(m:Int))=false:=Zf heq;have HG1:=HZR;have HB1:=HBR;have e3:=HG1.out.c 3 rfl;have g3:=HG1.out.fz 3;go_wp2_with fail;go_roundw
   case rel=>exact⟨to_,rfl,⟨true,rfl⟩,HTO.out.1,Zh ⟨_,_,_,HG1.out.set3 _⟩,Zh (HB1.out.setCell (p:=⟨w.heap.size,3,none⟩) (Nat.le_refl _) _)⟩
   case measure=>have:=HTO.out;simp [intOf] <;> omega
  have hki:¬(m:Int) < (s.length:Int):=by omega
  cases b
  case false=>
   have e0:=HZR.out.c 0 rfl;have e1:=HZR.out.c 1 rfl;have e2:=HZR.out.c 2 rfl;have e3:=HZR.out.c 3 rfl;have c0:=HZR.out.c 0 rfl;have f0:=HZR.out.fz 0;have s0:=HZR.out.set0 kd;have c1:=s0.c 1 rfl;have f1:=s0.fz 1;have s1:=s0.set1 z;have c2:=s1.c 2 rfl;have f2:=s1.fz 2;have s2:=s1.set2 re;have c3:=s2.c 3 rfl;have f3:=s2.fz 3;have HZE:=Zh (s2.set3 ad);have HBE:=Zh (((((HBR.out.setCell (p:=⟨w.heap.size,0,none⟩) (Nat.le_refl _) (.int .i64 kd)).setCell (p:=⟨w.heap.size,1,none⟩) (Nat.le_refl _) (.int .i64 z)).setCell (p:=⟨w.heap.size,2,none⟩) (Nat.le_refl _) (.string ⟨re.toArray⟩)).setCell (p:=⟨w.heap.size,3,none⟩) (Nat.le_refl _) (.int .i64 ad)));clear s0 s1 s2;go_wp2_with fail;clear e0 e1 e2 e3;clear c0 c1 c2 c3 f0 f1 f2 f3;generalize ((((_:World).setCell ⟨w.heap.size,0,none⟩ _).setCell _ _).setCell _ _).setCell _ _=wE at *;have r0:=HZE.out.c 0 rfl;have r1:=HZE.out.c 1 rfl;have r2:=HZE.out.c 2 rfl;have r3:=HZE.out.c 3 rfl;refine bodyPost_ret (v:= .tuple #[.agg #[.int .i64 kd,.int .i64 z,.string ⟨re.toArray⟩,.int .i64 ad],.int .i64 (n:Int),.int .i64 0]) ?_ rfl ?_
   ·simp [results,Tryz.results56,go_sem,r0,r1,r2,r3]
   exact⟨.mk kd z re ad n 0 HRE.out hn,HBE.out⟩
  have HDM:=Zh (HDG.out w3 m);go_wp2_with fail;refine HDM.out.mono ?_;rintro e w5 ⟨rfl,rfl⟩;cases hdg:dgB s m
  case false=>
   clear hdg HDM;have e0:=HZR.out.c 0 rfl;have e1:=HZR.out.c 1 rfl;have e2:=HZR.out.c 2 rfl;have e3:=HZR.out.c 3 rfl;have c0:=HZR.out.c 0 rfl;have f0:=HZR.out.fz 0;have s0:=HZR.out.set0 kd;have c1:=s0.c 1 rfl;have f1:=s0.fz 1;have s1:=s0.set1 z;have c2:=s1.c 2 rfl;have f2:=s1.fz 2;have s2:=s1.set2 re;have c3:=s2.c 3 rfl;have f3:=s2.fz 3;have HZE:=Zh (s2.set3 ad);have HBE:=Zh (((((HBR.out.setCell (p:=⟨w.heap.size,0,none⟩) (Nat.le_refl _) (.int .i64 kd)).setCell (p:=⟨w.heap.size,1,none⟩) (Nat.le_refl _) (.int .i64 z)).setCell (p:=⟨w.heap.size,2,none⟩) (Nat.le_refl _) (.string ⟨re.toArray⟩)).setCell (p:=⟨w.heap.size,3,none⟩) (Nat.le_refl _) (.int .i64 ad)));clear s0 s1 s2;go_wp2_with fail;clear e0 e1 e2 e3;clear c0 c1 c2 c3 f0 f1 f2 f3;generalize ((((_:World).setCell ⟨w.heap.size,0,none⟩ _).setCell _ _).setCell _ _).setCell _ _=wE at *;have r0:=HZE.out.c 0 rfl;have r1:=HZE.out.c 1 rfl;have r2:=HZE.out.c 2 rfl;have r3:=HZE.out.c 3 rfl;refine bodyPost_ret (v:= .tuple #[.agg #[.int .i64 kd,.int .i64 z,.string ⟨re.toArray⟩,.int .i64 ad],.int .i64 (n:Int),.int .i64 0]) ?_ rfl ?_
   ·simp [results,Tryz.results56,go_sem,r0,r1,r2,r3]
   exact⟨.mk kd z re ad n 0 HRE.out hn,HBE.out⟩
  have HDT:=Zh hdg;have HNB:=Zh (HNU.out w5 m (by omega));clear hdg HDM;go_wp2_with fail;refine HNB.out.mono ?_;rintro e w4 ⟨⟨z1,to_,ok,rfl,hok⟩,rfl⟩;cases ok
  case false=>
   clear hok HNB;have c0:=HZR.out.c 0 rfl;have f0:=HZR.out.fz 0;have s0:=HZR.out.set0 0;have c1:=s0.c 1 rfl;have f1:=s0.fz 1;have s1:=s0.set1 0;have c2:=s1.c 2 rfl;have f2:=s1.fz 2;have s2:=s1.set2n;have c3:=s2.c 3 rfl;have f3:=s2.fz 3;have HZE:=Zh (s2.set3 0);have HBE:=Zh (((((HBR.out.setCell (p:=⟨w.heap.size,0,none⟩) (Nat.le_refl _) (.int .i64 0)).setCell (p:=⟨w.heap.size,1,none⟩) (Nat.le_refl _) (.int .i64 0)).setCell (p:=⟨w.heap.size,2,none⟩) (Nat.le_refl _) (.string ⟨#[]⟩)).setCell (p:=⟨w.heap.size,3,none⟩) (Nat.le_refl _) (.int .i64 0)));clear s0 s1 s2;go_wp2_with fail;clear c0 c1 c2 c3 f0 f1 f2 f3;generalize ((((_:World).setCell ⟨w.heap.size,0,none⟩ _).setCell _ _).setCell _ _).setCell _ _=wE at *;have r0:=HZE.out.c 0 rfl;have r1:=HZE.out.c 1 rfl;have r2:=HZE.out.c 2 rfl;have r3:=HZE.out.c 3 rfl;refine bodyPost_ret (v:= .tuple #[.agg #[.int .i64 0,.int .i64 0,.string ⟨#[]⟩,.int .i64 0],.int .i64 0,.int .i64 200]) ?_ rfl ?_
   ·simp [results,Tryz.results56,go_sem,r0,r1,r2,r3]
   exact⟨.no 200,HBE.out⟩
  have HTO:=Zh (show to_≤s.length∧n < to_ from by
   obtain⟨h1,h2,h3⟩:=hok rfl;have h4:=HNM.out;have h5:=h3 HDT.out;have h6:=dgB_lt HDT.out;exact⟨by omega,by omega⟩)
  clear hok HNB
  by_cases heq:(to_:Int)=(m:Int)
  case pos=>
   have heb:((to_:Int)==(m:Int))=true:=Zt heq;clear heq;have HG1:=HZR;have HB1:=HBR;have e3:=HG1.out.c 3 rfl;have g3:=HG1.out.fz 3;go_wp2_with fail;go_roundw
   case rel=>exact⟨to_,rfl,⟨true,rfl⟩,HTO.out.1,Zh ⟨_,_,_,HG1.out.set3 _⟩,Zh (HB1.out.setCell (p:=⟨w.heap.size,3,none⟩) (Nat.le_refl _) _)⟩
   case measure=>have:=HTO.out;simp [intOf] <;> omega
  have heb:((to_:Int)==(m:Int))=false:=Zf heq;have HG1:=HZR;have HB1:=HBR;have e3:=HG1.out.c 3 rfl;have g3:=HG1.out.fz 3;go_wp2_with fail;go_roundw
  case rel=>exact⟨to_,rfl,⟨true,rfl⟩,HTO.out.1,Zh ⟨_,_,_,HG1.out.set3 _⟩,Zh (HB1.out.setCell (p:=⟨w.heap.size,3,none⟩) (Nat.le_refl _) _)⟩
  case measure=>have:=HTO.out;simp [intOf] <;> omega
end Go.Proofs.YtndjgbehbgcpkaaGreatDoor
