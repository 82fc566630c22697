/- The reference's reader of command lines: an address's base. -/
import Derived.Test.YtndjgbehbgcpkaaGreatDoorCo2
import Derived.Deep.Cut
set_option linter.unusedVariables false
set_option linter.unusedSimpArgs false
set_option maxRecDepth 100000
set_option maxHeartbeats 4000000
namespace Go.Proofs.YtndjgbehbgcpkaaGreatDoor
open Go Go.Proofs Go.RowKit Go.Ink
def adV (kd z:Int)(re:List UInt8)(ad:Int):Value:= .agg #[.int .i64 kd,.int .i64 z,.string ⟨re.toArray⟩,.int .i64 ad]
def BaseE (s:List UInt8)(a:Nat)(e:Ending):Prop:=∃(kd z:Int) (re:List UInt8) (ad:Int) (nx:Nat) (er:Int),e= .returned (.tuple #[adV kd z re ad,.int .i64 (nx:Int),.int .i64 er])∧re.length≤s.length∧(er=0→a≤nx∧(nx≤a∨nx≤s.length))
theorem BaseE.mk {s:List UInt8}{a:Nat}(kd z:Int)(re:List UInt8)(ad:Int)(nx:Nat)(n:Int)(hn:n=(nx:Int))(hr:re.length≤s.length)(h:a≤nx∧(nx≤a∨nx≤s.length)):BaseE s a (.returned (.tuple #[.agg #[.int .i64 kd,.int .i64 z,.string ⟨re.toArray⟩,.int .i64 ad],.int .i64 n,.int .i64 0])):=by
 subst hn;exact⟨kd,z,re,ad,nx,0,rfl,hr,fun _=>h⟩
theorem BaseE.no {s:List UInt8}{a:Nat}(kd z:Int)(ad:Int)(er:Int)(he:er≠0):BaseE s a (.returned (.tuple #[.agg #[.int .i64 kd,.int .i64 z,.string ⟨#[]⟩,.int .i64 ad],.int .i64 0,.int .i64 er])):=
 ⟨kd,z,[],ad,0,er,rfl,by simp,fun h=>absurd h he⟩
theorem refBase (s:List UInt8)(a:Nat)(w:World)(hs:s.length≤1000000)(ha:a≤1000000):
 Calls Tryz.prog 135 #[.string ⟨s.toArray⟩,.int .i64 (a:Int)] w fun e w'=>BaseE s a e∧Below w.heap.size w w':=by
 have hsz:=size_mk s
 by_cases hlt:a < s.length
 case neg=>
  have hki:(s.length:Int)≤(a:Int):=by omega
  go_enter Tryz.func135,Tryz.ntmps135;go_wp2_with fail;go_returns;exact⟨.mk 0 0 [] 0 a _ rfl (by simp) ⟨Nat.le_refl _,.inl (Nat.le_refl _)⟩,Zab _ _⟩
 have hki:¬(s.length:Int)≤(a:Int):=by omega
 obtain⟨c,hkc⟩:∃c,s[a]? =some c:=⟨_,Zg hlt⟩;have hby:=Zak hkc;have HB1:=Zh (show a≤a+1∧(a+1≤a∨a+1≤s.length) from⟨by omega,.inr (by omega)⟩);have HDL:=Zh (fun(X:World)=>refDelimited s (a+1) c X hs (by omega));have HDG:=Zh (fun(X:World)=>refDigit s a X hs);have HNU:=Zh (fun(X:World)=>refNumber s a X hs ha);have hcv:((a+1:Nat):Int)=(a:Int)+1:=by omega
 rw [hcv]at HDL;clear hkc hcv;go_enter Tryz.func135,Tryz.ntmps135
 by_cases h46:(c.toNat:Int)=46
 case pos=>
  have h46b:((c.toNat:Int)==46)=true:=Zt h46;clear h46;go_wp2_with fail;go_returns;exact⟨.mk 1 0 [] 0 (a+1) _ (by omega) (by simp) HB1.out,Zab _ _⟩
 have h46b:((c.toNat:Int)==46)=false:=Zf h46
 by_cases h36:(c.toNat:Int)=36
 case pos=>
  have h36b:((c.toNat:Int)==36)=true:=Zt h36;clear h36;go_wp2_with fail;go_returns;exact⟨.mk 2 0 [] 0 (a+1) _ (by omega) (by simp) HB1.out,Zab _ _⟩
 have h36b:((c.toNat:Int)==36)=false:=Zf h36
 by_cases h39:(c.toNat:Int)=39
 case pos=>
  have h39b:((c.toNat:Int)==39)=true:=Zt h39;clear h39
  by_cases hl2:a+1 < s.length
  case neg=>
   have hl2i:¬(a:Int)+1 < (s.length:Int):=by omega
   go_wp2_with fail;go_returns;exact⟨.no 0 0 0 200 (by decide),Zab _ _⟩
  obtain⟨d,hkd⟩:∃d,s[a+1]? =some d:=⟨_,Zg hl2⟩;have hby2:=Zak hkd;obtain⟨hz0,hz1,hz2,hz3⟩:=Zew a s.length hlt;obtain⟨hy0,hy1,hy2,hy3,hy4⟩:=idx_two a s.length hl2;have HB2:=Zh (show a≤a+2∧(a+2≤a∨a+2≤s.length) from⟨by omega,.inr (by omega)⟩);clear hkd
  by_cases h97:(97:Int)≤(d.toNat:Int)
  case neg=>
   go_wp2_with fail;go_returns;exact⟨.no 0 0 0 200 (by decide),Zab _ _⟩
  by_cases h122:(d.toNat:Int)≤122
  case neg=>
   go_wp2_with fail;go_returns;exact⟨.no 0 0 0 200 (by decide),Zab _ _⟩
  go_wp2_with fail;go_returns;exact⟨.mk 4 _ [] 0 (a+2) _ (by omega) (by simp) HB2.out,Zab _ _⟩
 have h39b:((c.toNat:Int)==39)=false:=Zf h39
 by_cases h47:(c.toNat:Int)=47
 case pos=>
  have h47b:((c.toNat:Int)==47)=true:=Zt h47;clear h47;go_wp2_with fail;refine(HDL.out _).mono ?_;rintro e w1 ⟨⟨o,nn,b,rfl,ho,hn1,hn2⟩,rfl⟩;have HN:=Zh (show a≤nn∧(nn≤a∨nn≤s.length) from⟨by omega,by omega⟩);clear hn1 hn2;go_wp2_with fail;go_returns;exact⟨.mk 5 0 o 0 nn _ rfl ho HN.out,Zab _ _⟩
 have h47b:((c.toNat:Int)==47)=false:=Zf h47
 by_cases h63:(c.toNat:Int)=63
 case pos=>
  have h63b:((c.toNat:Int)==63)=true:=Zt h63;clear h63;go_wp2_with fail;refine(HDL.out _).mono ?_;rintro e w1 ⟨⟨o,nn,b,rfl,ho,hn1,hn2⟩,rfl⟩;have HN:=Zh (show a≤nn∧(nn≤a∨nn≤s.length) from⟨by omega,by omega⟩);clear hn1 hn2;go_wp2_with fail;go_returns;exact⟨.mk 6 0 o 0 nn _ rfl ho HN.out,Zab _ _⟩
 have h63b:((c.toNat:Int)==63)=false:=Zf h63;go_wp2_with fail;refine(HDG.out _).mono ?_;rintro e w1 ⟨rfl,rfl⟩;cases hdg:dgB s a
 case false=>
  clear hdg;go_wp2_with fail;go_returns;exact⟨.mk 0 0 [] 0 a _ rfl (by simp) ⟨Nat.le_refl _,.inl (Nat.le_refl _)⟩,Zab _ _⟩
 clear hdg;go_wp2_with fail;refine(HNU.out _).mono ?_;rintro e w1 ⟨⟨z,nx,ok,rfl,hok⟩,rfl⟩;cases ok
 case false=>
  clear hok;go_wp2_with fail;go_returns;exact⟨.no 0 0 0 200 (by decide),Zab _ _⟩
 have HN:=Zh (show a≤nx∧(nx≤a∨nx≤s.length) from⟨(hok rfl).1,(hok rfl).2.1⟩);clear hok;go_wp2_with fail;go_returns;exact⟨.mk 3 z [] 0 nx _ rfl (by simp) HN.out,Zab _ _⟩
open Go Go.Proofs Go.RowKit Go.Ink
def OneE (s:List UInt8)(e:Ending):Prop:=∃(kd z:Int) (re:List UInt8) (ad:Int) (nx:Nat) (er:Int),e= .returned (.tuple #[adV kd z re ad,.int .i64 (nx:Int),.int .i64 er])∧re.length≤s.length∧nx≤s.length
theorem OneE.mk {s:List UInt8}(kd z:Int)(re:List UInt8)(ad:Int)(nx:Nat)(er:Int)(hr:re.length≤s.length)(h:nx≤s.length):OneE s (.returned (.tuple #[.agg #[.int .i64 kd,.int .i64 z,.string ⟨re.toArray⟩,.int .i64 ad],.int .i64 (nx:Int),.int .i64 er])):=⟨kd,z,re,ad,nx,er,rfl,hr,h⟩
theorem OneE.no {s:List UInt8}(er:Int):OneE s (.returned (.tuple #[.agg #[.int .i64 0,.int .i64 0,.string ⟨#[]⟩,.int .i64 0],.int .i64 0,.int .i64 er])):=⟨0,0,[],0,0,er,rfl,by simp,by simp⟩
def AdAt (w:World)(g:Nat)(kd z:Int)(re:List UInt8)(ad:Int):Prop:=w.heap[g]? =some (.cells #[.int .i64 kd,.int .i64 z,.string ⟨re.toArray⟩,.int .i64 ad] 33 (0,0))
section
variable {w w':World}{g:Nat}{kd z ad:Int}{re:List UInt8}
theorem AdAt.c (h:AdAt w g kd z re ad)(j:Nat){u:Value}(hj:([Value.int .i64 kd,.int .i64 z,.string ⟨re.toArray⟩,.int .i64 ad]:List Value)[j]? =some u):w.cell? ⟨g,j,none⟩=some u:=by
 rw [Lib.cell_of_heap h];simpa using hj
theorem AdAt.fz (h:AdAt w g kd z re ad)(j:Nat):w.frozen? ⟨g,j,none⟩=false:=Lib.frozen_of_heap h j
theorem AdAt.set0 (h:AdAt w g kd z re ad)(k:Int):AdAt (w.setCell ⟨g,0,none⟩ (.int .i64 k)) g k z re ad:=(Zay h _).trans rfl
theorem AdAt.set1 (h:AdAt w g kd z re ad)(k:Int):AdAt (w.setCell ⟨g,1,none⟩ (.int .i64 k)) g kd k re ad:=(Zay h _).trans rfl
theorem AdAt.set2 (h:AdAt w g kd z re ad)(l:List UInt8):AdAt (w.setCell ⟨g,2,none⟩ (.string ⟨l.toArray⟩)) g kd z l ad:=(Zay h _).trans rfl
theorem AdAt.set2n (h:AdAt w g kd z re ad):AdAt (w.setCell ⟨g,2,none⟩ (.string ⟨#[]⟩)) g kd z [] ad:=h.set2 []
theorem AdAt.set3 (h:AdAt w g kd z re ad)(k:Int):AdAt (w.setCell ⟨g,3,none⟩ (.int .i64 k)) g kd z re k:=(Zay h _).trans rfl
theorem AdAt.later (h:AdAt w g kd z re ad)(hb:Below w.heap.size w w'):AdAt w' g kd z re ad:=(hb.block g (Zaa h)).trans h
theorem AdAt.other (h:AdAt w g kd z re ad){p:Addr}(hp:g≠p.block)(v:Value):AdAt (w.setCell p v) g kd z re ad:=(Below.heap_setCell _ _ _ _ hp).trans h
end
def IsBo (v:Value):Prop:=∃b:Bool,v= .bool b
theorem refOne (s:List UInt8)(w:World)(hs:s.length≤1000000):
 Calls Tryz.prog 82 #[.string ⟨s.toArray⟩] w fun e w'=>OneE s e∧Below w.heap.size w w':=by
 have hsz:=size_mk s;have HBL:=Zh (fun(X:World) (a:Nat) (ha:a≤1000000)=>refBlanks s a X hs ha);have HBS:=Zh (fun(X:World) (a:Nat) (ha:a≤1000000)=>refBase s a X hs ha);have HDG:=Zh (fun(X:World) (a:Nat)=>refDigit s a X hs);have HNU:=Zh (fun(X:World) (a:Nat) (ha:a≤1000000)=>refNumber s a X hs ha);have HB0:=Zh (HBL.out (w.alloc (.cells #[.int .i64 0,.int .i64 0,.string ⟨#[]⟩,.int .i64 0] 33)) 0 (by omega));have hb0:=Zab w (.cells #[.int .i64 0,.int .i64 0,.string ⟨#[]⟩,.int .i64 0] 33);have hz0:=Zae w (.cells #[.int .i64 0,.int .i64 0,.string ⟨#[]⟩,.int .i64 0] 33);go_enter Tryz.func82,Tryz.ntmps82;go_wp2_with fail;refine HB0.out.mono ?_;generalize w.alloc (.cells #[.int .i64 0,.int .i64 0,.string ⟨#[]⟩,.int .i64 0] 33)=w0 at *;rintro e w1 ⟨⟨fr,rfl,hf1,hf2⟩,rfl⟩;have HFR:=Zh (show fr≤s.length by omega);have HW1:=Zh hb0;have HZ1:=Zh (show AdAt w1 w.heap.size 0 0 [] 0 from hz0);have HBF:=Zh (HBS.out w1 fr (by omega));clear hf1 hf2 hb0 hz0 HB0;go_wp2_with fail;refine HBF.out.mono ?_;rintro e w2 ⟨⟨kd,z,re,ad,nx,er,rfl,hre,hnx⟩,hb2⟩;have HW2:=Zh (HW1.out.trans (hb2.mono HW1.out.size));have HZ2:=Zh (HZ1.out.later hb2);have HRE:=Zh hre;unfold adV;clear hb2 hre HBF
 by_cases her:er=0
 case neg=>
  have herb:(er !=0)=true:=bne_iff_ne.2 her;have herq:(er==0)=false:=Zf her;have hbA:=Zab w2 (.cells #[.int .i64 kd,.int .i64 z,.string ⟨re.toArray⟩,.int .i64 ad] 33);have HZA:=Zh (HZ2.out.later hbA);have HBA:=Zh (HW2.out.trans (hbA.mono HW2.out.size));clear hnx hbA;generalize hwA:w2.alloc (.cells #[.int .i64 kd,.int .i64 z,.string ⟨re.toArray⟩,.int .i64 ad] 33)=wA at *;have c0:=HZA.out.c 0 rfl;have f0:=HZA.out.fz 0;have s0:=HZA.out.set0 0;have c1:=s0.c 1 rfl;have f1:=s0.fz 1;have s1:=s0.set1 0;have c2:=s1.c 2 rfl;have f2:=s1.fz 2;have s2:=s1.set2n;have c3:=s2.c 3 rfl;have f3:=s2.fz 3;have HZE:=Zh (s2.set3 0);have HBE:=Zh ((((HBA.out.setCell (p:=⟨w.heap.size,0,none⟩) (Nat.le_refl _) (.int .i64 0)).setCell (p:=⟨w.heap.size,1,none⟩) (Nat.le_refl _) (.int .i64 0)).setCell (p:=⟨w.heap.size,2,none⟩) (Nat.le_refl _) (.string ⟨#[]⟩)).setCell (p:=⟨w.heap.size,3,none⟩) (Nat.le_refl _) (.int .i64 0));clear s0 s1 s2;subst hwA;go_wp2_with fail;clear c0 c1 c2 c3 f0 f1 f2 f3;generalize ((((w2.alloc _).setCell _ _).setCell _ _).setCell _ _).setCell _ _=wE at *;have r0:=HZE.out.c 0 rfl;have r1:=HZE.out.c 1 rfl;have r2:=HZE.out.c 2 rfl;have r3:=HZE.out.c 3 rfl;refine bodyPost_ret (v:= .tuple #[.agg #[.int .i64 0,.int .i64 0,.string ⟨#[]⟩,.int .i64 0],.int .i64 0,.int .i64 er]) ?_ rfl ?_
  ·simp [results,Tryz.results82,go_sem,r0,r1,r2,r3]
  exact⟨.no er,HBE.out⟩
 have hnl:nx≤s.length:=by have h:=hnx her;have:=HFR.out;omega
 subst her;have hbA:=Zab w2 (.cells #[.int .i64 kd,.int .i64 z,.string ⟨re.toArray⟩,.int .i64 ad] 33);have HGA:=Zh (show AdAt (w2.alloc (.cells #[.int .i64 kd,.int .i64 z,.string ⟨re.toArray⟩,.int .i64 ad] 33)) w2.heap.size kd z re ad from Zae w2 _);have HZA:=Zh (HZ2.out.later hbA);have HBA:=Zh (HW2.out.trans (hbA.mono HW2.out.size));have hgw:w.heap.size < w2.heap.size:=Zaa HZ2.out;clear hnx hbA;go_upto_region 5 with fail;generalize w2.alloc (.cells #[.int .i64 kd,.int .i64 z,.string ⟨re.toArray⟩,.int .i64 ad] 33)=wA at *;obtain⟨g,hg⟩:∃g,w2.heap.size=g:=⟨_,rfl⟩;rw [hg]at HGA hgw ⊢;clear hg;go_wp2_with fail
 go_loopw [7,9,10,11,12,13,14] (fun nv tv _ _ _ _ _ wr=>∃n:Nat,nv= .int .i64 (n:Int)∧IsBo tv∧n≤s.length∧Hid (∃kd z ad,AdAt wr g kd z re ad)∧Hid (AdAt wr w.heap.size 0 0 [] 0∧Below w.heap.size w wr)) (fun nv _ _ _ _ _ _ _=>s.length+1 - (intOf nv).toNat)
 case atStart=>exact⟨nx,rfl,⟨_,rfl⟩,hnl,Zh ⟨_,_,_,HGA.out⟩,Zh ⟨HZA.out,HBA.out⟩⟩
 case round=>
  clear HGA HZA HBA HZ1 HZ2 HW1 HW2;obtain⟨n,rfl,⟨b,rfl⟩,hn,HG,HZ⟩:=hrel;obtain⟨kd,z,ad,hgr⟩:=HG.out;have HGR:=Zh hgr;have HZR:=Zh HZ.out.1;have HBR:=Zh HZ.out.2;have HBB:=Zh (HBL.out wr n (by omega));clear hgr HG HZ;go_wp2_with fail;refine HBB.out.mono ?_;rintro e w3 ⟨⟨m,rfl,hm1,hm2⟩,rfl⟩;have hml:m≤s.length:=by omega
  have HNM:=Zh hm1;clear hm1 hm2 HBB
  by_cases hlt:m < s.length
  case pos=>
   have hki:(m:Int) < (s.length:Int):=by omega
   obtain⟨c,hkc⟩:∃c,s[m]? =some c:=⟨_,Zg hlt⟩;have hby:=Zak hkc;clear hkc
   by_cases h43:(c.toNat:Int)=43
   case pos=>
    have h43b:((c.toNat:Int)==43)=true:=Zt h43;clear h43;have HNB:=Zh (HNU.out w3 (m+1) (by omega));rw [show(((m+1):Nat):Int)=(m:Int)+1 by omega]at HNB;go_wp2_with fail;refine HNB.out.mono ?_;rintro e w4 ⟨⟨z1,to_,ok,rfl,hok⟩,rfl⟩;cases ok
    case false=>
     clear hok HNB;have c0:=HZR.out.c 0 rfl;have f0:=HZR.out.fz 0;have s0:=HZR.out.set0 0;have c1:=s0.c 1 rfl;have f1:=s0.fz 1;have s1:=s0.set1 0;have c2:=s1.c 2 rfl;have f2:=s1.fz 2;have s2:=s1.set2n;have c3:=s2.c 3 rfl;have f3:=s2.fz 3;have HZE:=Zh (s2.set3 0);have HBE:=Zh ((((HBR.out.setCell (p:=⟨w.heap.size,0,none⟩) (Nat.le_refl _) (.int .i64 0)).setCell (p:=⟨w.heap.size,1,none⟩) (Nat.le_refl _) (.int .i64 0)).setCell (p:=⟨w.heap.size,2,none⟩) (Nat.le_refl _) (.string ⟨#[]⟩)).setCell (p:=⟨w.heap.size,3,none⟩) (Nat.le_refl _) (.int .i64 0));clear s0 s1 s2;go_wp2_with fail;clear c0 c1 c2 c3 f0 f1 f2 f3;generalize ((((_:World).setCell ⟨w.heap.size,0,none⟩ _).setCell _ _).setCell _ _).setCell _ _=wE at *;have r0:=HZE.out.c 0 rfl;have r1:=HZE.out.c 1 rfl;have r2:=HZE.out.c 2 rfl;have r3:=HZE.out.c 3 rfl;refine bodyPost_ret (v:= .tuple #[.agg #[.int .i64 0,.int .i64 0,.string ⟨#[]⟩,.int .i64 0],.int .i64 0,.int .i64 200]) ?_ rfl ?_
     ·simp [results,Tryz.results82,go_sem,r0,r1,r2,r3]
     exact⟨.no 200,HBE.out⟩
    have HTO:=Zh (show to_≤s.length∧n < to_ from by
     obtain⟨h1,h2,h3⟩:=hok rfl;have h4:=HNM.out;exact⟨by omega,by omega⟩)
    clear hok HNB
    by_cases heq:(to_:Int)=(m:Int)+1
    case pos=>
     have heb:((to_:Int)==(m:Int)+1)=true:=Zt heq;clear heq;cases b
     case false=>
      have e0:=HGR.out.c 0 rfl;have g0:=HGR.out.fz 0;have HG1:=Zh (HGR.out.set0 1);have HZ1:=Zh (HZR.out.other (p:=⟨g,0,none⟩) (Nat.ne_of_lt hgw) (.int .i64 1));have HB1:=Zh (HBR.out.setCell (p:=⟨g,0,none⟩) (Nat.le_of_lt hgw) (.int .i64 1));have e3:=HG1.out.c 3 rfl;have g3:=HG1.out.fz 3;go_wp2_with fail;go_roundw
      case rel=>exact⟨to_,rfl,⟨true,rfl⟩,HTO.out.1,Zh ⟨_,_,_,HG1.out.set3 _⟩,Zh ⟨HZ1.out.other (p:=⟨g,3,none⟩) (Nat.ne_of_lt hgw) _,HB1.out.setCell (p:=⟨g,3,none⟩) (Nat.le_of_lt hgw) _⟩⟩
      case measure=>have:=HTO.out;simp [intOf] <;> omega
     have HG1:=HGR;have HZ1:=HZR;have HB1:=HBR;have e3:=HG1.out.c 3 rfl;have g3:=HG1.out.fz 3;go_wp2_with fail;go_roundw
     case rel=>exact⟨to_,rfl,⟨true,rfl⟩,HTO.out.1,Zh ⟨_,_,_,HG1.out.set3 _⟩,Zh ⟨HZ1.out.other (p:=⟨g,3,none⟩) (Nat.ne_of_lt hgw) _,HB1.out.setCell (p:=⟨g,3,none⟩) (Nat.le_of_lt hgw) _⟩⟩
     case measure=>have:=HTO.out;simp [intOf] <;> omega
    have heb:((to_:Int)==(m:Int)+1)=false:=Zf heq;cases b
    case false=>
     have e0:=HGR.out.c 0 rfl;have g0:=HGR.out.fz 0;have HG1:=Zh (HGR.out.set0 1);have HZ1:=Zh (HZR.out.other (p:=⟨g,0,none⟩) (Nat.ne_of_lt hgw) (.int .i64 1));have HB1:=Zh (HBR.out.setCell (p:=⟨g,0,none⟩) (Nat.le_of_lt hgw) (.int .i64 1));have e3:=HG1.out.c 3 rfl;have g3:=HG1.out.fz 3;go_wp2_with fail;go_roundw
     case rel=>exact⟨to_,rfl,⟨true,rfl⟩,HTO.out.1,Zh ⟨_,_,_,HG1.out.set3 _⟩,Zh ⟨HZ1.out.other (p:=⟨g,3,none⟩) (Nat.ne_of_lt hgw) _,HB1.out.setCell (p:=⟨g,3,none⟩) (Nat.le_of_lt hgw) _⟩⟩
     case measure=>have:=HTO.out;simp [intOf] <;> omega
    have HG1:=HGR;have HZ1:=HZR;have HB1:=HBR;have e3:=HG1.out.c 3 rfl;have g3:=HG1.out.fz 3;go_wp2_with fail;go_roundw
    case rel=>exact⟨to_,rfl,⟨true,rfl⟩,HTO.out.1,Zh ⟨_,_,_,HG1.out.set3 _⟩,Zh ⟨HZ1.out.other (p:=⟨g,3,none⟩) (Nat.ne_of_lt hgw) _,HB1.out.setCell (p:=⟨g,3,none⟩) (Nat.le_of_lt hgw) _⟩⟩
    case measure=>have:=HTO.out;simp [intOf] <;> omega
   have h43b:((c.toNat:Int)==43)=false:=Zf h43
   by_cases h45:(c.toNat:Int)=45
   case pos=>
    have h45b:((c.toNat:Int)==45)=true:=Zt h45;clear h45;have HNB:=Zh (HNU.out w3 (m+1) (by omega));rw [show(((m+1):Nat):Int)=(m:Int)+1 by omega]at HNB;go_wp2_with fail;refine HNB.out.mono ?_;rintro e w4 ⟨⟨z1,to_,ok,rfl,hok⟩,rfl⟩;cases ok
    case false=>
     clear hok HNB;have c0:=HZR.out.c 0 rfl;have f0:=HZR.out.fz 0;have s0:=HZR.out.set0 0;have c1:=s0.c 1 rfl;have f1:=s0.fz 1;have s1:=s0.set1 0;have c2:=s1.c 2 rfl;have f2:=s1.fz 2;have s2:=s1.set2n;have c3:=s2.c 3 rfl;have f3:=s2.fz 3;have HZE:=Zh (s2.set3 0);have HBE:=Zh ((((HBR.out.setCell (p:=⟨w.heap.size,0,none⟩) (Nat.le_refl _) (.int .i64 0)).setCell (p:=⟨w.heap.size,1,none⟩) (Nat.le_refl _) (.int .i64 0)).setCell (p:=⟨w.heap.size,2,none⟩) (Nat.le_refl _) (.string ⟨#[]⟩)).setCell (p:=⟨w.heap.size,3,none⟩) (Nat.le_refl _) (.int .i64 0));clear s0 s1 s2;go_wp2_with fail;clear c0 c1 c2 c3 f0 f1 f2 f3;generalize ((((_:World).setCell ⟨w.heap.size,0,none⟩ _).setCell _ _).setCell _ _).setCell _ _=wE at *;have r0:=HZE.out.c 0 rfl;have r1:=HZE.out.c 1 rfl;have r2:=HZE.out.c 2 rfl;have r3:=HZE.out.c 3 rfl;refine bodyPost_ret (v:= .tuple #[.agg #[.int .i64 0,.int .i64 0,.string ⟨#[]⟩,.int .i64 0],.int .i64 0,.int .i64 200]) ?_ rfl ?_
     ·simp [results,Tryz.results82,go_sem,r0,r1,r2,r3]
     exact⟨.no 200,HBE.out⟩
    have HTO:=Zh (show to_≤s.length∧n < to_ from by
     obtain⟨h1,h2,h3⟩:=hok rfl;have h4:=HNM.out;exact⟨by omega,by omega⟩)
    clear hok HNB
    by_cases heq:(to_:Int)=(m:Int)+1
    case pos=>
     have heb:((to_:Int)==(m:Int)+1)=true:=Zt heq;clear heq;cases b
     case false=>
      have e0:=HGR.out.c 0 rfl;have g0:=HGR.out.fz 0;have HG1:=Zh (HGR.out.set0 1);have HZ1:=Zh (HZR.out.other (p:=⟨g,0,none⟩) (Nat.ne_of_lt hgw) (.int .i64 1));have HB1:=Zh (HBR.out.setCell (p:=⟨g,0,none⟩) (Nat.le_of_lt hgw) (.int .i64 1));have e3:=HG1.out.c 3 rfl;have g3:=HG1.out.fz 3;go_wp2_with fail;go_roundw
      case rel=>exact⟨to_,rfl,⟨true,rfl⟩,HTO.out.1,Zh ⟨_,_,_,HG1.out.set3 _⟩,Zh ⟨HZ1.out.other (p:=⟨g,3,none⟩) (Nat.ne_of_lt hgw) _,HB1.out.setCell (p:=⟨g,3,none⟩) (Nat.le_of_lt hgw) _⟩⟩
      case measure=>have:=HTO.out;simp [intOf] <;> omega
     have HG1:=HGR;have HZ1:=HZR;have HB1:=HBR;have e3:=HG1.out.c 3 rfl;have g3:=HG1.out.fz 3;go_wp2_with fail;go_roundw
     case rel=>exact⟨to_,rfl,⟨true,rfl⟩,HTO.out.1,Zh ⟨_,_,_,HG1.out.set3 _⟩,Zh ⟨HZ1.out.other (p:=⟨g,3,none⟩) (Nat.ne_of_lt hgw) _,HB1.out.setCell (p:=⟨g,3,none⟩) (Nat.le_of_lt hgw) _⟩⟩
     case measure=>have:=HTO.out;simp [intOf] <;> omega
    have heb:((to_:Int)==(m:Int)+1)=false:=Zf heq;cases b
    case false=>
     have e0:=HGR.out.c 0 rfl;have g0:=HGR.out.fz 0;have HG1:=Zh (HGR.out.set0 1);have HZ1:=Zh (HZR.out.other (p:=⟨g,0,none⟩) (Nat.ne_of_lt hgw) (.int .i64 1));have HB1:=Zh (HBR.out.setCell (p:=⟨g,0,none⟩) (Nat.le_of_lt hgw) (.int .i64 1));have e3:=HG1.out.c 3 rfl;have g3:=HG1.out.fz 3;go_wp2_with fail;go_roundw
     case rel=>exact⟨to_,rfl,⟨true,rfl⟩,HTO.out.1,Zh ⟨_,_,_,HG1.out.set3 _⟩,Zh ⟨HZ1.out.other (p:=⟨g,3,none⟩) (Nat.ne_of_lt hgw) _,HB1.out.setCell (p:=⟨g,3,none⟩) (Nat.le_of_lt hgw) _⟩⟩
     case measure=>have:=HTO.out;simp [intOf] <;> omega
    have HG1:=HGR;have HZ1:=HZR;have HB1:=HBR;have e3:=HG1.out.c 3 rfl;have g3:=HG1.out.fz 3;go_wp2_with fail;go_roundw
    case rel=>exact⟨to_,rfl,⟨true,rfl⟩,HTO.out.1,Zh ⟨_,_,_,HG1.out.set3 _⟩,Zh ⟨HZ1.out.other (p:=⟨g,3,none⟩) (Nat.ne_of_lt hgw) _,HB1.out.setCell (p:=⟨g,3,none⟩) (Nat.le_of_lt hgw) _⟩⟩
    case measure=>have:=HTO.out;simp [intOf] <;> omega
   have h45b:((c.toNat:Int)==45)=false:=Zf h45;cases b
   case false=>
    have e0:=HGR.out.c 0 rfl;have e1:=HGR.out.c 1 rfl;have e2:=HGR.out.c 2 rfl;have e3:=HGR.out.c 3 rfl;have c0:=HZR.out.c 0 rfl;have f0:=HZR.out.fz 0;have s0:=HZR.out.set0 kd;have c1:=s0.c 1 rfl;have f1:=s0.fz 1;have s1:=s0.set1 z;have c2:=s1.c 2 rfl;have f2:=s1.fz 2;have s2:=s1.set2 re;have c3:=s2.c 3 rfl;have f3:=s2.fz 3;have HZE:=Zh (s2.set3 ad);have HBE:=Zh ((((HBR.out.setCell (p:=⟨w.heap.size,0,none⟩) (Nat.le_refl _) (.int .i64 kd)).setCell (p:=⟨w.heap.size,1,none⟩) (Nat.le_refl _) (.int .i64 z)).setCell (p:=⟨w.heap.size,2,none⟩) (Nat.le_refl _) (.string ⟨re.toArray⟩)).setCell (p:=⟨w.heap.size,3,none⟩) (Nat.le_refl _) (.int .i64 ad));clear s0 s1 s2;go_wp2_with fail;clear c0 c1 c2 c3 f0 f1 f2 f3;generalize ((((_:World).setCell ⟨w.heap.size,0,none⟩ _).setCell _ _).setCell _ _).setCell _ _=wE at *;have r0:=HZE.out.c 0 rfl;have r1:=HZE.out.c 1 rfl;have r2:=HZE.out.c 2 rfl;have r3:=HZE.out.c 3 rfl;refine bodyPost_ret (v:= .tuple #[.agg #[.int .i64 kd,.int .i64 z,.string ⟨re.toArray⟩,.int .i64 ad],.int .i64 (n:Int),.int .i64 0]) ?_ rfl ?_
    ·simp [results,Tryz.results82,go_sem,r0,r1,r2,r3]
    exact⟨.mk kd z re ad n 0 HRE.out hn,HBE.out⟩
   have HDD:=Zh (HDG.out w3 m);go_wp2_with fail;refine HDD.out.mono ?_;rintro e w5 ⟨rfl,rfl⟩;cases hdg:dgB s m
   case false=>
    clear hdg HDD;have e0:=HGR.out.c 0 rfl;have e1:=HGR.out.c 1 rfl;have e2:=HGR.out.c 2 rfl;have e3:=HGR.out.c 3 rfl;have c0:=HZR.out.c 0 rfl;have f0:=HZR.out.fz 0;have s0:=HZR.out.set0 kd;have c1:=s0.c 1 rfl;have f1:=s0.fz 1;have s1:=s0.set1 z;have c2:=s1.c 2 rfl;have f2:=s1.fz 2;have s2:=s1.set2 re;have c3:=s2.c 3 rfl;have f3:=s2.fz 3;have HZE:=Zh (s2.set3 ad);have HBE:=Zh ((((HBR.out.setCell (p:=⟨w.heap.size,0,none⟩) (Nat.le_refl _) (.int .i64 kd)).setCell (p:=⟨w.heap.size,1,none⟩) (Nat.le_refl _) (.int .i64 z)).setCell (p:=⟨w.heap.size,2,none⟩) (Nat.le_refl _) (.string ⟨re.toArray⟩)).setCell (p:=⟨w.heap.size,3,none⟩) (Nat.le_refl _) (.int .i64 ad));clear s0 s1 s2;go_wp2_with fail;clear c0 c1 c2 c3 f0 f1 f2 f3;generalize ((((_:World).setCell ⟨w.heap.size,0,none⟩ _).setCell _ _).setCell _ _).setCell _ _=wE at *;have r0:=HZE.out.c 0 rfl;have r1:=HZE.out.c 1 rfl;have r2:=HZE.out.c 2 rfl;have r3:=HZE.out.c 3 rfl;refine bodyPost_ret (v:= .tuple #[.agg #[.int .i64 kd,.int .i64 z,.string ⟨re.toArray⟩,.int .i64 ad],.int .i64 (n:Int),.int .i64 0]) ?_ rfl ?_
    ·simp [results,Tryz.results82,go_sem,r0,r1,r2,r3]
    exact⟨.mk kd z re ad n 0 HRE.out hn,HBE.out⟩
   have HDT:=Zh hdg;clear hdg HDD;have HNB:=Zh (HNU.out w5 m (by omega));rw [show((m:Nat):Int)=(m:Int) by omega]at HNB;go_wp2_with fail;refine HNB.out.mono ?_;rintro e w4 ⟨⟨z1,to_,ok,rfl,hok⟩,rfl⟩;cases ok
   case false=>
    clear hok HNB;have c0:=HZR.out.c 0 rfl;have f0:=HZR.out.fz 0;have s0:=HZR.out.set0 0;have c1:=s0.c 1 rfl;have f1:=s0.fz 1;have s1:=s0.set1 0;have c2:=s1.c 2 rfl;have f2:=s1.fz 2;have s2:=s1.set2n;have c3:=s2.c 3 rfl;have f3:=s2.fz 3;have HZE:=Zh (s2.set3 0);have HBE:=Zh ((((HBR.out.setCell (p:=⟨w.heap.size,0,none⟩) (Nat.le_refl _) (.int .i64 0)).setCell (p:=⟨w.heap.size,1,none⟩) (Nat.le_refl _) (.int .i64 0)).setCell (p:=⟨w.heap.size,2,none⟩) (Nat.le_refl _) (.string ⟨#[]⟩)).setCell (p:=⟨w.heap.size,3,none⟩) (Nat.le_refl _) (.int .i64 0));clear s0 s1 s2;go_wp2_with fail;clear c0 c1 c2 c3 f0 f1 f2 f3;generalize ((((_:World).setCell ⟨w.heap.size,0,none⟩ _).setCell _ _).setCell _ _).setCell _ _=wE at *;have r0:=HZE.out.c 0 rfl;have r1:=HZE.out.c 1 rfl;have r2:=HZE.out.c 2 rfl;have r3:=HZE.out.c 3 rfl;refine bodyPost_ret (v:= .tuple #[.agg #[.int .i64 0,.int .i64 0,.string ⟨#[]⟩,.int .i64 0],.int .i64 0,.int .i64 200]) ?_ rfl ?_
    ·simp [results,Tryz.results82,go_sem,r0,r1,r2,r3]
    exact⟨.no 200,HBE.out⟩
   have HTO:=Zh (show to_≤s.length∧n < to_ from by
    obtain⟨h1,h2,h3⟩:=hok rfl;have h4:=HNM.out;exact⟨by omega,by have:=h3 HDT.out;omega⟩)
   clear hok HNB
   by_cases heq:(to_:Int)=(m:Int)
   case pos=>
    have heb:((to_:Int)==(m:Int))=true:=Zt heq;clear heq;have HG1:=HGR;have HZ1:=HZR;have HB1:=HBR;have e3:=HG1.out.c 3 rfl;have g3:=HG1.out.fz 3;go_wp2_with fail;go_roundw
    case rel=>exact⟨to_,rfl,⟨true,rfl⟩,HTO.out.1,Zh ⟨_,_,_,HG1.out.set3 _⟩,Zh ⟨HZ1.out.other (p:=⟨g,3,none⟩) (Nat.ne_of_lt hgw) _,HB1.out.setCell (p:=⟨g,3,none⟩) (Nat.le_of_lt hgw) _⟩⟩
    case measure=>have:=HTO.out;simp [intOf] <;> omega
   have heb:((to_:Int)==(m:Int))=false:=Zf heq;have HG1:=HGR;have HZ1:=HZR;have HB1:=HBR;have e3:=HG1.out.c 3 rfl;have g3:=HG1.out.fz 3;go_wp2_with fail;go_roundw
   case rel=>exact⟨to_,rfl,⟨true,rfl⟩,HTO.out.1,Zh ⟨_,_,_,HG1.out.set3 _⟩,Zh ⟨HZ1.out.other (p:=⟨g,3,none⟩) (Nat.ne_of_lt hgw) _,HB1.out.setCell (p:=⟨g,3,none⟩) (Nat.le_of_lt hgw) _⟩⟩
   case measure=>have:=HTO.out;simp [intOf] <;> omega
  have hki:¬(m:Int) < (s.length:Int):=by omega
  cases b
  case false=>
   have e0:=HGR.out.c 0 rfl;have e1:=HGR.out.c 1 rfl;have e2:=HGR.out.c 2 rfl;have e3:=HGR.out.c 3 rfl;have c0:=HZR.out.c 0 rfl;have f0:=HZR.out.fz 0;have s0:=HZR.out.set0 kd;have c1:=s0.c 1 rfl;have f1:=s0.fz 1;have s1:=s0.set1 z;have c2:=s1.c 2 rfl;have f2:=s1.fz 2;have s2:=s1.set2 re;have c3:=s2.c 3 rfl;have f3:=s2.fz 3;have HZE:=Zh (s2.set3 ad);have HBE:=Zh ((((HBR.out.setCell (p:=⟨w.heap.size,0,none⟩) (Nat.le_refl _) (.int .i64 kd)).setCell (p:=⟨w.heap.size,1,none⟩) (Nat.le_refl _) (.int .i64 z)).setCell (p:=⟨w.heap.size,2,none⟩) (Nat.le_refl _) (.string ⟨re.toArray⟩)).setCell (p:=⟨w.heap.size,3,none⟩) (Nat.le_refl _) (.int .i64 ad));clear s0 s1 s2;go_wp2_with fail;clear c0 c1 c2 c3 f0 f1 f2 f3;generalize ((((_:World).setCell ⟨w.heap.size,0,none⟩ _).setCell _ _).setCell _ _).setCell _ _=wE at *;have r0:=HZE.out.c 0 rfl;have r1:=HZE.out.c 1 rfl;have r2:=HZE.out.c 2 rfl;have r3:=HZE.out.c 3 rfl;refine bodyPost_ret (v:= .tuple #[.agg #[.int .i64 kd,.int .i64 z,.string ⟨re.toArray⟩,.int .i64 ad],.int .i64 (n:Int),.int .i64 0]) ?_ rfl ?_
   ·simp [results,Tryz.results82,go_sem,r0,r1,r2,r3]
   exact⟨.mk kd z re ad n 0 HRE.out hn,HBE.out⟩
  have HDD:=Zh (HDG.out w3 m);go_wp2_with fail;refine HDD.out.mono ?_;rintro e w5 ⟨rfl,rfl⟩;cases hdg:dgB s m
  case false=>
   clear hdg HDD;have e0:=HGR.out.c 0 rfl;have e1:=HGR.out.c 1 rfl;have e2:=HGR.out.c 2 rfl;have e3:=HGR.out.c 3 rfl;have c0:=HZR.out.c 0 rfl;have f0:=HZR.out.fz 0;have s0:=HZR.out.set0 kd;have c1:=s0.c 1 rfl;have f1:=s0.fz 1;have s1:=s0.set1 z;have c2:=s1.c 2 rfl;have f2:=s1.fz 2;have s2:=s1.set2 re;have c3:=s2.c 3 rfl;have f3:=s2.fz 3;have HZE:=Zh (s2.set3 ad);have HBE:=Zh ((((HBR.out.setCell (p:=⟨w.heap.size,0,none⟩) (Nat.le_refl _) (.int .i64 kd)).setCell (p:=⟨w.heap.size,1,none⟩) (Nat.le_refl _) (.int .i64 z)).setCell (p:=⟨w.heap.size,2,none⟩) (Nat.le_refl _) (.string ⟨re.toArray⟩)).setCell (p:=⟨w.heap.size,3,none⟩) (Nat.le_refl _) (.int .i64 ad));clear s0 s1 s2;go_wp2_with fail;clear c0 c1 c2 c3 f0 f1 f2 f3;generalize ((((_:World).setCell ⟨w.heap.size,0,none⟩ _).setCell _ _).setCell _ _).setCell _ _=wE at *;have r0:=HZE.out.c 0 rfl;have r1:=HZE.out.c 1 rfl;have r2:=HZE.out.c 2 rfl;have r3:=HZE.out.c 3 rfl;refine bodyPost_ret (v:= .tuple #[.agg #[.int .i64 kd,.int .i64 z,.string ⟨re.toArray⟩,.int .i64 ad],.int .i64 (n:Int),.int .i64 0]) ?_ rfl ?_
   ·simp [results,Tryz.results82,go_sem,r0,r1,r2,r3]
   exact⟨.mk kd z re ad n 0 HRE.out hn,HBE.out⟩
  have HDT:=Zh hdg;clear hdg HDD;have HNB:=Zh (HNU.out w5 m (by omega));rw [show((m:Nat):Int)=(m:Int) by omega]at HNB;go_wp2_with fail;refine HNB.out.mono ?_;rintro e w4 ⟨⟨z1,to_,ok,rfl,hok⟩,rfl⟩;cases ok
  case false=>
   clear hok HNB;have c0:=HZR.out.c 0 rfl;have f0:=HZR.out.fz 0;have s0:=HZR.out.set0 0;have c1:=s0.c 1 rfl;have f1:=s0.fz 1;have s1:=s0.set1 0;have c2:=s1.c 2 rfl;have f2:=s1.fz 2;have s2:=s1.set2n;have c3:=s2.c 3 rfl;have f3:=s2.fz 3;have HZE:=Zh (s2.set3 0);have HBE:=Zh ((((HBR.out.setCell (p:=⟨w.heap.size,0,none⟩) (Nat.le_refl _) (.int .i64 0)).setCell (p:=⟨w.heap.size,1,none⟩) (Nat.le_refl _) (.int .i64 0)).setCell (p:=⟨w.heap.size,2,none⟩) (Nat.le_refl _) (.string ⟨#[]⟩)).setCell (p:=⟨w.heap.size,3,none⟩) (Nat.le_refl _) (.int .i64 0));clear s0 s1 s2;go_wp2_with fail;clear c0 c1 c2 c3 f0 f1 f2 f3;generalize ((((_:World).setCell ⟨w.heap.size,0,none⟩ _).setCell _ _).setCell _ _).setCell _ _=wE at *;have r0:=HZE.out.c 0 rfl;have r1:=HZE.out.c 1 rfl;have r2:=HZE.out.c 2 rfl;have r3:=HZE.out.c 3 rfl;refine bodyPost_ret (v:= .tuple #[.agg #[.int .i64 0,.int .i64 0,.string ⟨#[]⟩,.int .i64 0],.int .i64 0,.int .i64 200]) ?_ rfl ?_
   ·simp [results,Tryz.results82,go_sem,r0,r1,r2,r3]
   exact⟨.no 200,HBE.out⟩
  have HTO:=Zh (show to_≤s.length∧n < to_ from by
   obtain⟨h1,h2,h3⟩:=hok rfl;have h4:=HNM.out;exact⟨by omega,by have:=h3 HDT.out;omega⟩)
  clear hok HNB
  by_cases heq:(to_:Int)=(m:Int)
  case pos=>
   have heb:((to_:Int)==(m:Int))=true:=Zt heq;clear heq;have HG1:=HGR;have HZ1:=HZR;have HB1:=HBR;have e3:=HG1.out.c 3 rfl;have g3:=HG1.out.fz 3;go_wp2_with fail;go_roundw
   case rel=>exact⟨to_,rfl,⟨true,rfl⟩,HTO.out.1,Zh ⟨_,_,_,HG1.out.set3 _⟩,Zh ⟨HZ1.out.other (p:=⟨g,3,none⟩) (Nat.ne_of_lt hgw) _,HB1.out.setCell (p:=⟨g,3,none⟩) (Nat.le_of_lt hgw) _⟩⟩
   case measure=>have:=HTO.out;simp [intOf] <;> omega
  have heb:((to_:Int)==(m:Int))=false:=Zf heq;have HG1:=HGR;have HZ1:=HZR;have HB1:=HBR;have e3:=HG1.out.c 3 rfl;have g3:=HG1.out.fz 3;go_wp2_with fail;go_roundw
  case rel=>exact⟨to_,rfl,⟨true,rfl⟩,HTO.out.1,Zh ⟨_,_,_,HG1.out.set3 _⟩,Zh ⟨HZ1.out.other (p:=⟨g,3,none⟩) (Nat.ne_of_lt hgw) _,HB1.out.setCell (p:=⟨g,3,none⟩) (Nat.le_of_lt hgw) _⟩⟩
  case measure=>have:=HTO.out;simp [intOf] <;> omega
end Go.Proofs.YtndjgbehbgcpkaaGreatDoor
