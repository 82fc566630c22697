/- The program's reader of addresses: a range. Printed by gca5.py off XPr6. -/
import Derived.Test.YtndjgbehbgcpkaaGreatDoorCa3
import Derived.Test.YtndjgbehbgcpkaaGreatDoorPr5
import Derived.Test.YtndjgbehbgcpkaaGreatDoorKeep
import Derived.Test.YtndjgbehbgcpkaaGreatDoorPrd
import Derived.Deep.Cut
import Derived.WalkLawsBesides
import Derived.Laws.Tables
import Derived.Laws.Rows
set_option linter.unusedVariables false
set_option linter.unusedSimpArgs false
set_option maxRecDepth 100000
set_option maxHeartbeats 4000000
namespace Go.Proofs.YtndjgbehbgcpkaaGreatDoor
open Go Go.Proofs Go.RowKit Go.Ink Go.Sort
theorem adrParse (s:List UInt8)(w:World)(B:Nat)(hB:w.heap.size=B)(hs:s.length≤100000):
 Calls Tryz.prog 26 #[.string ⟨s.toArray⟩] w fun e w'=>ParE s B e w'∧Below B w w':=by
 have hsz:=size_mk s;have HBL:=Zh (fun(X:World) (a:Nat) (ha:a≤1000000)=>adrBlanks s a X (by omega) ha);have HON:=Zh (fun(X:World) (n:Nat)=>adrOne (s.drop n) X (by rw [List.length_drop];omega));have HB0:=Zh (HBL.out (w.alloc (.cells #[.slice none 0 0,.slice none 0 0] 31)) 0 (by omega));have hb0:=Zab w (.cells #[.slice none 0 0,.slice none 0 0] 31);have hz0:=Zae w (.cells #[.slice none 0 0,.slice none 0 0] 31);rw [hB]at hb0 hz0;go_enter Tryz.func26,Tryz.ntmps26;go_wp2_with fail;refine HB0.out.mono ?_;generalize w.alloc (.cells #[.slice none 0 0,.slice none 0 0] 31)=w0 at *;rintro e w1 ⟨⟨m0,rfl,hm1,hm2⟩,rfl⟩;have HW1:=Zh hb0;have HZ1:=Zh (show RgAt w1 B (.slice none 0 0) (.slice none 0 0) from hz0);have hml:m0≤s.length:=by omega
 clear hm1 hm2 hb0 hz0 HB0;have hz1:=HZ1.out;go_upto_region 2 with fail
 by_cases h37:∃c,s[m0]? =some c∧(c.toNat:Int)=37
 case pos=>
  obtain⟨c,hkc,h37⟩:=h37;have hki:(m0:Int) < (s.length:Int):=by have:=(List.getElem?_eq_some_iff.1 hkc).1;omega
  have hlt:m0 < s.length:=(List.getElem?_eq_some_iff.1 hkc).1;have hby:=Zak hkc;have h37b:((c.toNat:Int)==37)=true:=Zt h37;have HM1:=Zh (show m0+1≤s.length from hlt);obtain⟨wA,hwA⟩:∃wA,w1.alloc (.cells #[.int .i64 3,.int .i64 1,.string ⟨#[]⟩,.int .i64 0,.int .i64 2,.int .i64 0,.string ⟨#[]⟩,.int .i64 0] 33)=wA:=⟨_,rfl⟩;have hbA:Below w1.heap.size w1 wA:=hwA▸Zab w1 _;have haA:wA.heap[w1.heap.size]? =some (.cells #[.int .i64 3,.int .i64 1,.string ⟨#[]⟩,.int .i64 0,.int .i64 2,.int .i64 0,.string ⟨#[]⟩,.int .i64 0] 33):=hwA▸Zae w1 _;have hsA:wA.heap.size=w1.heap.size+1:=hwA▸Array.size_push _;obtain⟨wC,hwC⟩:∃wC,wA.alloc (.cells #[.bool false] 4)=wC:=⟨_,rfl⟩;have hbC:Below wA.heap.size wA wC:=hwC▸Zab wA _;have haC:wC.heap[wA.heap.size]? =some (.cells #[.bool false] 4):=hwC▸Zae wA _;rw [hsA]at haC;have HLA:=Zh (ads_two (B:=B) ((hbC.block _ (Zaa haA)).trans haA) (hB▸HW1.out.size));have HSA:=Zh (bos_one (B:=B) haC (Nat.le_succ_of_le (hB▸HW1.out.size)));have HZC:=Zh ((HZ1.out.later hbA).later hbC);have HBC:=Zh ((HW1.out.trans (hbA.mono (hB▸HW1.out.size))).trans (hbC.mono (hB▸(HW1.out.trans (hbA.mono (hB▸HW1.out.size))).size)));have c0:=HZC.out.c0;have f0:=HZC.out.fz 0;have s0:=HZC.out.set0 (.slice (some ⟨w1.heap.size,0,none⟩) 2 2);have c1:=s0.c1;have f1:=s0.fz 1;have HZE:=Zh (s0.set1 (.slice (some ⟨w1.heap.size+1,0,none⟩) 1 1));have HKE:=Zh (((KeepT.refl (fun j=>j=B) wC).setCell (p:=⟨B,0,none⟩) (.inl rfl) (.slice (some ⟨w1.heap.size,0,none⟩) 2 2)).setCell (p:=⟨B,1,none⟩) (.inl rfl) (.slice (some ⟨w1.heap.size+1,0,none⟩) 1 1));have HBw:=Zh (show B < w1.heap.size from HZ1.out.lt);clear s0 hbA haA hbC haC hkc h37 hz1 hlt;go_wp2_with fail;clear c0 c1 f0 f1;generalize (((_:World).setCell ⟨B,0,none⟩ _).setCell _ _)=wE at *;have r0:=HZE.out.c0;have r1:=HZE.out.c1;refine bodyPost_ret (v:= .tuple #[.agg #[.slice (some ⟨w1.heap.size,0,none⟩) 2 2,.slice (some ⟨w1.heap.size+1,0,none⟩) 1 1],.int .i64 ((m0:Int)+1),.int .i64 0]) ?_ rfl ?_
  ·simp [results,Tryz.results26,go_sem,r0,r1]
  have hlw:=HBw.out;exact⟨⟨_,_,_,1,m0+1,0,by simp,HLA.out.kept HKE.out (fun g hg h=>by simp [Value.ownBlock]at hg;omega),HSA.out.kept HKE.out (fun g hg h=>by simp [Value.ownBlock]at hg;omega),HM1.out⟩,HBC.out.trans (HKE.out.below (hB▸HBC.out.size) (fun i hi=>by omega))⟩
 clear hz1
 go_cut [22] from 13 to 23 (fun v wx=>v= .bool false∧Hid (RgAt wx B (.slice none 0 0) (.slice none 0 0)∧Below B w wx))
 case first=>
  by_cases hlt:m0 < s.length
  case pos=>
   obtain⟨c,hkc⟩:∃c,s[m0]? =some c:=⟨_,Zg hlt⟩;have hki:(m0:Int) < (s.length:Int):=by omega
   have hby:=Zak hkc;have h37n:¬(c.toNat:Int)=37:=fun e=>h37 ⟨c,hkc,e⟩;have h37b:((c.toNat:Int)==37)=false:=Zf h37n;clear hkc h37 h37n hlt;go_wp2_with fail;go_meet
   case rel=>exact⟨rfl,Zh ⟨HZ1.out,HW1.out⟩⟩
  have hki:¬(m0:Int) < (s.length:Int):=by omega
  clear h37;go_wp2_with fail;go_meet
  case rel=>exact⟨rfl,Zh ⟨HZ1.out,HW1.out⟩⟩
 case rest=>
  obtain⟨rfl,HC⟩:=hcut;clear h37 hml HZ1 HW1;go_wp2_with fail
  go_loopw [3,6,7,8,9,10] (fun nv _ _ _ _ _ wr=>∃n:Nat,nv= .int .i64 (n:Int)∧n≤s.length∧Hid (∃lv l sv sn,RgAt wr B lv sv∧Zaz wr B lv l∧Zbh wr B sv sn∧l.length≤n∧sn≤n)∧Hid (Below B w wr)) (fun nv _ _ _ _ _ _=>s.length+1 - (intOf nv).toNat)
  case atStart=>exact⟨0,rfl,Nat.zero_le _,Zh ⟨_,[],_,0,HC.out.1,Zaz.nil _ _,Zbh.nil _ _,Nat.le_refl _,Nat.le_refl _⟩,Zh HC.out.2⟩
  case round=>
   clear HC;obtain⟨n,rfl,hn,HR,HZ⟩:=hrel;obtain⟨lv,l,sv,sn,hrg,hlo,hso,hll,hsn⟩:=HR.out;have HRG:=Zh hrg;have HLO:=Zh hlo;have HSO:=Zh hso;have HBZ:=Zh (show B≤wr.heap.size from hB▸HZ.out.size);have HO1:=Zh (HON.out wr n);have he1:=Zcg s n;have hni:(n:Int)≤(s.length:Int):=by omega
   clear hrg hlo hso HR;go_wp2_with fail;refine HO1.out.mono ?_;rintro e w3 ⟨⟨kd,z,re,ad,to_,er,rfl,hre,hto⟩,hb3⟩;have hto2:n+to_≤s.length:=by rw [List.length_drop]at hto;omega
   have hre2:re.length≤1000000:=by rw [List.length_drop]at hre;omega
   have HRE:=Zh hre2;unfold adV;obtain⟨wA,hwA⟩:∃wA,w3.alloc (.cells #[.int .i64 kd,.int .i64 z,.string ⟨re.toArray⟩,.int .i64 ad] 33)=wA:=⟨_,rfl⟩;have hbA:Below wr.heap.size wr wA:=hwA▸hb3.trans ((Zab w3 _).mono hb3.size);have HAA:=Zh (show AdAt wA w3.heap.size kd z re ad from hwA▸Zae w3 _);have HRA:=Zh (HRG.out.later hbA);have HLA:=Zh (HLO.out.later hbA);have HSA:=Zh (HSO.out.later hbA);have HBA:=Zh (HZ.out.trans (hbA.mono (hB▸HZ.out.size)));have HAB:=Zh (show B≤wA.heap.size from Nat.le_trans HBZ.out hbA.size);clear hto hre hre2 hbA hb3 HO1 he1 hni HRG HLO HSO HZ
   by_cases her:er=0
   case neg=>
    have herb:(er !=0)=true:=bne_iff_ne.2 her;have herq:(er==0)=false:=Zf her;have c0:=HRA.out.c0;have f0:=HRA.out.fz 0;have s0:=HRA.out.set0 (.slice none 0 0);have c1:=s0.c1;have f1:=s0.fz 1;have HZE:=Zh (s0.set1 (.slice none 0 0));have HKE:=Zh (((KeepT.refl (fun j=>j=B) wA).setCell (p:=⟨B,0,none⟩) (.inl rfl) (.slice none 0 0)).setCell (p:=⟨B,1,none⟩) (.inl rfl) (.slice none 0 0));clear s0;go_wp2_with fail;clear c0 c1 f0 f1;generalize (((_:World).setCell ⟨B,0,none⟩ _).setCell _ _)=wE at *;have r0:=HZE.out.c0;have r1:=HZE.out.c1;refine bodyPost_ret (v:= .tuple #[.agg #[.slice none 0 0,.slice none 0 0],.int .i64 0,.int .i64 er]) ?_ rfl ?_
    ·simp [results,Tryz.results26,go_sem,r0,r1]
    exact⟨⟨_,[],_,0,0,er,by simp,Zaz.nil _ _,Zbh.nil _ _,Nat.zero_le _⟩,HBA.out.trans (HKE.out.below HAB.out (fun i hi=>by omega))⟩
   subst her;have HBN:=Zh (HBL.out wA (n+to_) (by omega));rw [show((n+to_:Nat):Int)=(n:Int)+(to_:Int) by omega]at HBN;go_wp2_with fail;refine HBN.out.mono ?_;rintro e w4 ⟨⟨m,rfl,hm1,hm2⟩,rfl⟩;have hml:m≤s.length:=by omega
   have HNM:=Zh (show n≤m by omega);clear hm1 hm2 HBN;go_upto_region 9 with fail
   go_cut [10] from 48 to 64 (fun v wx=>MoreV s m v∧wx=w4)
   case first=>
    by_cases hlt:m < s.length
    case neg=>
     have hki:¬(m:Int) < (s.length:Int):=by omega
     go_wp2_with fail;go_meet
     case rel=>exact⟨.mk false (fun h=>by cases h),rfl⟩
    obtain⟨c,hkc⟩:∃c,s[m]? =some c:=⟨_,Zg hlt⟩;have hki:(m:Int) < (s.length:Int):=by omega
    have hby:=Zak hkc;have HLT:=Zh hlt;clear hkc
    by_cases h44:(c.toNat:Int)=44
    case pos=>
     have h44b:((c.toNat:Int)==44)=true:=Zt h44;clear h44;go_wp2_with fail;go_meet
     case rel=>exact⟨.mk true (fun _=>HLT.out),rfl⟩
    have h44b:((c.toNat:Int)==44)=false:=Zf h44
    by_cases h59:(c.toNat:Int)=59
    case pos=>
     have h59b:((c.toNat:Int)==59)=true:=Zt h59;clear h59;go_wp2_with fail;go_meet
     case rel=>exact⟨.mk true (fun _=>HLT.out),rfl⟩
    have h59b:((c.toNat:Int)==59)=false:=Zf h59;go_wp2_with fail;go_meet
    case rel=>exact⟨.mk false (fun h=>by cases h),rfl⟩
   case rest=>
    obtain⟨⟨mo,rfl,hmo⟩,hw⟩:=hcut;subst hw;have HMO:=Zh hmo;clear hmo hwA;obtain⟨al,cl,hlv⟩:=HLA.out.shape;subst hlv;obtain⟨L,hL⟩:∃L,l.length=L:=⟨_,rfl⟩;rw [hL]at HRA HLA;have hLn:L≤n:=by omega
    have HLL:=Zh hL;clear hL;have q0:=HRA.out.c0;have a0:=HAA.out.c 0 rfl;go_upto_region 10 with fail
    go_cut [75] from 64 to 76 (fun v wx=>IsBo v∧wx=wc)
    case first=>
     cases mo
     case true=>
      go_wp2_with fail
      all_goals(go_meet;(case rel=>exact⟨⟨_,rfl⟩,rfl⟩))
     by_cases hl0:0 < L
     case pos=>
      have hl0i:(0:Int) < (L:Int):=by omega
      clear hl0;go_wp2_with fail;go_meet
      case rel=>exact⟨⟨_,rfl⟩,rfl⟩
     have hl0i:¬(0:Int) < (L:Int):=by omega
     by_cases hk0:kd=0
     case pos=>
      have hkb:(kd !=0)=false:=by rw [hk0];rfl
      have hkq:(kd==0)=true:=Zt hk0;clear hk0;go_wp2_with fail;go_meet
      case rel=>exact⟨⟨_,rfl⟩,rfl⟩
     have hkb:(kd !=0)=true:=bne_iff_ne.2 hk0;have hkq:(kd==0)=false:=Zf hk0;go_wp2_with fail;go_meet
     case rel=>exact⟨⟨_,rfl⟩,rfl⟩
    case rest=>
     rename_i wd;obtain⟨⟨b,rfl⟩,hw⟩:=hcut;subst hw;clear q0 a0
     go_upto_if 75 with fail
     go_cut [] from 76 to 82 (fun wx=>Hid (∃lv l',RgAt wx B lv sv∧Zaz wx B lv l'∧l'.length≤n+1)∧Hid (Zbh wx B sv sn∧Below B w wx))
     case first=>
      cases b
      case false=>
       go_wp2_with fail;go_meet
       case rel=>exact⟨Zh ⟨_,l,HRA.out,HLA.out,by have:=HLL.out;omega⟩,Zh ⟨HSA.out,HBA.out⟩⟩
      have q0:=HRA.out.c0;have a0:=HAA.out.c 0 rfl;have a1:=HAA.out.c 1 rfl;have a2:=HAA.out.c 2 rfl;have a3:=HAA.out.c 3 rfl;have hbX:=Zab wc (.cells #[.int .i64 kd,.int .i64 z,.string ⟨re.toArray⟩,.int .i64 ad] 33);have HBX:=Zh (show(wc.alloc (.cells #[.int .i64 kd,.int .i64 z,.string ⟨re.toArray⟩,.int .i64 ad] 33)).heap[wc.heap.size]? =some (.cells (adC (kd,z,re,ad)).toArray 33 (0,0)) from Zae wc _);have HLX:=Zh (HLA.out.later hbX);have HRX:=Zh (HRA.out.later hbX);have HSX:=Zh (HSA.out.later hbX);have HWX:=Zh (HBA.out.trans (hbX.mono (hB▸HBA.out.size)));have HIX:=Zh (show B≤(wc.alloc (.cells #[.int .i64 kd,.int .i64 z,.string ⟨re.toArray⟩,.int .i64 ad] 33)).heap.size from Nat.le_trans HAB.out hbX.size);have HNB:=Zh (show l.length≤1000000 by have:=HLL.out;omega);clear hbX
      go_wp2_with (at_builtin;refine wpList_append_ad (B:=B) (l:=l) rfl _ _ rfl rfl HLX.out HIX.out _ rfl (kd,z,re,ad) _ HBX.out HRE.out HNB.out ?_;rintro g1 cap1 w5 ho hgr hat hlt
                   have HO5:=Zh ho;have HK5:=Zh (Zdb hgr);have HR5:=Zh (HRX.out.kept HK5.out (Zbv HLX.out HRX.out (by decide)));have HS5:=Zh (HSX.out.kept HK5.out (fun k hk hk2=>ads_bos HLX.out HSX.out k hk2 hk));have HW5:=Zh (HWX.out.trans (Zeh hgr (hB▸HWX.out.size) (fun k hk=>(HLX.out.kind hk).1)));have q0:=HR5.out.c0;have p0:=HR5.out.fz 0;clear ho hgr hat hlt)
      have HKG:=Zh ((KeepT.refl (fun j=>j=B) w5).setCell (p:=⟨B,0,none⟩) (.inl rfl) (.slice (some ⟨g1,0,none⟩) (l.length+1) cap1));have HOG:=Zh (HO5.out.kept HKG.out (fun k hk e=>Zbv HO5.out HR5.out (by decide) (e▸hk)));have HSG:=Zh (HS5.out.kept HKG.out (fun k hk e=>Zcx HS5.out HR5.out (by decide) (e▸hk)));have HWG:=Zh (HW5.out.trans (HKG.out.below (hB▸HW5.out.size) (fun k hk=>by omega)));have HRG:=Zh (HR5.out.set0 (.slice (some ⟨g1,0,none⟩) (l.length+1) cap1));go_meet
      case rel=>exact⟨Zh ⟨_,_,HRG.out,HOG.out,by rw [List.length_append,List.length_singleton];have:=HLL.out;omega⟩,Zh ⟨HSG.out,HWG.out⟩⟩
     case rest=>
      obtain⟨H1,H2⟩:=hcut;clear HAA HRA HLA HSA HBA HAB HLL hLn;obtain⟨lv2,l2,hr2,hl2,hn2⟩:=H1.out;have HR2:=Zh hr2;have HL2:=Zh hl2;have HN2:=Zh hn2;have HS2:=Zh H2.out.1;have HW2:=Zh H2.out.2;clear H1 H2 hr2 hl2 hn2;obtain⟨a2,c2,hv2⟩:=HL2.out.shape;subst hv2;obtain⟨L2,hL2⟩:∃L2,l2.length=L2:=⟨_,rfl⟩;rw [hL2]at HR2 HL2;clear hL2;obtain⟨a3,c3,hv3⟩:=HS2.out.shape;subst hv3;cases mo
      case false=>
       have q1:=HR2.out.c1;have c0:=HR2.out.c0;have f0:=HR2.out.fz 0;have s0:=HR2.out.set0 (.slice a2 L2 c2);have c1:=s0.c1;have f1:=s0.fz 1;have HZE:=Zh (s0.set1 (.slice a3 sn c3));have HKE:=Zh (((KeepT.refl (fun j=>j=B) wc).setCell (p:=⟨B,0,none⟩) (.inl rfl) (.slice a2 L2 c2)).setCell (p:=⟨B,1,none⟩) (.inl rfl) (.slice a3 sn c3));clear s0;go_wp2_with fail;clear c0 c1 f0 f1 q1;generalize (((_:World).setCell ⟨B,0,none⟩ _).setCell _ _)=wE at *;have r0:=HZE.out.c0;have r1:=HZE.out.c1;refine bodyPost_ret (v:= .tuple #[.agg #[.slice a2 L2 c2,.slice a3 sn c3],.int .i64 ((n:Int)+(to_:Int)),.int .i64 0]) ?_ rfl ?_
       ·simp [results,Tryz.results26,go_sem,r0,r1]
       exact⟨⟨_,l2,_,sn,n+to_,0,by simp,HL2.out.kept HKE.out (fun k hk e=>Zbv HL2.out HR2.out (by decide) (e▸hk)),HS2.out.kept HKE.out (fun k hk e=>Zcx HS2.out HR2.out (by decide) (e▸hk)),hto2⟩,HW2.out.trans (HKE.out.below (hB▸HW2.out.size) (fun k hk=>by omega))⟩
      have hlt:=HMO.out rfl;obtain⟨c,hkc⟩:∃c,s[m]? =some c:=⟨_,Zg hlt⟩;have hki:(m:Int) < (s.length:Int):=by omega
      have hby:=Zak hkc;have q1:=HR2.out.c1;have HLT:=Zh hlt;clear hkc hlt;obtain⟨bb,hbb⟩:∃bb:Bool,((c.toNat:Int)==59)=bb:=⟨_,rfl⟩;go_upto_region 14 with fail;have hbX:=Zab wc (.cells #[.bool bb] 4);have HBX:=Zh (fun(W:World) (hW:W.heap=(wc.alloc (.cells #[.bool bb] 4)).heap)=>(show W.heap[wc.heap.size]? =some (.cells #[.bool bb] 4) from by rw [hW];exact Zae wc _));have HSX:=Zh (fun(W:World) (hW:W.heap=(wc.alloc (.cells #[.bool bb] 4)).heap)=>(show Zbh W B (.slice a3 sn c3) sn from by have h:=HS2.out.later hbX;unfold Zbh World.ownsRow at h ⊢;rw [hW];exact h));have HIX:=Zh (fun(W:World) (hW:W.heap=(wc.alloc (.cells #[.bool bb] 4)).heap)=>(show B≤W.heap.size from by rw [hW];exact Nat.le_trans (hB▸HW2.out.size) hbX.size));have HRX:=Zh (fun(W:World) (hW:W.heap=(wc.alloc (.cells #[.bool bb] 4)).heap)=>(show RgAt W B (.slice a2 L2 c2) (.slice a3 sn c3) from by have h:=HR2.out.later hbX;unfold RgAt at h ⊢;rw [hW];exact h));have HLX:=Zh (fun(W:World) (hW:W.heap=(wc.alloc (.cells #[.bool bb] 4)).heap)=>(show Zaz W B (.slice a2 L2 c2) l2 from by have h:=HL2.out.later hbX;unfold Zaz World.ownsRow at h ⊢;rw [hW];exact h));have HWX:=Zh (HW2.out.trans (hbX.mono (hB▸HW2.out.size)));have HNS:=Zh (show sn≤1000000 by omega);have q1a:=(hbX.cell (p:=⟨B,1,none⟩) (Zbt q1)).trans q1;clear hbX
      go_region_law (refine step_append_bo (B:=B) rfl (.tmp 87) (.tmp 92) rfl (by kernel_rfl) (HSX.out _ rfl) (HIX.out _ rfl) wc.heap.size (by kernel_rfl) (.bool bb) rfl 4 (HBX.out _ rfl) HNS.out ?_;rintro g1 cap1 w5 ho hgr hat hlt;have HO5:=Zh ho;have HK5:=Zh (Zdb hgr);have HR5:=Zh ((HRX.out (wc.alloc (.cells #[.bool bb] 4)).drew rfl).kept HK5.out (Zcx (HSX.out (wc.alloc (.cells #[.bool bb] 4)).drew rfl) (HRX.out (wc.alloc (.cells #[.bool bb] 4)).drew rfl) (by decide)));have HL5:=Zh ((HLX.out (wc.alloc (.cells #[.bool bb] 4)).drew rfl).kept HK5.out (fun k hk hk2=>ads_bos (HLX.out (wc.alloc (.cells #[.bool bb] 4)).drew rfl) (HSX.out (wc.alloc (.cells #[.bool bb] 4)).drew rfl) k hk hk2));have HW5:=Zh (HWX.out.drew.trans (Zeh hgr (HIX.out (wc.alloc (.cells #[.bool bb] 4)).drew rfl) (fun k hk=>((HSX.out (wc.alloc (.cells #[.bool bb] 4)).drew rfl).kind hk).1)));have p1:=HR5.out.c1;have p2:=HR5.out.fz 1;clear ho hgr hat hlt)
      all_goals(
       have HKG:=Zh ((KeepT.refl (fun j=>j=B) w5).setCell (p:=⟨B,1,none⟩) (.inl rfl) (.slice (some ⟨g1,0,none⟩) (sn+1) cap1));have HOG:=Zh (HO5.out.kept HKG.out (fun k hk e=>Zcx HO5.out HR5.out (by decide) (e▸hk)));have HLG:=Zh (HL5.out.kept HKG.out (fun k hk e=>Zbv HL5.out HR5.out (by decide) (e▸hk)));have HWG:=Zh (HW5.out.trans (HKG.out.below (hB▸HW5.out.size) (fun k hk=>by omega)));have HRG:=Zh (HR5.out.set1 (.slice (some ⟨g1,0,none⟩) (sn+1) cap1));have HNE:=Zh (show m+1≤s.length∧l2.length≤m+1∧sn+1≤m+1∧n≤m from by have h1:=HLT.out;have h2:=HN2.out;have h3:=HNM.out;exact⟨h1,by omega,by omega,h3⟩);clear p1 p2 q1 q1a;go_wp2_with fail;go_roundw
       case rel=>exact⟨m+1,by go_num,HNE.out.1,Zh ⟨_,l2,_,sn+1,HRG.out,HLG.out,HOG.out,HNE.out.2.1,HNE.out.2.2.1⟩,HWG⟩
       case measure=>have:=HNE.out;simp [intOf] <;> omega)
open Go Go.Proofs Go.RowKit Go.Ink Go.Sort
inductive Nd where
 | mk (k:Int) (c:UInt8) (set:Nat→Bool) (n mn:Nat) (mx:Int) (kids:List Nd)
def Nd.k:Nd→Int | .mk k _ _ _ _ _ _=>k
def Nd.c:Nd→UInt8 | .mk _ c _ _ _ _ _=>c
def Nd.set:Nd→Nat→Bool | .mk _ _ s _ _ _ _=>s
def Nd.n:Nd→Nat | .mk _ _ _ n _ _ _=>n
def Nd.mn:Nd→Nat | .mk _ _ _ _ m _ _=>m
def Nd.mx:Nd→Int | .mk _ _ _ _ _ m _=>m
def Nd.kids:Nd→List Nd | .mk _ _ _ _ _ _ l=>l
inductive NdOk:Nd→Prop
 | mk (x:Nd) (hk:1≤x.k∧x.k≤8) (hn:x.n≤9) (h1:x.k=6∨x.k=7→1≤x.n) (hm:x.mn≤255) (hx:-1≤x.mx∧x.mx≤255) (hb:0≤x.mx→(x.mn:Int)≤x.mx) (hl:x.k≠7→x.k≠8→x.kids=[]) (h8:x.k=8→x.kids.length=1) (hy:∀y∈x.kids,NdOk y):NdOk x
structure NdIs (cs:Array Value) (o:Nat) (x:Nd) (kid:Value):Prop where
 k:cs[o]? =some (.int .i64 x.k)
 c:cs[o+1]? =some (.int .u8 (x.c.toNat:Int))
 set:∀j,j < 256→cs[o+(2+j)]? =some (.bool (x.set j))
 n:cs[o+258]? =some (.int .i64 (x.n:Int))
 mn:cs[o+259]? =some (.int .i64 (x.mn:Int))
 mx:cs[o+260]? =some (.int .i64 x.mx)
 kids:cs[o+261]? =some kid
theorem NdIs.move {cs ds:Array Value}{o o':Nat}{x:Nd}{kid:Value}(h:NdIs cs o x kid)(he:∀j u,j < 262→cs[o+j]? =some u→ds[o'+j]? =some u):NdIs ds o' x kid:=
 ⟨he 0 _ (by omega) h.k,he 1 _ (by omega) h.c,fun j hj=>he (2+j) _ (by omega) (h.set j hj),he 258 _ (by omega) h.n,he 259 _ (by omega) h.mn,he 260 _ (by omega) h.mx,he 261 _ (by omega) h.kids⟩
inductive TreeOf (w:World) (S:Nat→Prop):Value→List Nd→Prop
 | nil:TreeOf w S (.slice none 0 0) []
 | row (b n cap:Nat) (cs:Array Value) (fr:Nat×Nat) (x:Nat→Nd) (kid:Nat→Value) (l:List Nd) (hS:¬S b) (hh:w.heap[b]? =some (.cells cs 242 fr)) (hn:n≤maxLen) (hl:l.length=n) (hx:∀i,i < n→l[i]? =some (x i)) (hv:∀i,i < n→NdIs cs (262 * i) (x i) (kid i)) (hk:∀i,i < n→TreeOf w S (kid i) (x i).kids):TreeOf w S (.slice (some ⟨b,0,none⟩) n cap) l
section
variable {w w':World}{S S':Nat→Prop}{v:Value}{l:List Nd}
theorem TreeOf.kept {Z:Nat→Prop}(h:TreeOf w S v l)(hk:KeepT Z w w')(hz:∀j,Z j→S j∨∀cs fr,w.heap[j]?≠some (.cells cs 242 fr)):TreeOf w' S v l:=by
 induction h with
 | nil=>exact .nil
 | row b n cap cs fr x kid l hS hh hn hl hx hv _ ih=>exact .row b n cap cs fr x kid l hS ((hk.block b (Zaa hh) (fun e=>(hz b e).elim hS (fun g=>g _ _ hh))).trans hh) hn hl hx hv ih
theorem TreeOf.later (h:TreeOf w S v l)(hb:Below w.heap.size w w'):TreeOf w' S v l:=h.kept (KeepT.of_below (S:=fun _=>False) hb) (fun _ h=>h.elim)
theorem TreeOf.mono (h:TreeOf w S v l)(hs:∀j,j < w.heap.size→S' j→S j):TreeOf w S' v l:=by
 induction h with
 | nil=>exact .nil
 | row b n cap cs fr x kid l hS hh hn hl hx hv _ ih=>exact .row b n cap cs fr x kid l (fun e=>hS (hs b (Zaa hh) e)) hh hn hl hx hv ih
theorem TreeOf.one (h:TreeOf w S v l):v.oneCell'=true:=by
 cases h <;> rfl
end
theorem NdIs.one {nc:Array Value}{x:Nd}{kid:Value}(h:NdIs nc 0 x kid)(hz:nc.size=262)(hk:kid.oneCell'=true):nc.all (·.oneCell')=true:=by
 rw [Array.all_eq_true];intro i hi;have hg:=Array.getElem?_eq_getElem hi;have hcase:i=0∨i=1∨(2≤i∧i < 258)∨i=258∨i=259∨i=260∨i=261:=by omega
 have key:∀u,nc[i]? =some u→u.oneCell'=true→(nc[i]).oneCell'=true:=by
  intro u hu h1;rw [hg]at hu;simp only [Option.some.injEq]at hu;rw [hu];exact h1
 rcases hcase with rfl | rfl | ⟨h1,h2⟩ | rfl | rfl | rfl | rfl
 ·exact key _ h.k rfl
 ·exact key _ h.c rfl
 ·have h3:=h.set (i - 2) (by omega)
  rw [show 0+(2+(i - 2))=i by omega]at h3;exact key _ h3 rfl
 ·exact key _ h.n rfl
 ·exact key _ h.mn rfl
 ·exact key _ h.mx rfl
 ·exact key _ h.kids hk
structure Ps where
 left:List UInt8
 tr:Value
 gr:Nat
 pt:Nat
 rf:Bool
 op:Value
def psC (p:Ps):Array Value:=#[.string ⟨p.left.toArray⟩,p.tr,.int .i64 (p.gr:Int),.int .i64 (p.pt:Int),.bool p.rf,p.op]
def PsAt (w:World)(b:Nat)(p:Ps):Prop:=w.heap[b]? =some (.cells (psC p) 214 (0,0))
section
variable {w w':World}{b:Nat}{p:Ps}
theorem PsAt.lt (h:PsAt w b p):b < w.heap.size:=Zaa h
theorem PsAt.cel (h:PsAt w b p)(j:Nat){u:Value}(hj:(psC p)[j]? =some u):w.cell? ⟨b,j,none⟩=some u:=by
 rw [Lib.cell_of_heap h];exact hj
theorem PsAt.c0 (h:PsAt w b p):w.cell? ⟨b,0,none⟩=some (.string ⟨p.left.toArray⟩):=h.cel 0 rfl
theorem PsAt.c2 (h:PsAt w b p):w.cell? ⟨b,2,none⟩=some (.int .i64 (p.gr:Int)):=h.cel 2 rfl
theorem PsAt.c3 (h:PsAt w b p):w.cell? ⟨b,3,none⟩=some (.int .i64 (p.pt:Int)):=h.cel 3 rfl
theorem PsAt.c4 (h:PsAt w b p):w.cell? ⟨b,4,none⟩=some (.bool p.rf):=h.cel 4 rfl
theorem PsAt.c5 (h:PsAt w b p):w.cell? ⟨b,5,none⟩=some p.op:=h.cel 5 rfl
theorem PsAt.fz (h:PsAt w b p)(j:Nat):w.frozen? ⟨b,j,none⟩=false:=Lib.frozen_of_heap h j
theorem PsAt.later (h:PsAt w b p)(hb:Below w.heap.size w w'):PsAt w' b p:=(hb.block b (Zaa h)).trans h
theorem PsAt.kept {S:Nat→Prop}(h:PsAt w b p)(hk:KeepT S w w')(hn:¬S b):PsAt w' b p:=(hk.block b (Zaa h) hn).trans h
theorem PsAt.setN (h:PsAt w b p)(j:Nat)(v:Value)(p':Ps)(hc:(psC p).setIfInBounds j v=psC p'):PsAt (w.setCell ⟨b,j,none⟩ v) b p':=by
 have:=Zay (j:=j) h v;rw [hc]at this;exact this
theorem PsAt.noNode (h:PsAt w b p):∀cs fr,w.heap[b]?≠some (.cells cs 242 fr):=fun cs fr e=>by
 rw [h]at e;simp only [Option.some.injEq,Obj.cells.injEq]at e;exact absurd e.2.1 (by decide)
end
def MaxW (w:World):Prop:=∃m:Int,w.cell? ⟨0,0,none⟩=some (.int .i64 m)
theorem MaxW.kept {S:Nat→Prop}{w w':World}(h:MaxW w)(hk:KeepT S w w')(hn:¬S 0):MaxW w':=by
 obtain⟨m,h⟩:=h;exact⟨m,(hk.cell (p:=⟨0,0,none⟩) (Zbt h) hn).trans h⟩
theorem MaxW.later {w w':World}(h:MaxW w)(hb:Below w.heap.size w w'):MaxW w':=h.kept (KeepT.of_below (S:=fun _=>False) hb) (fun e=>e)
theorem ps_mx {w:World}{b:Nat}{p:Ps}(h:PsAt w b p)(m:MaxW w):b≠0:=fun e=>by
 subst e;obtain⟨z,hz⟩:=m;rw [h.c0]at hz;cases hz
def died:Ending:= .panicked [{ v:= .iface 207 (.agg #[]),recovered:=false }]
theorem Zbc (ok:Bool)(w:World):
 Calls Tryz.prog 150 #[.bool ok] w fun e w'=>w'=w∧(ok=true∧e= .returned (.tuple #[])∨ok=false∧e=died):=by
 go_enter Tryz.func150,Tryz.ntmps150;cases ok
 case true=>
  go_wp2_with fail
  go_end0
  exact⟨rfl,rfl⟩
 case false=>
  go_wp2_with fail;exact⟨rfl,rfl,rfl⟩
end Go.Proofs.YtndjgbehbgcpkaaGreatDoor
