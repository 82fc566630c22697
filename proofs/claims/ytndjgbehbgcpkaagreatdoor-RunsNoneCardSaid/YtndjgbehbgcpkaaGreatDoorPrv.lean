/- inkhornlaw23.Beyond: whether command lines are more than is looked at. -/
import Derived.Test.YtndjgbehbgcpkaaGreatDoorPru
set_option linter.unusedVariables false
set_option linter.unusedSimpArgs false
set_option maxRecDepth 100000
set_option maxHeartbeats 4000000
namespace Go.Proofs.YtndjgbehbgcpkaaGreatDoor
open Go Go.Proofs Go.RowKit Go.Ink Go.Sort
def ActsOf (w:World)(ao:Option Addr)(cap:Nat)(l:List (List UInt8×List (List UInt8))):Prop:=
 l.length≤cap∧cap≤maxLen∧(ao=none→cap=0)∧
  ∀k x,l[k]? =some x→∃b off a c,ao=some ⟨b,off,none⟩∧w.cell? ⟨b,off+k * 2,none⟩=some (.string ⟨x.1.toArray⟩)∧w.cell? ⟨b,off+k * 2+1,none⟩=some (.slice a x.2.length c)∧SlOf IsStr w a c x.2
theorem ActsOf.later {w w':World}{ao:Option Addr}{cap:Nat}{l:List (List UInt8×List (List UInt8))}(h:ActsOf w ao cap l)(hb:Below w.heap.size w w'):ActsOf w' ao cap l:=by
 refine⟨h.1,h.2.1,h.2.2.1,fun k x hk=>?_⟩;obtain⟨b,off,a,c,e,h1,h2,h3⟩:=h.2.2.2 k x hk;exact⟨b,off,a,c,e,(hb.cell (Zbt h1)).trans h1,(hb.cell (Zbt h2)).trans h2,h3.later lasts_str hb⟩
theorem Zaz.max {w:World}{B:Nat}{v:Value}{l:List Ad}(h:Zaz w B v l):l.length≤9223372036854775807:=by
 rcases h.1.2 with⟨_,hn⟩ | ⟨g,cap,cur,_,_,_,h1,h2,_⟩
 ·omega
 ·unfold maxLen at h2;omega
def FewA (x:List UInt8×List (List UInt8)):Prop:=x.1.length≤60∧x.2.length≤5∧∀t∈x.2,t.length≤20
def BeyQ (l:List (List UInt8×List (List UInt8)))(m:Int)(b:Bool):Prop:=b=false→(l.length:Int)≤m∧∀(j:Nat) x,l[j]? =some x→FewA x
theorem beyond23 (l:List (List UInt8×List (List UInt8)))(ao:Option Addr)(cap:Nat)(m:Int)(w:World)(h:ActsOf w ao cap l):
 Calls Tryz.prog 5 #[.slice ao l.length cap,.int .i64 m] w fun e w'=>SomeB (BeyQ l m) e∧Below w.heap.size w w':=by
 have HA:=Zh h;have hc:l.length≤9223372036854775807:=Nat.le_trans h.1 h.2.1;clear h
 by_cases hm:m < (l.length:Int)
 case pos=>
  go_enter Tryz.func5,Tryz.ntmps5;go_wp2_with fail;go_returns;exact⟨.mk true (fun h=>by cases h),Below.refl _ _⟩
 have HM:=Zh (show(l.length:Int)≤m by omega);go_enter Tryz.func5,Tryz.ntmps5;go_wp2_with fail
 go_loopw [5,6,7,8,9,10,11] (fun iv _ _ _ _ _ _ wr=>∃i:Nat,iv= .int .i64 (i:Int)∧i≤l.length∧Hid (Below w.heap.size w wr)∧Hid (∀(j:Nat) x,j < i→l[j]? =some x→FewA x)) (fun iv _ _ _ _ _ _ _=>l.length - (intOf iv).toNat)
 case atStart=>exact⟨0,rfl,Nat.zero_le _,Zh (Below.refl _ _),Zh (fun j x hj=>by omega)⟩
 case round=>
  obtain⟨i,rfl,hi,HR,HF⟩:=hrel
  by_cases hlt:i < l.length
  case neg=>
   have hki:¬(i:Int) < (l.length:Int):=by omega
   have HN:=Zh hlt;clear hlt;go_wp2_with fail;go_returns;exact⟨.mk false (fun _=>⟨HM.out,fun j x hj=>HF.out j x (by have:=(List.getElem?_eq_some_iff.1 hj).1;have:=HN.out;omega) hj⟩),HR.out⟩
  have hki:(i:Int) < (l.length:Int):=by omega
  obtain⟨⟨ln,tx⟩,hx⟩:∃x,l[i]? =some x:=⟨_,Zg hlt⟩;obtain⟨b,off,a,c,hao,h1,h2,h3⟩:=(HA.out.later HR.out).2.2.2 i _ hx;subst hao;dsimp only at h1 h2 h3;have HX:=Zh hx;have HT:=Zh h3;have HLT:=Zh hlt;have hlz:=size_mk ln;clear hx h3 hlt;have HBT:=Zh (beyondText_any tx a c 5 wr HT.out)
  by_cases h60:60 < (ln.length:Int)
  case pos=>
   go_wp2_with fail;go_returns;exact⟨.mk true (fun h=>by cases h),HR.out⟩
  have H60:=Zh (show ln.length≤60 by omega);go_wp2_with fail;refine HBT.out.mono ?_;rintro e w1 ⟨⟨bt,rfl,hbt⟩,rfl⟩;cases bt
  case true=>
   go_wp2_with fail;go_returns;exact⟨.mk true (fun h=>by cases h),HR.out⟩
  have HFA:=Zh (show FewA (ln,tx) from⟨H60.out,by have:=(hbt rfl).1;show tx.length≤5;omega,(hbt rfl).2⟩);clear hbt HBT h2 HT;have HP1:=Zh (refParse21 ln w1 (by have:=H60.out;omega));go_wp2_with fail;refine HP1.out.mono ?_;rintro e w2 ⟨⟨c1,l1,er,rfl,ho1,hl1⟩,hb2⟩;have HOA:=Zh ho1;have HBqA:=Zh (HR.out.trans (hb2.mono HR.out.size));have hb0A:=Zab w2 (.cells #[.slice none 0 0,.slice none 0 0,.int .u8 0,.int .i64 0,.int .i64 0,.string ⟨#[]⟩,.int .i64 0,.int .u8 0,.string ⟨#[]⟩,.string ⟨#[]⟩,.bool false,.int .i64 0,.string ⟨#[]⟩,.string ⟨#[]⟩,.int .u8 0] 35);have HZA:=Zh (show(w2.alloc (.cells #[.slice none 0 0,.slice none 0 0,.int .u8 0,.int .i64 0,.int .i64 0,.string ⟨#[]⟩,.int .i64 0,.int .u8 0,.string ⟨#[]⟩,.string ⟨#[]⟩,.bool false,.int .i64 0,.string ⟨#[]⟩,.string ⟨#[]⟩,.int .u8 0] 35)).heap[w2.heap.size]? =some (.cells #[.slice none 0 0,.slice none 0 0,.int .u8 0,.int .i64 0,.int .i64 0,.string ⟨#[]⟩,.int .i64 0,.int .u8 0,.string ⟨#[]⟩,.string ⟨#[]⟩,.bool false,.int .i64 0,.string ⟨#[]⟩,.string ⟨#[]⟩,.int .u8 0] 35 (0,0)) from Zae w2 _);have HKA:=Zh (show KeepT (fun j=>j=w2.heap.size) (w2.alloc (.cells #[.slice none 0 0,.slice none 0 0,.int .u8 0,.int .i64 0,.int .i64 0,.string ⟨#[]⟩,.int .i64 0,.int .u8 0,.string ⟨#[]⟩,.string ⟨#[]⟩,.bool false,.int .i64 0,.string ⟨#[]⟩,.string ⟨#[]⟩,.int .u8 0] 35)) ((w2.alloc (.cells #[.slice none 0 0,.slice none 0 0,.int .u8 0,.int .i64 0,.int .i64 0,.string ⟨#[]⟩,.int .i64 0,.int .u8 0,.string ⟨#[]⟩,.string ⟨#[]⟩,.bool false,.int .i64 0,.string ⟨#[]⟩,.string ⟨#[]⟩,.int .u8 0] 35)).setRow w2.heap.size (cmC c1)) from⟨rfl,rfl,rfl,by simp,fun i hi hn=>setRow_other _ _ i _ (fun e=>hn e)⟩);have HCA:=Zh (show CmAt ((w2.alloc (.cells #[.slice none 0 0,.slice none 0 0,.int .u8 0,.int .i64 0,.int .i64 0,.string ⟨#[]⟩,.int .i64 0,.int .u8 0,.string ⟨#[]⟩,.string ⟨#[]⟩,.bool false,.int .i64 0,.string ⟨#[]⟩,.string ⟨#[]⟩,.int .u8 0] 35)).setRow w2.heap.size (cmC c1)) w2.heap.size c1 from setRow_heap _ _ _ _ _ _ HZA.out);have HLA:=Zh ((hl1.later hb0A).kept HKA.out (fun k hk e=>Zbv (hl1.later hb0A) HZA.out (by decide) (e▸hk)));have HDA:=Zh (show Below w2.heap.size w2 ((w2.alloc (.cells #[.slice none 0 0,.slice none 0 0,.int .u8 0,.int .i64 0,.int .i64 0,.string ⟨#[]⟩,.int .i64 0,.int .u8 0,.string ⟨#[]⟩,.string ⟨#[]⟩,.bool false,.int .i64 0,.string ⟨#[]⟩,.string ⟨#[]⟩,.int .u8 0] 35)).setRow w2.heap.size (cmC c1)) from hb0A.trans (HKA.out.below hb0A.size (fun i hi=>by omega)));have HBA:=Zh (HBqA.out.trans (HDA.out.mono HBqA.out.size));clear ho1 hl1 hb2 hb0A h1 HP1;go_upto_region 9 with(refine wpList_store_row rfl 35 _ _ (by with_reducible rfl) w2.heap.size (cmC c1) rfl rfl 35 #[.slice none 0 0,.slice none 0 0,.int .u8 0,.int .i64 0,.int .i64 0,.string ⟨#[]⟩,.int .i64 0,.int .u8 0,.string ⟨#[]⟩,.string ⟨#[]⟩,.bool false,.int .i64 0,.string ⟨#[]⟩,.string ⟨#[]⟩,.int .u8 0] HZA.out Zaf rfl (Zbk HOA.out) ?_);clear HZA HKA;generalize (w2.alloc (.cells #[.slice none 0 0,.slice none 0 0,.int .u8 0,.int .i64 0,.int .i64 0,.string ⟨#[]⟩,.int .i64 0,.int .u8 0,.string ⟨#[]⟩,.string ⟨#[]⟩,.bool false,.int .i64 0,.string ⟨#[]⟩,.string ⟨#[]⟩,.int .u8 0] 35)).setRow w2.heap.size (cmC c1)=wA at *;have q12:=HCA.out.cel 12 (u:= .string ⟨c1.sub.toArray⟩) rfl;have HP2:=Zh (refParse21 c1.sub wA HOA.out.sub);go_wp2_with fail;refine HP2.out.mono ?_;rintro e w4 ⟨⟨c2,l2,er2,rfl,ho2,hl2⟩,hb4⟩;have HOB:=Zh ho2;have HBqB:=Zh (HBA.out.trans (hb4.mono HBA.out.size));have hb0B:=Zab w4 (.cells #[.slice none 0 0,.slice none 0 0,.int .u8 0,.int .i64 0,.int .i64 0,.string ⟨#[]⟩,.int .i64 0,.int .u8 0,.string ⟨#[]⟩,.string ⟨#[]⟩,.bool false,.int .i64 0,.string ⟨#[]⟩,.string ⟨#[]⟩,.int .u8 0] 35);have HZB:=Zh (show(w4.alloc (.cells #[.slice none 0 0,.slice none 0 0,.int .u8 0,.int .i64 0,.int .i64 0,.string ⟨#[]⟩,.int .i64 0,.int .u8 0,.string ⟨#[]⟩,.string ⟨#[]⟩,.bool false,.int .i64 0,.string ⟨#[]⟩,.string ⟨#[]⟩,.int .u8 0] 35)).heap[w4.heap.size]? =some (.cells #[.slice none 0 0,.slice none 0 0,.int .u8 0,.int .i64 0,.int .i64 0,.string ⟨#[]⟩,.int .i64 0,.int .u8 0,.string ⟨#[]⟩,.string ⟨#[]⟩,.bool false,.int .i64 0,.string ⟨#[]⟩,.string ⟨#[]⟩,.int .u8 0] 35 (0,0)) from Zae w4 _);have HKB:=Zh (show KeepT (fun j=>j=w4.heap.size) (w4.alloc (.cells #[.slice none 0 0,.slice none 0 0,.int .u8 0,.int .i64 0,.int .i64 0,.string ⟨#[]⟩,.int .i64 0,.int .u8 0,.string ⟨#[]⟩,.string ⟨#[]⟩,.bool false,.int .i64 0,.string ⟨#[]⟩,.string ⟨#[]⟩,.int .u8 0] 35)) ((w4.alloc (.cells #[.slice none 0 0,.slice none 0 0,.int .u8 0,.int .i64 0,.int .i64 0,.string ⟨#[]⟩,.int .i64 0,.int .u8 0,.string ⟨#[]⟩,.string ⟨#[]⟩,.bool false,.int .i64 0,.string ⟨#[]⟩,.string ⟨#[]⟩,.int .u8 0] 35)).setRow w4.heap.size (cmC c2)) from⟨rfl,rfl,rfl,by simp,fun i hi hn=>setRow_other _ _ i _ (fun e=>hn e)⟩);have HCB:=Zh (show CmAt ((w4.alloc (.cells #[.slice none 0 0,.slice none 0 0,.int .u8 0,.int .i64 0,.int .i64 0,.string ⟨#[]⟩,.int .i64 0,.int .u8 0,.string ⟨#[]⟩,.string ⟨#[]⟩,.bool false,.int .i64 0,.string ⟨#[]⟩,.string ⟨#[]⟩,.int .u8 0] 35)).setRow w4.heap.size (cmC c2)) w4.heap.size c2 from setRow_heap _ _ _ _ _ _ HZB.out);have HLB:=Zh (((hl2.base HBA.out.size).later hb0B).kept HKB.out (fun k hk e=>Zbv ((hl2.base HBA.out.size).later hb0B) HZB.out (by decide) (e▸hk)));have HDB:=Zh (show Below w4.heap.size w4 ((w4.alloc (.cells #[.slice none 0 0,.slice none 0 0,.int .u8 0,.int .i64 0,.int .i64 0,.string ⟨#[]⟩,.int .i64 0,.int .u8 0,.string ⟨#[]⟩,.string ⟨#[]⟩,.bool false,.int .i64 0,.string ⟨#[]⟩,.string ⟨#[]⟩,.int .u8 0] 35)).setRow w4.heap.size (cmC c2)) from hb0B.trans (HKB.out.below hb0B.size (fun i hi=>by omega)));have HBB:=Zh (HBqB.out.trans (HDB.out.mono HBqB.out.size));have HCA2:=Zh (HCA.out.later (hb4.trans (HDB.out.mono hb4.size)));have HLA2:=Zh (HLA.out.later (hb4.trans (HDB.out.mono hb4.size)));clear ho2 hl2 hb4 hb0B q12 HP2;go_wp2_with (refine wpList_store_row rfl 35 _ _ (by with_reducible rfl) w4.heap.size (cmC c2) rfl rfl 35 #[.slice none 0 0,.slice none 0 0,.int .u8 0,.int .i64 0,.int .i64 0,.string ⟨#[]⟩,.int .i64 0,.int .u8 0,.string ⟨#[]⟩,.string ⟨#[]⟩,.bool false,.int .i64 0,.string ⟨#[]⟩,.string ⟨#[]⟩,.int .u8 0] HZB.out Zaf rfl (Zbk HOB.out) ?_);clear HZB HKB HCA HLA HDB HDA HBA HBqA HBqB;generalize (w4.alloc (.cells #[.slice none 0 0,.slice none 0 0,.int .u8 0,.int .i64 0,.int .i64 0,.string ⟨#[]⟩,.int .i64 0,.int .u8 0,.string ⟨#[]⟩,.string ⟨#[]⟩,.bool false,.int .i64 0,.string ⟨#[]⟩,.string ⟨#[]⟩,.int .u8 0] 35)).setRow w4.heap.size (cmC c2)=wB at *;have HW1:=Zh (Below.refl wB.heap.size wB)
  go_loopw [10] (fun kv wr=>∃k:Nat,kv= .int .i64 (k:Int)∧k≤l1.length∧Hid (Below wB.heap.size wB wr)) (fun kv _=>l1.length - (intOf kv).toNat)
  case atStart=>exact⟨0,rfl,Nat.zero_le _,HW1⟩
  case round=>
   obtain⟨k,rfl,hk,HR1⟩:=hrel;have HCR:=Zh (HCA2.out.later HR1.out);have HLR:=Zh (HLA2.out.later HR1.out);have HBR:=Zh (HBB.out.trans (HR1.out.mono HBB.out.size));have q0:=HCR.out.cel 0 (u:=c1.lv) rfl;obtain⟨al,cl,hlv⟩:=HLR.out.shape;rw [hlv]at q0
   by_cases hlt:k < l1.length
   case pos=>
    have hki:(k:Int) < (l1.length:Int):=by omega
    obtain⟨x,hkx⟩:∃x,l1[k]? =some x:=⟨_,Zg hlt⟩;obtain⟨gl,cp,hv2,hcl⟩:=HLR.out.cell hkx;rw [hv2]at hlv;simp only [Value.slice.injEq]at hlv;obtain⟨ha1,-,ha2⟩:=hlv;subst ha1;subst ha2;have qr:wr.cell? ⟨gl,k * 4+2,none⟩=some (.string ⟨x.2.2.1.toArray⟩):=by rw [Nat.mul_comm];exact hcl 2 _ rfl
    have HHV:=Zh (Zdz x.2.2.1 wr (HLR.out.2 x (List.mem_of_getElem? hkx)));have hlm:=HLR.out.max;have HLT:=Zh hlt;clear hkx hv2 hcl hlt;go_wp2_with fail;refine HHV.out.mono ?_;rintro e w7 ⟨⟨bh,rfl,-⟩,hb7⟩;have HB7:=Zh (HBR.out.trans (hb7.mono HBR.out.size));have HR7:=Zh (HR1.out.trans (hb7.mono HR1.out.size));clear hb7;cases bh
    case true=>
     go_wp2_with fail;go_returns;exact⟨.mk true (fun h=>by cases h),HB7.out⟩
    go_wp2_with fail;go_roundw
    case rel=>exact⟨k+1,by go_num,HLT.out,HR7⟩
    case measure=>have:=HLT.out;simp [intOf] <;> omega
   have hki:¬(k:Int) < (l1.length:Int):=by omega
   clear hlt hlv;go_wp2_with fail;clear q0;clear HCR HLR HBR
   go_loopw [11] (fun kv wr=>∃k:Nat,kv= .int .i64 (k:Int)∧k≤l2.length∧Hid (Below wB.heap.size wB wr)) (fun kv _=>l2.length - (intOf kv).toNat)
   case atStart=>exact⟨0,rfl,Nat.zero_le _,HR1⟩
   case round=>
    obtain⟨k,rfl,hk,HR2⟩:=hrel;have HCR:=Zh (HCB.out.later HR2.out);have HLR:=Zh (HLB.out.later HR2.out);have HBR:=Zh (HBB.out.trans (HR2.out.mono HBB.out.size));have q0:=HCR.out.cel 0 (u:=c2.lv) rfl;obtain⟨al,cl,hlv⟩:=HLR.out.shape;rw [hlv]at q0
    by_cases hlt:k < l2.length
    case pos=>
     have hki:(k:Int) < (l2.length:Int):=by omega
     obtain⟨x,hkx⟩:∃x,l2[k]? =some x:=⟨_,Zg hlt⟩;obtain⟨gl,cp,hv2,hcl⟩:=HLR.out.cell hkx;rw [hv2]at hlv;simp only [Value.slice.injEq]at hlv;obtain⟨ha1,-,ha2⟩:=hlv;subst ha1;subst ha2;have qr:wr.cell? ⟨gl,k * 4+2,none⟩=some (.string ⟨x.2.2.1.toArray⟩):=by rw [Nat.mul_comm];exact hcl 2 _ rfl
     have HHV:=Zh (Zdz x.2.2.1 wr (HLR.out.2 x (List.mem_of_getElem? hkx)));have hlm:=HLR.out.max;have HLT:=Zh hlt;clear hkx hv2 hcl hlt;go_wp2_with fail;refine HHV.out.mono ?_;rintro e w7 ⟨⟨bh,rfl,-⟩,hb7⟩;have HB7:=Zh (HBR.out.trans (hb7.mono HBR.out.size));have HR7:=Zh (HR2.out.trans (hb7.mono HR2.out.size));clear hb7;cases bh
     case true=>
      go_wp2_with fail;go_returns;exact⟨.mk true (fun h=>by cases h),HB7.out⟩
     go_wp2_with fail;go_roundw
     case rel=>exact⟨k+1,by go_num,HLT.out,HR7⟩
     case measure=>have:=HLT.out;simp [intOf] <;> omega
    have hki:¬(k:Int) < (l2.length:Int):=by omega
    clear hlt hlv;go_upto_region 20 with fail;clear q0;clear HCR HLR;have qz0:=(HCA2.out.later HR2.out).cel 8 (u:= .string ⟨c1.re.toArray⟩) rfl;have HH0:=Zh (Zdz c1.re wr HOA.out.re);go_wp2_with fail;refine HH0.out.mono ?_;rintro e wz0 ⟨⟨bz0,rfl,-⟩,hbz0⟩;have HBZ0:=Zh (HBR.out.trans (hbz0.mono HBR.out.size));have HDZ0:=Zh (HR2.out.trans (hbz0.mono HR2.out.size));clear hbz0 qz0;cases bz0
    case true=>
     go_wp2_with fail;go_returns;exact⟨.mk true (fun h=>by cases h),HBZ0.out⟩
    have qz1:=(HCB.out.later HDZ0.out).cel 8 (u:= .string ⟨c2.re.toArray⟩) rfl;have HH1:=Zh (Zdz c2.re wz0 HOB.out.re);go_wp2_with fail;refine HH1.out.mono ?_;rintro e wz1 ⟨⟨bz1,rfl,-⟩,hbz1⟩;have HBZ1:=Zh (HBZ0.out.trans (hbz1.mono HBZ0.out.size));have HDZ1:=Zh (HDZ0.out.trans (hbz1.mono HDZ0.out.size));clear hbz1 qz1;cases bz1
    case true=>
     go_wp2_with fail;go_returns;exact⟨.mk true (fun h=>by cases h),HBZ1.out⟩
    have qz2:=(HCA2.out.later HDZ1.out).cel 5 (u:= .string ⟨c1.dre.toArray⟩) rfl;have HH2:=Zh (Zdz c1.dre wz1 HOA.out.dre);go_wp2_with fail;refine HH2.out.mono ?_;rintro e wz2 ⟨⟨bz2,rfl,-⟩,hbz2⟩;have HBZ2:=Zh (HBZ1.out.trans (hbz2.mono HBZ1.out.size));have HDZ2:=Zh (HDZ1.out.trans (hbz2.mono HDZ1.out.size));clear hbz2 qz2;cases bz2
    case true=>
     go_wp2_with fail;go_returns;exact⟨.mk true (fun h=>by cases h),HBZ2.out⟩
    have qz3:=(HCB.out.later HDZ2.out).cel 5 (u:= .string ⟨c2.dre.toArray⟩) rfl;have HH3:=Zh (Zdz c2.dre wz2 HOB.out.dre);go_wp2_with fail;refine HH3.out.mono ?_;rintro e wz3 ⟨⟨bz3,rfl,-⟩,hbz3⟩;have HBZ3:=Zh (HBZ2.out.trans (hbz3.mono HBZ2.out.size));have HDZ3:=Zh (HDZ2.out.trans (hbz3.mono HDZ2.out.size));clear hbz3 qz3;cases bz3
    case true=>
     go_wp2_with fail;go_returns;exact⟨.mk true (fun h=>by cases h),HBZ3.out⟩
    go_wp2_with fail;go_roundw
    case rel=>exact⟨i+1,by go_num,HLT.out,HBZ3,Zh (fun j x hj hx=>by
     by_cases e:j=i
     ·subst e
      rw [HX.out]at hx;cases hx;exact HFA.out
     ·exact HF.out j x (by omega) hx)⟩
    case measure=>have:=HLT.out;simp [intOf] <;> omega
end Go.Proofs.YtndjgbehbgcpkaaGreatDoor
