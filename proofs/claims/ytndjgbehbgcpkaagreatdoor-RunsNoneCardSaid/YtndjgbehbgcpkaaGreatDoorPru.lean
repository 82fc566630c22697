/- The reference's reader of command lines: Parse. -/
import Derived.Test.YtndjgbehbgcpkaaGreatDoorPrt
set_option linter.unusedVariables false
set_option linter.unusedSimpArgs false
set_option maxRecDepth 100000
set_option maxHeartbeats 4000000
namespace Go.Proofs.YtndjgbehbgcpkaaGreatDoor
open Go Go.Proofs Go.RowKit Go.Ink Go.Sort
def CmdP (B:Nat)(e:Ending)(w':World):Prop:=∃(c:Cm) (l:List Ad) (er:Int),e= .returned (.tuple #[.agg (cmC c),.int .i64 er])∧CmOk c∧Zaz w' B c.lv l
def cmZ:Cm:=⟨.slice none 0 0,.slice none 0 0,0,0,0,[],0,0,[],[],false,0,[],[],0⟩
theorem Zeq:CmOk cmZ:=⟨rfl,rfl,by simp [cmZ],by simp [cmZ],by simp [cmZ]⟩
theorem Zaz.base {w:World}{B B':Nat}{v:Value}{l:List Ad}(h:Zaz w B v l)(hb:B'≤B):Zaz w B' v l:=⟨ownsRow_base h.1 hb,h.2⟩
def cmD (lv sv:Value)(n:Nat):Cm:=⟨lv,sv,(n:Int),0,0,[],0,0,[],[],false,0,[],[],0⟩
def cmR (lv sv:Value):Cm:=⟨lv,sv,0,0,0,[],0,0,[],[],false,0,[],[],0⟩
theorem cmR_ok {lv sv:Value}(h1:lv.oneCell'=true)(h2:sv.oneCell'=true):CmOk (cmR lv sv):=⟨h1,h2,by simp [cmR],by simp [cmR],by simp [cmR]⟩
theorem refParse21 (s:List UInt8)(w:World)(hs:s.length≤100000):
 Calls Tryz.prog 23 #[.string ⟨s.toArray⟩] w fun e w'=>CmdP w.heap.size e w'∧Below w.heap.size w w':=by
 have hsz:=size_mk s;have HLS:=Zh hs;have HRA:=Zh (fun(X:World)=>refRange s X _ rfl hs);have HBL:=Zh (fun(X:World) (t:List UInt8) (ht:t.length≤1000000)=>refBlanks t 0 X ht (by omega));have HIN:=Zh (fun(X:World) (d:UInt8)=>(show Calls Tryz.prog 51 #[.int .u8 (d.toNat:Int),.string ⟨#[97,99,105,100,106,108,110,112,117,61,62,60,107,109,116,115,103,118,122,104,113,81,101,69,102,114,119,87]⟩] X fun e w'=>SomeB anyQ e∧w'=X from refIn d [97,99,105,100,106,108,110,112,117,61,62,60,107,109,116,115,103,118,122,104,113,81,101,69,102,114,119,87] X (by decide)));go_enter Tryz.func23,Tryz.ntmps23;go_upto_region 1 with fail;generalize hwA:w.alloc _=wA;obtain⟨old,HZ,HOS⟩:∃old:Array Value,Hid (wA.heap[w.heap.size]? =some (.cells old 35 (0,0)))∧Hid (old.size=15):=⟨cm0,Zh (hwA▸Zae _ _),Zh rfl⟩;have HBA:=Zh (show Below w.heap.size w wA from hwA▸Zab w _);clear hwA;have HR:=Zh (HRA.out wA);go_wp2_with fail;refine HR.out.mono ?_;rintro e w1 ⟨⟨lv,l,sv,sn,nx,er,rfl,hl,hso,hnx⟩,hb1⟩;obtain⟨al,cl,rfl⟩:=hl.shape;obtain⟨aS,cS,rfl⟩:=hso.shape;obtain⟨L,hL⟩:∃L,l.length=L:=⟨_,rfl⟩;rw [hL]at hl;simp only [hL];have hbR:=Zab w1 (.cells #[.slice al L cl,.slice aS sn cS] 31);have HRG:=Zh (show RgAt (w1.alloc (.cells #[.slice al L cl,.slice aS sn cS] 31)) w1.heap.size (.slice al L cl) (.slice aS sn cS) from Zae w1 _);have HZ1:=Zh ((hbR.block _ (Zaa ((hb1.block _ (Zaa HZ.out)).trans HZ.out))).trans ((hb1.block _ (Zaa HZ.out)).trans HZ.out));have hsA:w.heap.size≤wA.heap.size:=HBA.out.size;have HL1:=Zh (show Zaz (w1.alloc (.cells #[.slice al L cl,.slice aS sn cS] 31)) w.heap.size (.slice al L cl) l from(hl.later hbR).base hsA);have HB1:=Zh (HBA.out.trans ((hb1.mono HBA.out.size).trans (hbR.mono (Nat.le_trans HBA.out.size hb1.size))));have HNX:=Zh hnx;clear hbR hl hso hb1 hnx HR HZ hL HBA hsA HRA;go_upto_region 2 with fail;generalize w1.alloc (.cells #[.slice al L cl,.slice aS sn cS] 31)=w2 at *;obtain⟨g,hg⟩:∃g,w1.heap.size=g:=⟨_,rfl⟩;rw [hg]at HRG ⊢;clear hg
 by_cases her:er=0
 case neg=>
  have herb:(er !=0)=true:=bne_iff_ne.2 her;go_wp2_with (refine wpList_store_row rfl 35 _ _ (by with_reducible rfl) w.heap.size (cmC cmZ) rfl rfl 35 old HZ1.out Zaf HOS.out (Zbk Zeq) ?_);refine bodyPost_ret (v:= .tuple #[.agg (cmC cmZ),.int .i64 er]) (Zag (p:=2) (q:=3) (by kernel_rfl) _ _ w.heap.size 35 (cmC cmZ) (0,0) _ _ rfl rfl (setRow_heap _ _ _ _ _ _ HZ1.out) Tryz.underlying35 rfl Zaf) rfl ?_;exact⟨⟨cmZ,[],er,rfl,Zeq,Zaz.nil _ _⟩,Zah HB1.out (Nat.le_refl _) _⟩
 subst her;have he:=Zcg s nx;obtain⟨t,ht⟩:∃t,s.drop nx=t:=⟨_,rfl⟩;have HTL:=Zh (show t.length≤100000 by rw [← ht,List.length_drop];have:=HLS.out;omega);have hni:(nx:Int)≤(s.length:Int):=by have:=HNX.out;omega
 rw [ht]at he;clear ht;have HBK:=Zh (HBL.out w2 t (by have:=HTL.out;omega));clear HBL;have htz:=size_mk t;go_wp2_with fail;refine HBK.out.mono ?_;rintro e w3 ⟨⟨n,rfl,-,hn⟩,rfl⟩;have hn2:n≤t.length:=by omega
 have hni2:(n:Int)≤(t.length:Int):=by omega
 have he2:=Zcg t n;obtain⟨u,hu⟩:∃u,t.drop n=u:=⟨_,rfl⟩;have HUL:=Zh (show u.length≤100000 by rw [← hu,List.length_drop];have:=HTL.out;omega);rw [hu]at he2;clear hu hn hn2 HBK HNX;have r0:=HRG.out.c0;have r1:=HRG.out.c1;obtain⟨g8,hg8⟩:∃g8,w3.heap.size=g8:=⟨_,rfl⟩;have hgw:w.heap.size < g8:=hg8▸Zaa HZ1.out;have hbB:=Zab w3 (.cells (cmC (cmR (.slice al L cl) (.slice aS sn cS))) 35);have HCB:=Zh (show CmAt (w3.alloc (.cells (cmC (cmR (.slice al L cl) (.slice aS sn cS))) 35)) g8 (cmR (.slice al L cl) (.slice aS sn cS)) from hg8▸Zae w3 _);have HZB:=Zh ((hbB.block _ (Zaa HZ1.out)).trans HZ1.out);have HLB:=Zh (HL1.out.later hbB);have HBB:=Zh (HB1.out.trans (hbB.mono HB1.out.size));have HOR:=Zh (show CmOk (cmR (.slice al L cl) (.slice aS sn cS)) from cmR_ok rfl rfl);clear hbB;go_upto_region 7 with fail;change Code.wp _ _ _ _ (w3.alloc (.cells (cmC (cmR (.slice al L cl) (.slice aS sn cS))) 35));generalize w3.alloc (.cells (cmC (cmR (.slice al L cl) (.slice aS sn cS))) 35)=wB at *;clear r0 r1 hg8 HRG HZ1 HL1 HB1;obtain⟨lv,hlv⟩:∃lv:Value,.slice al L cl=lv:=⟨_,rfl⟩;obtain⟨sv,hsv⟩:∃sv:Value,.slice aS sn cS=sv:=⟨_,rfl⟩;rw [hlv,hsv]at HCB HOR ⊢;rw [hlv]at HLB;clear hlv hsv
 by_cases h0:u=[]
 case pos=>
  subst h0;have HSX:=Zh (show old.size=(cmC (cmR lv sv)).size from HOS.out);have HNX2:=Zh (Zbk HOR.out)
  go_wp2_with (first
   | (refine wpList_load_row rfl 35 _ (by with_reducible rfl) g8 rfl 35 (cmC (cmR lv sv)) (0,0) _ HCB.out Tryz.underlying35 rfl Zaf ?_)
   | (refine wpList_store_row rfl 35 _ _ (by with_reducible rfl) w.heap.size (cmC (cmR lv sv)) rfl rfl 35 old HZB.out Zaf HSX.out HNX2.out ?_))
  refine bodyPost_ret (v:= .tuple #[.agg (cmC (cmR lv sv)),.int .i64 0]) (Zag (p:=2) (q:=3) (by kernel_rfl) _ _ w.heap.size 35 (cmC (cmR lv sv)) (0,0) _ _ rfl rfl (setRow_heap _ _ _ _ _ _ HZB.out) Tryz.underlying35 rfl Zaf) rfl ?_;have hkk:KeepT (fun j=>j=w.heap.size) wB (wB.setRow w.heap.size (cmC (cmR lv sv))):=⟨rfl,rfl,rfl,by simp,fun i hi hn=>setRow_other _ _ i _ (fun e=>hn e)⟩;exact⟨⟨(cmR lv sv),l,0,rfl,HOR.out,HLB.out.kept hkk (fun k hk e=>Zbv HLB.out HZB.out (by decide) (e▸hk))⟩,Zah HBB.out (Nat.le_refl _) _⟩
 have h0b:(u==[])=false:=Zf h0;have hul:0 < u.length:=List.length_pos_iff.2 h0;obtain⟨d,hkd⟩:∃d,u[0]? =some d:=⟨_,Zg hul⟩;have hby:=Zak hkd;have HUP:=Zh hul;have huz:=size_mk u;have hu0:(0:Int) < (u.length:Int):=by omega
 have hu1:(1:Int)≤(u.length:Int):=by omega
 have he3:=Zcg u 1;obtain⟨u1,hu1e⟩:∃u1,u.drop 1=u1:=⟨_,rfl⟩;have HU1:=Zh (show u1.length≤100000 by rw [← hu1e,List.length_drop];have:=HUL.out;omega);rw [hu1e]at he3;clear hkd h0 hul hu1e;have u2:=HCB.out.cel 2 (u:= .int .u8 0) rfl;have g2:=HCB.out.fz 2;have HC2:=Zh (HCB.out.setN 2 (.int .u8 (d.toNat:Int)) (cmD lv sv d.toNat) rfl);have HZ2:=Zh (show(wB.setCell ⟨g8,2,none⟩ (.int .u8 (d.toNat:Int))).heap[w.heap.size]? =some (.cells old 35 (0,0)) from(Below.heap_setCell _ _ _ _ (show w.heap.size≠g8 by omega)).trans HZB.out);have HKX:=Zh ((KeepT.refl (fun j=>j=g8) wB).setCell (p:=⟨g8,2,none⟩) (.inl rfl) (.int .u8 (d.toNat:Int)));have HL2:=Zh (HLB.out.kept HKX.out (fun k hk e=>Zbv HLB.out HCB.out (by decide) (e▸hk)));have HB2:=Zh (HBB.out.trans (HKX.out.below HBB.out.size (fun i hi=>by omega)));have HO2:=Zh (show CmOk (cmD lv sv d.toNat) from⟨HOR.out.lv,HOR.out.sv,HOR.out.dre,HOR.out.re,HOR.out.sub⟩);go_upto_region 11 with fail;generalize wB.setCell _ _=wC at *;clear u2 g2 HCB HZB HKX HLB HBB;have HGW:=Zh hgw
 go_cut [49] from 37 to 50 (fun v wx=>(∃bb:Bool,v= .bool bb∧(bb=true→1 < u.length))∧wx=wC)
 case first=>
  by_cases hl2:1 < u.length
  case neg=>
   have hl2i:¬(1:Int) < (u.length:Int):=by omega
   clear hl2;go_wp2_with fail;go_meet
   case rel=>exact⟨⟨_,rfl,fun h=>by cases h⟩,rfl⟩
  have hl2i:(1:Int) < (u.length:Int):=by omega
  obtain⟨d1,hkd1⟩:∃d1,u[1]? =some d1:=⟨_,Zg hl2⟩;have hby1:=Zak hkd1;have HL3:=Zh hl2;clear hkd1 hl2
  by_cases h121:(d.toNat:Int)=121
  case neg=>
   have h121b:((d.toNat:Int)==121)=false:=Zf h121;clear h121;go_wp2_with fail;go_meet
   case rel=>exact⟨⟨_,rfl,fun _=>HL3.out⟩,rfl⟩
  have h121b:((d.toNat:Int)==121)=true:=Zt h121;obtain⟨bb,hbb⟩:∃bb,((d1.toNat:Int)==97)=bb:=⟨_,rfl⟩;clear h121;go_wp2_with fail;go_meet
  case rel=>exact⟨⟨_,rfl,fun _=>HL3.out⟩,rfl⟩
 case rest=>
  obtain⟨⟨bb,rfl,hbb⟩,hw⟩:=hcut;rw [hw];clear hw
  go_upto_if 49 with fail
  go_cut [9] from 50 to 73 (fun v wx=>∃z:List UInt8,v= .string ⟨z.toArray⟩∧z.length≤100000∧Hid (∃q:UInt8,CmAt wx g8 (cmD lv sv q.toNat))∧Hid (wx.heap[w.heap.size]? =some (.cells old 35 (0,0))∧Zaz wx w.heap.size lv l∧Below w.heap.size w wx))
  case first=>
   cases bb
   case true=>
    have hl2:1 < u.length:=hbb rfl;have he4:=Zcg u 2;have hu2:(2:Int)≤(u.length:Int):=by omega
    obtain⟨u2,hu2e⟩:∃u2,u.drop 2=u2:=⟨_,rfl⟩;have HU2:=Zh (show u2.length≤100000 by rw [← hu2e,List.length_drop];have:=HUL.out;omega);rw [hu2e]at he4;clear hl2 hu2e hbb;have u3:=HC2.out.cel 2 (u:= .int .u8 (d.toNat:Int)) rfl;have g3:=HC2.out.fz 2;have HC3:=Zh (fun(W:World) (hW:W.heap=wC.heap)=>(show CmAt W g8 (cmD lv sv d.toNat) from by unfold CmAt;rw [hW];exact HC2.out));have HE3:=Zh (show∃q:UInt8,q.toNat=89 from⟨89,rfl⟩);have HS3:=Zh (show(cmC (cmD lv sv d.toNat)).setIfInBounds 2 (.int .u8 89)=cmC (cmD lv sv 89) from rfl);have HT3:=Zh (fun(W:World) (hk:KeepT (fun j=>j=g8) wC W)=>(show W.heap[w.heap.size]? =some (.cells old 35 (0,0))∧Zaz W w.heap.size lv l∧Below w.heap.size w W from⟨(hk.block _ (Zaa HZ2.out) (fun e=>by have:=HGW.out;omega)).trans HZ2.out,HL2.out.kept hk (fun k hk2 e=>Zbv HL2.out HC2.out (by decide) (e▸hk2)),HB2.out.trans (hk.below HB2.out.size (fun i hi=>by have:=HGW.out;omega))⟩));go_upto_region 12 with fail
    go_region
    have HK4:=Zh (((KeepT.refl (fun j=>j=g8) wC).drew).setCell (p:=⟨g8,2,none⟩) (.inl rfl) (.int .u8 89));have HC4:=Zh ((HC3.out wC.drew rfl).setN 2 (.int .u8 89) (cmD lv sv 89) rfl);go_wp2_with fail;go_meet
    case rel=>exact⟨u2,rfl,HU2.out,Zh ⟨89,HC4.out⟩,Zh (HT3.out _ HK4.out)⟩
   clear hbb;go_upto_region 13 with fail
   go_cut [65] from 53 to 66 (fun v wx=>(∃bb:Bool,v= .bool bb∧(bb=true→1 < u.length))∧wx=wC)
   case first=>
    by_cases hl2:1 < u.length
    case neg=>
     have hl2i:¬(1:Int) < (u.length:Int):=by omega
     clear hl2;go_wp2_with fail;go_meet
     case rel=>exact⟨⟨_,rfl,fun h=>by cases h⟩,rfl⟩
    have hl2i:(1:Int) < (u.length:Int):=by omega
    obtain⟨d1,hkd1⟩:∃d1,u[1]? =some d1:=⟨_,Zg hl2⟩;have hby1:=Zak hkd1;have HL3:=Zh hl2;clear hkd1 hl2
    by_cases h121:(d.toNat:Int)=112
    case neg=>
     have h121b:((d.toNat:Int)==112)=false:=Zf h121;clear h121;go_wp2_with fail;go_meet
     case rel=>exact⟨⟨_,rfl,fun _=>HL3.out⟩,rfl⟩
    have h121b:((d.toNat:Int)==112)=true:=Zt h121;obtain⟨bb,hbb⟩:∃bb,((d1.toNat:Int)==117)=bb:=⟨_,rfl⟩;clear h121;go_wp2_with fail;go_meet
    case rel=>exact⟨⟨_,rfl,fun _=>HL3.out⟩,rfl⟩
   case rest=>
    obtain⟨⟨bb,rfl,hbb⟩,hw⟩:=hcut;rw [hw];clear hw;cases bb
    case true=>
     have hl2:1 < u.length:=hbb rfl;have he4:=Zcg u 2;have hu2:(2:Int)≤(u.length:Int):=by omega
     obtain⟨u2,hu2e⟩:∃u2,u.drop 2=u2:=⟨_,rfl⟩;have HU2:=Zh (show u2.length≤100000 by rw [← hu2e,List.length_drop];have:=HUL.out;omega);rw [hu2e]at he4;clear hl2 hu2e hbb;have u3:=HC2.out.cel 2 (u:= .int .u8 (d.toNat:Int)) rfl;have g3:=HC2.out.fz 2;have HC3:=Zh (fun(W:World) (hW:W.heap=wC.heap)=>(show CmAt W g8 (cmD lv sv d.toNat) from by unfold CmAt;rw [hW];exact HC2.out));have HE3:=Zh (show∃q:UInt8,q.toNat=80 from⟨80,rfl⟩);have HS3:=Zh (show(cmC (cmD lv sv d.toNat)).setIfInBounds 2 (.int .u8 80)=cmC (cmD lv sv 80) from rfl);have HT3:=Zh (fun(W:World) (hk:KeepT (fun j=>j=g8) wC W)=>(show W.heap[w.heap.size]? =some (.cells old 35 (0,0))∧Zaz W w.heap.size lv l∧Below w.heap.size w W from⟨(hk.block _ (Zaa HZ2.out) (fun e=>by have:=HGW.out;omega)).trans HZ2.out,HL2.out.kept hk (fun k hk2 e=>Zbv HL2.out HC2.out (by decide) (e▸hk2)),HB2.out.trans (hk.below HB2.out.size (fun i hi=>by have:=HGW.out;omega))⟩));go_upto_region 14 with fail
     go_region
     have HK4:=Zh (((KeepT.refl (fun j=>j=g8) wC).drew).setCell (p:=⟨g8,2,none⟩) (.inl rfl) (.int .u8 80));have HC4:=Zh ((HC3.out wC.drew rfl).setN 2 (.int .u8 80) (cmD lv sv 80) rfl);go_wp2_with fail;go_meet
     case rel=>exact⟨u2,rfl,HU2.out,Zh ⟨80,HC4.out⟩,Zh (HT3.out _ HK4.out)⟩
    clear hbb;have HI:=Zh (HIN.out wC d);go_wp2_with fail;refine HI.out.mono ?_;rintro e wI ⟨⟨bI,rfl,-⟩,rfl⟩;clear HI;cases bI
    case false=>
     go_wp2_with (refine wpList_store_row rfl 35 _ _ (by with_reducible rfl) w.heap.size (cmC cmZ) rfl rfl 35 old HZ2.out Zaf HOS.out (Zbk Zeq) ?_);refine bodyPost_ret (v:= .tuple #[.agg (cmC cmZ),.int .i64 210]) (Zag (p:=2) (q:=3) (by kernel_rfl) _ _ w.heap.size 35 (cmC cmZ) (0,0) _ _ rfl rfl (setRow_heap _ _ _ _ _ _ HZ2.out) Tryz.underlying35 rfl Zaf) rfl ?_;exact⟨⟨cmZ,[],210,rfl,Zeq,Zaz.nil _ _⟩,Zah HB2.out (Nat.le_refl _) _⟩
    go_wp2_with fail;go_meet
    case rel=>exact⟨u1,rfl,HU1.out,Zh ⟨d,HC2.out⟩,Zh ⟨HZ2.out,HL2.out,HB2.out⟩⟩
  case rest=>
   clear HC2 HZ2 HL2 HB2 HO2;obtain⟨z,rfl,hz,HQ,HY⟩:=hcut;obtain⟨q,hq⟩:=HQ.out;have HCQ:=Zh hq;have HOQ:=Zh (show CmOk (cmD lv sv q.toNat) from⟨HOR.out.lv,HOR.out.sv,HOR.out.dre,HOR.out.re,HOR.out.sub⟩);have HFB:=Zh (refBelongs (cmD lv sv q.toNat) HOQ.out q rfl z wc hz);clear hz HQ hq;go_wp2_with (refine wpList_load_row rfl 35 _ (by with_reducible rfl) g8 rfl 35 (cmC (cmD lv sv q.toNat)) (0,0) _ HCQ.out Tryz.underlying35 rfl Zaf ?_);refine HFB.out.mono ?_;rintro e w5 ⟨⟨c5,er5,rfl,h1,h2,h3⟩,hb5⟩;have HO5:=Zh (show Zcf (cmD lv sv q.toNat) c5 from⟨h1,h2,h3⟩);have HC5:=Zh (HCQ.out.later hb5);have HZ5:=Zh ((hb5.block _ (Zaa HY.out.1)).trans HY.out.1);have HL5:=Zh (HY.out.2.1.later hb5);have HB5:=Zh (HY.out.2.2.trans (hb5.mono HY.out.2.2.size));have HN5:=Zh (Zbk HO5.out.2.2);clear h1 h2 h3 hb5 HFB HCQ HY;have HC6:=Zh (show CmAt (w5.setRow g8 (cmC c5)) g8 c5 from setRow_heap _ _ _ _ _ _ HC5.out);have HK6:=Zh (show KeepT (fun j=>j=g8) w5 (w5.setRow g8 (cmC c5)) from⟨rfl,rfl,rfl,by simp,fun i hi hn=>setRow_other w5 _ i _ (fun e=>hn e)⟩);have HZ6:=Zh ((HK6.out.block _ (Zaa HZ5.out) (show w.heap.size≠g8 by omega)).trans HZ5.out);have HL6:=Zh (HL5.out.kept HK6.out (fun k hk e=>Zbv HL5.out HC5.out (by decide) (e▸hk)));have HB6:=Zh (HB5.out.trans (HK6.out.below HB5.out.size (fun i hi=>by omega)));have HS5:=Zh (show(cmC (cmD lv sv q.toNat)).size=(cmC c5).size from rfl);have HSX:=Zh (show old.size=(cmC c5).size from HOS.out)
   by_cases her5:er5=0
   case neg=>
    have herb5:(er5 !=0)=true:=bne_iff_ne.2 her5
    go_wp2_with (first
     | (refine wpList_store_row rfl 35 _ _ (by with_reducible rfl) g8 (cmC c5) rfl rfl 35 (cmC (cmD lv sv q.toNat)) HC5.out Zaf HS5.out HN5.out ?_)
     | (refine wpList_store_row rfl 35 _ _ (by with_reducible rfl) w.heap.size (cmC cmZ) rfl rfl 35 old HZ6.out Zaf HOS.out (Zbk Zeq) ?_))
    refine bodyPost_ret (v:= .tuple #[.agg (cmC cmZ),.int .i64 er5]) (Zag (p:=2) (q:=3) (by kernel_rfl) _ _ w.heap.size 35 (cmC cmZ) (0,0) _ _ rfl rfl (setRow_heap _ _ _ _ _ _ HZ6.out) Tryz.underlying35 rfl Zaf) rfl ?_;exact⟨⟨cmZ,[],er5,rfl,Zeq,Zaz.nil _ _⟩,Zah HB6.out (Nat.le_refl _) _⟩
   subst her5
   go_wp2_with (first
    | (refine wpList_store_row rfl 35 _ _ (by with_reducible rfl) g8 (cmC c5) rfl rfl 35 (cmC (cmD lv sv q.toNat)) HC5.out Zaf HS5.out HN5.out ?_)
    | (refine wpList_load_row rfl 35 _ (by with_reducible rfl) g8 rfl 35 (cmC c5) (0,0) _ HC6.out Tryz.underlying35 rfl Zaf ?_)
    | (refine wpList_store_row rfl 35 _ _ (by with_reducible rfl) w.heap.size (cmC c5) rfl rfl 35 old HZ6.out Zaf HSX.out HN5.out ?_))
   refine bodyPost_ret (v:= .tuple #[.agg (cmC c5),.int .i64 0]) (Zag (p:=2) (q:=3) (by kernel_rfl) _ _ w.heap.size 35 (cmC c5) (0,0) _ _ rfl rfl (setRow_heap _ _ _ _ _ _ HZ6.out) Tryz.underlying35 rfl Zaf) rfl ?_;have hkk:KeepT (fun j=>j=w.heap.size) (w5.setRow g8 (cmC c5)) ((w5.setRow g8 (cmC c5)).setRow w.heap.size (cmC c5)):=⟨rfl,rfl,rfl,by simp,fun i hi hn=>setRow_other _ _ i _ (fun e=>hn e)⟩;have HLc:Zaz (w5.setRow g8 (cmC c5)) w.heap.size c5.lv l:=by rw [HO5.out.1];exact HL6.out
   exact⟨⟨c5,l,0,rfl,HO5.out.2.2,HLc.kept hkk (fun k hk e=>Zbv HLc HZ6.out (by decide) (e▸hk))⟩,Zah HB6.out (Nat.le_refl _) _⟩
end Go.Proofs.YtndjgbehbgcpkaaGreatDoor
