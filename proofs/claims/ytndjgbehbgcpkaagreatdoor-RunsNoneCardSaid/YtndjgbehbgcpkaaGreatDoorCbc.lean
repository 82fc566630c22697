/- The program's reader of command lines: Parse. Printed by gcbc.py. -/
import Derived.Test.YtndjgbehbgcpkaaGreatDoorCbb
import Derived.Test.YtndjgbehbgcpkaaGreatDoorCa5
import Derived.Test.YtndjgbehbgcpkaaGreatDoorPru
set_option linter.unusedVariables false
set_option linter.unusedSimpArgs false
set_option maxRecDepth 100000
set_option maxHeartbeats 4000000
namespace Go.Proofs.YtndjgbehbgcpkaaGreatDoor
open Go Go.Proofs Go.RowKit Go.Ink Go.Sort
def CmdQ (B:Nat)(e:Ending)(w':World):Prop:=∃(c:Cm) (l:List Ad) (sn:Nat) (er:Int),e= .returned (.tuple #[.agg (cmC c),.int .i64 er])∧CmOk c∧Zaz w' B c.lv l∧Zbh w' B c.sv sn
theorem Zbh.base {w:World}{B B':Nat}{v:Value}{n:Nat}(h:Zbh w B v n)(hb:B'≤B):Zbh w B' v n:=by
 obtain⟨xs,h⟩:=h;exact⟨xs,ownsRow_base h hb⟩
theorem cmdParse (s:List UInt8)(w:World)(hs:s.length≤100000)(hx:MaxW w)(hwm:0 < w.heap.size):
 Calls Tryz.prog 7 #[.string ⟨s.toArray⟩] w fun e w'=>CmdQ w.heap.size e w'∧Below w.heap.size w w':=by
 have hsz:=size_mk s;have HLS:=Zh hs;have HMX:=Zh hx;have HWM:=Zh hwm;have HRA:=Zh (fun(X:World)=>adrParse s X _ rfl hs);clear hx hwm;go_enter Tryz.func7,Tryz.ntmps7;go_upto_region 1 with fail;generalize hwA:w.alloc _=wA;obtain⟨old,HZ,HOS⟩:∃old:Array Value,Hid (wA.heap[w.heap.size]? =some (.cells old 35 (0,0)))∧Hid (old.size=15):=⟨cm0,Zh (hwA▸Zae _ _),Zh rfl⟩;have HBA:=Zh (show Below w.heap.size w wA from hwA▸Zab w _);clear hwA;have HR:=Zh (HRA.out wA);go_wp2_with fail;refine HR.out.mono ?_;rintro e w1 ⟨⟨lv,l,sv,sn,nx,er,rfl,hl,hso,hnx⟩,hb1⟩;obtain⟨al,cl,rfl⟩:=hl.shape;obtain⟨aS,cS,rfl⟩:=hso.shape;obtain⟨L,hL⟩:∃L,l.length=L:=⟨_,rfl⟩;rw [hL]at hl;simp only [hL];have hbR:=Zab w1 (.cells #[.slice al L cl,.slice aS sn cS] 31);have HRG:=Zh (show RgAt (w1.alloc (.cells #[.slice al L cl,.slice aS sn cS] 31)) w1.heap.size (.slice al L cl) (.slice aS sn cS) from Zae w1 _);have HZ1:=Zh ((hbR.block _ (Zaa ((hb1.block _ (Zaa HZ.out)).trans HZ.out))).trans ((hb1.block _ (Zaa HZ.out)).trans HZ.out));have hsA:w.heap.size≤wA.heap.size:=HBA.out.size;have HL1:=Zh (show Zaz (w1.alloc (.cells #[.slice al L cl,.slice aS sn cS] 31)) w.heap.size (.slice al L cl) l∧Zbh (w1.alloc (.cells #[.slice al L cl,.slice aS sn cS] 31)) w.heap.size (.slice aS sn cS) sn from⟨(hl.later hbR).base hsA,(hso.later hbR).base hsA⟩);have HB1:=Zh (HBA.out.trans ((hb1.mono HBA.out.size).trans (hbR.mono (Nat.le_trans HBA.out.size hb1.size))));have HNX:=Zh hnx;clear hbR hl hso hb1 hnx HR HZ hL HBA hsA HRA;go_upto_region 2 with fail;generalize w1.alloc (.cells #[.slice al L cl,.slice aS sn cS] 31)=w2 at *;obtain⟨g,hg⟩:∃g,w1.heap.size=g:=⟨_,rfl⟩;rw [hg]at HRG ⊢;clear hg
 by_cases her:er=0
 case neg=>
  have herb:(er !=0)=true:=bne_iff_ne.2 her;go_wp2_with (refine wpList_store_row rfl 35 _ _ (by with_reducible rfl) w.heap.size (cmC cmZ) rfl rfl 35 old HZ1.out Zaf HOS.out (Zbk Zeq) ?_);refine bodyPost_ret (v:= .tuple #[.agg (cmC cmZ),.int .i64 er]) (Zag (p:=2) (q:=3) (by kernel_rfl) _ _ w.heap.size 35 (cmC cmZ) (0,0) _ _ rfl rfl (setRow_heap _ _ _ _ _ _ HZ1.out) Tryz.underlying35 rfl Zaf) rfl ?_;exact⟨⟨cmZ,[],0,er,rfl,Zeq,Zaz.nil _ _,Zbh.nil _ _⟩,Zah HB1.out (Nat.le_refl _) _⟩
 subst her;have he:=Zcb s nx;obtain⟨t,ht⟩:∃t,s.drop nx=t:=⟨_,rfl⟩;have HTL:=Zh (show t.length≤100000 by rw [← ht,List.length_drop];have:=HLS.out;omega);have hni:(nx:Int)≤(s.length:Int):=by have:=HNX.out;omega
 rw [ht]at he;clear ht HNX;have r0:=HRG.out.c0;have r1:=HRG.out.c1;obtain⟨g8,hg8⟩:∃g8,w2.heap.size=g8:=⟨_,rfl⟩;have hgw:w.heap.size < g8:=hg8▸Zaa HZ1.out;have hbB:=Zab w2 (.cells (cmC (cmR (.slice al L cl) (.slice aS sn cS))) 35);have HCB:=Zh (show CmAt (w2.alloc (.cells (cmC (cmR (.slice al L cl) (.slice aS sn cS))) 35)) g8 (cmR (.slice al L cl) (.slice aS sn cS)) from hg8▸Zae w2 _);have HZB:=Zh ((hbB.block _ (Zaa HZ1.out)).trans HZ1.out);have HLB:=Zh (show Zaz (w2.alloc (.cells (cmC (cmR (.slice al L cl) (.slice aS sn cS))) 35)) w.heap.size (.slice al L cl) l∧Zbh (w2.alloc (.cells (cmC (cmR (.slice al L cl) (.slice aS sn cS))) 35)) w.heap.size (.slice aS sn cS) sn from⟨HL1.out.1.later hbB,HL1.out.2.later hbB⟩);have HBB:=Zh (HB1.out.trans (hbB.mono HB1.out.size));have HOR:=Zh (show CmOk (cmR (.slice al L cl) (.slice aS sn cS)) from cmR_ok rfl rfl);clear hbB;go_upto_region 5 with fail;change Code.wp _ _ _ _ (w2.alloc (.cells (cmC (cmR (.slice al L cl) (.slice aS sn cS))) 35));generalize w2.alloc (.cells (cmC (cmR (.slice al L cl) (.slice aS sn cS))) 35)=wB at *;clear r0 r1 hg8 HRG HZ1 HL1 HB1;obtain⟨lv,hlv⟩:∃lv:Value,.slice al L cl=lv:=⟨_,rfl⟩;obtain⟨sv,hsv⟩:∃sv:Value,.slice aS sn cS=sv:=⟨_,rfl⟩;rw [hlv,hsv]at HCB HOR HLB;clear hlv hsv;have HT:=Zh (cmdTrim t wB);go_wp2_with fail;refine HT.out.mono ?_;rintro e wT ⟨⟨u,rfl,hul⟩,hbT⟩;have HUL:=Zh (show u.length≤100000 by have:=HTL.out;omega);have HC:=Zh (HCB.out.later hbT);have HZ:=Zh ((hbT.block _ (Zaa HZB.out)).trans HZB.out);have HL:=Zh (show Zaz wT w.heap.size lv l∧Zbh wT w.heap.size sv sn from⟨HLB.out.1.later hbT,HLB.out.2.later hbT⟩);have HB:=Zh (HBB.out.trans (hbT.mono HBB.out.size));clear hbT hul HT HCB HZB HLB HBB HTL;have huz:=size_mk u
 by_cases h0:u=[]
 case pos=>
  subst h0;have HSX:=Zh (show old.size=(cmC (cmR lv sv)).size from HOS.out);have HNX2:=Zh (Zbk HOR.out)
  go_wp2_with (first
   | (refine wpList_load_row rfl 35 _ (by with_reducible rfl) g8 rfl 35 (cmC (cmR lv sv)) (0,0) _ HC.out Tryz.underlying35 rfl Zaf ?_)
   | (refine wpList_store_row rfl 35 _ _ (by with_reducible rfl) w.heap.size (cmC (cmR lv sv)) rfl rfl 35 old HZ.out Zaf HSX.out HNX2.out ?_))
  refine bodyPost_ret (v:= .tuple #[.agg (cmC (cmR lv sv)),.int .i64 0]) (Zag (p:=2) (q:=3) (by kernel_rfl) _ _ w.heap.size 35 (cmC (cmR lv sv)) (0,0) _ _ rfl rfl (setRow_heap _ _ _ _ _ _ HZ.out) Tryz.underlying35 rfl Zaf) rfl ?_;have hkk:KeepT (fun j=>j=w.heap.size) wT (wT.setRow w.heap.size (cmC (cmR lv sv))):=⟨rfl,rfl,rfl,by simp,fun i hi hn=>setRow_other _ _ i _ (fun e=>hn e)⟩;exact⟨⟨(cmR lv sv),l,sn,0,rfl,HOR.out,by rw [show(cmR lv sv).lv=lv from rfl];exact HL.out.1.kept hkk (fun k hk e=>Zbv HL.out.1 HZ.out (by decide) (e▸hk)),by rw [show(cmR lv sv).sv=sv from rfl];exact HL.out.2.kept hkk (fun k hk e=>Zcx HL.out.2 HZ.out (by decide) (e▸hk))⟩,Zah HB.out (Nat.le_refl _) _⟩
 have h0b:(u==[])=false:=Zf h0;have h0e:u.isEmpty=false:=by cases u with | nil=>exact absurd rfl h0 | cons _ _=>rfl
 have hul:0 < u.length:=List.length_pos_iff.2 h0;have HUP:=Zh hul;clear h0 hul;have HMB:=Zh (fun(X:World) (hk:KeepT (fun j=>j=g8) wT X)=>(show MaxW X from(HMX.out.later HB.out).kept hk (fun e=>by have:=HWM.out;have:=hgw;omega)));have HNE:=Zh (show g8≠0 by have:=HWM.out;have:=hgw;omega);have HGW:=Zh hgw;have HST:=Zh (fun(X:World) (hk:KeepT (fun j=>j=g8) wT X)=>(show X.heap[w.heap.size]? =some (.cells old 35 (0,0))∧(Zaz X w.heap.size lv l∧Zbh X w.heap.size sv sn)∧Below w.heap.size w X from⟨(hk.block _ (Zaa HZ.out) (fun e=>by have:=HGW.out;omega)).trans HZ.out,⟨HL.out.1.kept hk (fun k hk2 e=>Zbv HL.out.1 HC.out (by decide) (e▸hk2)),HL.out.2.kept hk (fun k hk2 e=>Zcx HL.out.2 HC.out (by decide) (e▸hk2))⟩,HB.out.trans (hk.below HB.out.size (fun i hi=>by have:=HGW.out;omega))⟩));clear hgw;have HH1:=Zh (show Calls Tryz.prog 28 #[.string ⟨u.toArray⟩,.string ⟨#[121,97]⟩] wT fun e w'=>e= .returned (.bool (hasP u [121,97]))∧w'=wT from strHas u [121,97] wT);have HH2:=Zh (show Calls Tryz.prog 28 #[.string ⟨u.toArray⟩,.string ⟨#[112,117]⟩] wT fun e w'=>e= .returned (.bool (hasP u [112,117]))∧w'=wT from strHas u [112,117] wT);have HP1:=Zh (fun(h:hasP u [121,97]=true)=>(show 2≤u.length from hasP_le h));have HP2:=Zh (fun(h:hasP u [112,117]=true)=>(show 2≤u.length from hasP_le h));generalize hasP u [121,97]=p1 at *;generalize hasP u [112,117]=p2 at *;go_wp2_with fail;refine HH1.out.mono ?_;rintro e wT ⟨rfl,rfl⟩;cases p1
 case true=>
  have hl2:=HP1.out rfl;have he2:=Zcb u 2;have hl2i:(2:Int)≤(u.length:Int):=by omega
  obtain⟨u2,hu2⟩:∃u2,u.drop 2=u2:=⟨_,rfl⟩;rw [hu2]at he2;clear hl2 hu2;have c2:=HC.out.cel 2 (u:= .int .u8 0) rfl;have f2:=HC.out.fz 2;have HC2:=Zh (HC.out.setN 2 (.int .u8 89) { cmR lv sv with nm:=89 } rfl);have HKK:=Zh ((KeepT.refl (fun j=>j=g8) wT).setCell (p:=⟨g8,2,none⟩) (.inl rfl) (.int .u8 89));have HLE:=Zh (cmdLetter g8 { cmR lv sv with nm:=89 } ⟨HOR.out.lv,HOR.out.sv,HOR.out.dre,HOR.out.re,HOR.out.sub⟩ u2 false _ (HMB.out _ HKK.out) HNE.out HC2.out);go_wp2_with fail;refine HLE.out.mono ?_;rintro e w9 ⟨er,c',rfl,h1,h2,h3,h4,h5⟩;have HC9:=Zh h1;have HO9:=Zh h4;have H9:=Zh (HST.out w9 (HKK.out.trans h5 (fun _ _ e=>e)));have HZ9:=Zh H9.out.1;have HL9:=Zh H9.out.2.1;have HB9:=Zh H9.out.2.2;have HEV:=Zh (show c'.lv=lv from h2);have HES:=Zh (show c'.sv=sv from h3);clear h1 h2 h3 h4 h5 H9;go_upto_region 15 with fail
  by_cases her:er=0
  case neg=>
   have herb:(er !=0)=true:=bne_iff_ne.2 her;clear her;go_wp2_with (refine wpList_store_row rfl 35 _ _ (by with_reducible rfl) w.heap.size (cmC cmZ) rfl rfl 35 old HZ9.out Zaf HOS.out (Zbk Zeq) ?_);refine bodyPost_ret (v:= .tuple #[.agg (cmC cmZ),.int .i64 er]) (Zag (p:=2) (q:=3) (by kernel_rfl) _ _ w.heap.size 35 (cmC cmZ) (0,0) _ _ rfl rfl (setRow_heap _ _ _ _ _ _ HZ9.out) Tryz.underlying35 rfl Zaf) rfl ?_;exact⟨⟨cmZ,[],0,er,rfl,Zeq,Zaz.nil _ _,Zbh.nil _ _⟩,Zah HB9.out (Nat.le_refl _) _⟩
  subst her;have HSX:=Zh (show old.size=(cmC c').size from HOS.out);have HNX2:=Zh (Zbk HO9.out)
  go_wp2_with (first
   | (refine wpList_load_row rfl 35 _ (by with_reducible rfl) g8 rfl 35 (cmC c') (0,0) _ HC9.out Tryz.underlying35 rfl Zaf ?_)
   | (refine wpList_store_row rfl 35 _ _ (by with_reducible rfl) w.heap.size (cmC c') rfl rfl 35 old HZ9.out Zaf HSX.out HNX2.out ?_))
  refine bodyPost_ret (v:= .tuple #[.agg (cmC c'),.int .i64 0]) (Zag (p:=2) (q:=3) (by kernel_rfl) _ _ w.heap.size 35 (cmC c') (0,0) _ _ rfl rfl (setRow_heap _ _ _ _ _ _ HZ9.out) Tryz.underlying35 rfl Zaf) rfl ?_;have hkk:KeepT (fun j=>j=w.heap.size) w9 (w9.setRow w.heap.size (cmC c')):=⟨rfl,rfl,rfl,by simp,fun i hi hn=>setRow_other _ _ i _ (fun e=>hn e)⟩;exact⟨⟨c',l,sn,0,rfl,HO9.out,by rw [HEV.out];exact HL9.out.1.kept hkk (fun k hk e=>Zbv HL9.out.1 HZ9.out (by decide) (e▸hk)),by rw [HES.out];exact HL9.out.2.kept hkk (fun k hk e=>Zcx HL9.out.2 HZ9.out (by decide) (e▸hk))⟩,Zah HB9.out (Nat.le_refl _) _⟩
 go_wp2_with fail;refine HH2.out.mono ?_;rintro e wT ⟨rfl,rfl⟩;cases p2
 case true=>
  have hl2:=HP2.out rfl;have he2:=Zcb u 2;have hl2i:(2:Int)≤(u.length:Int):=by omega
  obtain⟨u2,hu2⟩:∃u2,u.drop 2=u2:=⟨_,rfl⟩;rw [hu2]at he2;clear hl2 hu2;have c2:=HC.out.cel 2 (u:= .int .u8 0) rfl;have f2:=HC.out.fz 2;have HC2:=Zh (HC.out.setN 2 (.int .u8 80) { cmR lv sv with nm:=80 } rfl);have HKK:=Zh ((KeepT.refl (fun j=>j=g8) wT).setCell (p:=⟨g8,2,none⟩) (.inl rfl) (.int .u8 80));have HLE:=Zh (cmdLetter g8 { cmR lv sv with nm:=80 } ⟨HOR.out.lv,HOR.out.sv,HOR.out.dre,HOR.out.re,HOR.out.sub⟩ u2 false _ (HMB.out _ HKK.out) HNE.out HC2.out);go_wp2_with fail;refine HLE.out.mono ?_;rintro e w9 ⟨er,c',rfl,h1,h2,h3,h4,h5⟩;have HC9:=Zh h1;have HO9:=Zh h4;have H9:=Zh (HST.out w9 (HKK.out.trans h5 (fun _ _ e=>e)));have HZ9:=Zh H9.out.1;have HL9:=Zh H9.out.2.1;have HB9:=Zh H9.out.2.2;have HEV:=Zh (show c'.lv=lv from h2);have HES:=Zh (show c'.sv=sv from h3);clear h1 h2 h3 h4 h5 H9;go_upto_region 15 with fail
  by_cases her:er=0
  case neg=>
   have herb:(er !=0)=true:=bne_iff_ne.2 her;clear her;go_wp2_with (refine wpList_store_row rfl 35 _ _ (by with_reducible rfl) w.heap.size (cmC cmZ) rfl rfl 35 old HZ9.out Zaf HOS.out (Zbk Zeq) ?_);refine bodyPost_ret (v:= .tuple #[.agg (cmC cmZ),.int .i64 er]) (Zag (p:=2) (q:=3) (by kernel_rfl) _ _ w.heap.size 35 (cmC cmZ) (0,0) _ _ rfl rfl (setRow_heap _ _ _ _ _ _ HZ9.out) Tryz.underlying35 rfl Zaf) rfl ?_;exact⟨⟨cmZ,[],0,er,rfl,Zeq,Zaz.nil _ _,Zbh.nil _ _⟩,Zah HB9.out (Nat.le_refl _) _⟩
  subst her;have HSX:=Zh (show old.size=(cmC c').size from HOS.out);have HNX2:=Zh (Zbk HO9.out)
  go_wp2_with (first
   | (refine wpList_load_row rfl 35 _ (by with_reducible rfl) g8 rfl 35 (cmC c') (0,0) _ HC9.out Tryz.underlying35 rfl Zaf ?_)
   | (refine wpList_store_row rfl 35 _ _ (by with_reducible rfl) w.heap.size (cmC c') rfl rfl 35 old HZ9.out Zaf HSX.out HNX2.out ?_))
  refine bodyPost_ret (v:= .tuple #[.agg (cmC c'),.int .i64 0]) (Zag (p:=2) (q:=3) (by kernel_rfl) _ _ w.heap.size 35 (cmC c') (0,0) _ _ rfl rfl (setRow_heap _ _ _ _ _ _ HZ9.out) Tryz.underlying35 rfl Zaf) rfl ?_;have hkk:KeepT (fun j=>j=w.heap.size) w9 (w9.setRow w.heap.size (cmC c')):=⟨rfl,rfl,rfl,by simp,fun i hi hn=>setRow_other _ _ i _ (fun e=>hn e)⟩;exact⟨⟨c',l,sn,0,rfl,HO9.out,by rw [HEV.out];exact HL9.out.1.kept hkk (fun k hk e=>Zbv HL9.out.1 HZ9.out (by decide) (e▸hk)),by rw [HES.out];exact HL9.out.2.kept hkk (fun k hk e=>Zcx HL9.out.2 HZ9.out (by decide) (e▸hk))⟩,Zah HB9.out (Nat.le_refl _) _⟩
 have hul:=HUP.out;have he1:=Zcb u 1;have hl1i:(1:Int)≤(u.length:Int):=by omega
 have hl0i:(0:Int) < (u.length:Int):=by omega
 obtain⟨d,hkd⟩:∃d,u[0]? =some d:=⟨_,Zg hul⟩;have hby:=Zak hkd;obtain⟨u1,hu1⟩:∃u1,u.drop 1=u1:=⟨_,rfl⟩;have HU1:=Zh (show u1.length≤100000 by rw [← hu1,List.length_drop];have:=HUL.out;omega);rw [hu1]at he1;clear hkd hu1;have HKD:=Zh (show KeepT (fun j=>j=g8) wT wT.drew from(KeepT.refl _ _).drew);have HCD:=Zh (show CmAt wT.drew g8 (cmR lv sv) from HC.out.later (Below.refl _ _).drew);have HNA:=Zh (cmdNamed g8 (cmR lv sv) HOR.out d u1 wT.drew HU1.out (HMB.out _ HKD.out) HNE.out HCD.out);have HKK:=HKD;go_upto_region 6 with fail;refine wp_region_noPanic ?_;refine wp_region_any (by kernel_rfl) ?_;change wpAny _ _ _ _ _ _ _ wT.drew;refine Zba 4 4 (Array.replicate 6 false) (fun _=>True) (by kernel_rfl) trivial (fun hHeld=>?_);simp only [List.take_succ_cons,List.take_zero,List.drop_succ_cons,List.drop_zero];refine Zad (i:=0) (v:=?_) rfl (by kernel_rfl) (by kernel_rfl) (by kernel_rfl) (fun _ _ _ h=>h) (.inl ⟨by rfl,?_⟩) (by assumption) ?_;rotate_left
 ·intro w hSw
  (try dsimp only at hSw)
  go_simp
  (try with_reducible rfl)
 (try simp only [Act.put,Zs1,Zs2,Zs3])
 refine Zad (i:=1) (v:=?_) rfl (by kernel_rfl) (by kernel_rfl) (by kernel_rfl) (fun _ _ _ h=>h) (.inl ⟨by rfl,?_⟩) (by assumption) ?_;rotate_left
 ·intro w hSw
  (try dsimp only at hSw)
  go_simp
  (try with_reducible rfl)
 (try simp only [Act.put,Zs1,Zs2,Zs3])
 refine Zad (i:=2) (v:=?_) rfl (by kernel_rfl) (by kernel_rfl) (by kernel_rfl) (fun _ _ _ h=>h) (.inl ⟨by rfl,?_⟩) (by assumption) ?_;rotate_left
 ·intro w hSw
  (try dsimp only at hSw)
  go_simp
  (try with_reducible rfl)
 (try simp only [Act.put,Zs1,Zs2,Zs3])
 refine Zad (i:=3) (v:=?_) rfl (by kernel_rfl) (by kernel_rfl) (by kernel_rfl) (fun _ _ _ h=>h) (.inl ⟨by rfl,?_⟩) (by assumption) ?_;rotate_left
 ·intro w hSw
  (try dsimp only at hSw)
  go_simp
  (try with_reducible rfl)
 (try simp only [Act.put,Zs1,Zs2,Zs3])
 refine wpAnyH_done (by kernel_rfl) ?_ _;change wpList _ _ _ _ _ _;go_wp2_with fail;refine HNA.out.mono ?_;rintro e w9 ⟨er,c',rfl,h1,h2,h3,h4,h5⟩;have HC9:=Zh h1;have HO9:=Zh h4;have H9:=Zh (HST.out w9 (HKK.out.trans h5 (fun _ _ e=>e)));have HZ9:=Zh H9.out.1;have HL9:=Zh H9.out.2.1;have HB9:=Zh H9.out.2.2;have HEV:=Zh (show c'.lv=lv from h2);have HES:=Zh (show c'.sv=sv from h3);clear h1 h2 h3 h4 h5 H9;go_wp2_with fail;refine NoPanic.normal ?_
 by_cases her:er=0
 case neg=>
  have herb:(er !=0)=true:=bne_iff_ne.2 her;clear her;go_wp2_with (refine wpList_store_row rfl 35 _ _ (by with_reducible rfl) w.heap.size (cmC cmZ) rfl rfl 35 old HZ9.out Zaf HOS.out (Zbk Zeq) ?_);refine bodyPost_ret (v:= .tuple #[.agg (cmC cmZ),.int .i64 er]) (Zag (p:=2) (q:=3) (by kernel_rfl) _ _ w.heap.size 35 (cmC cmZ) (0,0) _ _ rfl rfl (setRow_heap _ _ _ _ _ _ HZ9.out) Tryz.underlying35 rfl Zaf) rfl ?_;exact⟨⟨cmZ,[],0,er,rfl,Zeq,Zaz.nil _ _,Zbh.nil _ _⟩,Zah HB9.out (Nat.le_refl _) _⟩
 subst her;have HSX:=Zh (show old.size=(cmC c').size from HOS.out);have HNX2:=Zh (Zbk HO9.out)
 go_wp2_with (first
  | (refine wpList_load_row rfl 35 _ (by with_reducible rfl) g8 rfl 35 (cmC c') (0,0) _ HC9.out Tryz.underlying35 rfl Zaf ?_)
  | (refine wpList_store_row rfl 35 _ _ (by with_reducible rfl) w.heap.size (cmC c') rfl rfl 35 old HZ9.out Zaf HSX.out HNX2.out ?_))
 refine bodyPost_ret (v:= .tuple #[.agg (cmC c'),.int .i64 0]) (Zag (p:=2) (q:=3) (by kernel_rfl) _ _ w.heap.size 35 (cmC c') (0,0) _ _ rfl rfl (setRow_heap _ _ _ _ _ _ HZ9.out) Tryz.underlying35 rfl Zaf) rfl ?_;have hkk:KeepT (fun j=>j=w.heap.size) w9 (w9.setRow w.heap.size (cmC c')):=⟨rfl,rfl,rfl,by simp,fun i hi hn=>setRow_other _ _ i _ (fun e=>hn e)⟩;exact⟨⟨c',l,sn,0,rfl,HO9.out,by rw [HEV.out];exact HL9.out.1.kept hkk (fun k hk e=>Zbv HL9.out.1 HZ9.out (by decide) (e▸hk)),by rw [HES.out];exact HL9.out.2.kept hkk (fun k hk e=>Zcx HL9.out.2 HZ9.out (by decide) (e▸hk))⟩,Zah HB9.out (Nat.le_refl _) _⟩
end Go.Proofs.YtndjgbehbgcpkaaGreatDoor
