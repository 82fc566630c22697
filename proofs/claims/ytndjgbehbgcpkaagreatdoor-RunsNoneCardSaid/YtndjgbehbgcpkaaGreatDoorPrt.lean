/- The reference's reader of command lines: what belongs to a command's name. -/
import Derived.Test.YtndjgbehbgcpkaaGreatDoorPrs
set_option linter.unusedVariables false
set_option linter.unusedSimpArgs false
set_option maxRecDepth 100000
set_option maxHeartbeats 4000000
namespace Go.Proofs.YtndjgbehbgcpkaaGreatDoor
open Go Go.Proofs Go.RowKit Go.Ink Go.Sort
theorem refBelongs (c:Cm)(hc:CmOk c)(d:UInt8)(hd:c.nm=(d.toNat:Int))(s:List UInt8)(w:World)(hs:s.length≤100000):
 Calls Tryz.prog 52 #[.agg (cmC c),.string ⟨s.toArray⟩] w fun e w'=>CmdE c e∧Below w.heap.size w w':=by
 have hsz:=size_mk s;have HLS:=Zh hs;have HCO:=Zh hc;have HOC:=Zh (show Zcf c c from⟨rfl,rfl,hc⟩);have HSU:=Zh (fun(X:World)=>refSuffix c hc s X (by omega));have HLE:=Zh (fun(X:World)=>refLetter c hc s X (by omega));have HSB:=Zh (fun(X:World)=>refSubstitution c hc s X hs);have HGL:=Zh (fun(X:World)=>refGlobal c hc s X hs);go_enter Tryz.func52,Tryz.ntmps52;go_upto_region 1 with fail;generalize hwA:(w.alloc _).alloc _=wA;obtain⟨old,HZ,HOS⟩:∃old:Array Value,Hid (wA.heap[w.heap.size+1]? =some (.cells old 35 (0,0)))∧Hid (old.size=15):=⟨cm0,Zh (hwA▸heap_alloc2_new _ _ _),Zh rfl⟩;have HCA:=Zh (show CmAt wA w.heap.size c from hwA▸heap_alloc2_old _ _ _);have HBA:=Zh (show Below w.heap.size w wA from hwA▸(Zab w _).trans ((Zab _ _).mono (Zab w _).size));clear hwA;have q2:wA.cell? ⟨w.heap.size,2,none⟩=some (.int .u8 (d.toNat:Int)):=by rw [← hd];exact HCA.out.cel 2 rfl
 clear hd;have HINwa:=Zh (show Calls Tryz.prog 51 #[.int .u8 (d.toNat:Int),.string ⟨#[97,99,105,100,106,108,110,112,117,61,62,60]⟩] wA fun e w'=>SomeB anyQ e∧w'=wA from refIn d [97,99,105,100,106,108,110,112,117,61,62,60] wA (by decide));go_wp2_with fail;refine HINwa.out.mono ?_;rintro e wa ⟨⟨bwa,rfl,-⟩,rfl⟩;clear HINwa;cases bwa
 case true=>
  have HFC:=Zh (HSU.out wa);go_wp2_with (refine wpList_load_row rfl 35 _ (by with_reducible rfl) w.heap.size rfl 35 (cmC c) (0,0) _ HCA.out Tryz.underlying35 rfl Zaf ?_);refine HFC.out.mono ?_;rintro e w9 ⟨⟨c3,er9,rfl,h1,h2,h3⟩,hbl⟩;have HBC:=Zh hbl;have HO9:=Zh (show Zcf c c3 from⟨h1,h2,h3⟩);clear hbl h1 h2 h3;have HZ9:=Zh ((HBC.out.block _ (Zaa HZ.out)).trans HZ.out);have HB9:=Zh (HBA.out.trans (HBC.out.mono HBA.out.size));have HN9:=Zh (Zbk HO9.out.2.2);have HS9:=Zh (show old.size=(cmC c3).size from HOS.out);go_wp2_with (refine wpList_store_row rfl 35 _ _ (by with_reducible rfl) (w.heap.size+1) (cmC c3) rfl rfl 35 old HZ9.out Zaf HS9.out HN9.out ?_);refine bodyPost_ret (v:= .tuple #[.agg (cmC c3),.int .i64 er9]) (Zag (p:=4) (q:=5) (by kernel_rfl) _ _ (w.heap.size+1) 35 (cmC c3) (0,0) _ _ rfl rfl (setRow_heap _ _ _ _ _ _ HZ9.out) Tryz.underlying35 rfl Zaf) rfl ?_;exact⟨⟨_,er9,rfl,HO9.out.1.trans HOC.out.1,HO9.out.2.1.trans HOC.out.2.1,HO9.out.2.2⟩,Zah HB9.out (Nat.le_succ _) _⟩
 have HINwb:=Zh (show Calls Tryz.prog 51 #[.int .u8 (d.toNat:Int),.string ⟨#[107,89,80]⟩] wa fun e w'=>SomeB anyQ e∧w'=wa from refIn d [107,89,80] wa (by decide));go_wp2_with fail;refine HINwb.out.mono ?_;rintro e wb ⟨⟨bwb,rfl,-⟩,rfl⟩;clear HINwb;cases bwb
 case true=>
  have HFC:=Zh (HLE.out wb);go_wp2_with (refine wpList_load_row rfl 35 _ (by with_reducible rfl) w.heap.size rfl 35 (cmC c) (0,0) _ HCA.out Tryz.underlying35 rfl Zaf ?_);refine HFC.out.mono ?_;rintro e w9 ⟨⟨c3,er9,rfl,h1,h2,h3⟩,hbl⟩;have HBC:=Zh hbl;have HO9:=Zh (show Zcf c c3 from⟨h1,h2,h3⟩);clear hbl h1 h2 h3;have HZ9:=Zh ((HBC.out.block _ (Zaa HZ.out)).trans HZ.out);have HB9:=Zh (HBA.out.trans (HBC.out.mono HBA.out.size));have HN9:=Zh (Zbk HO9.out.2.2);have HS9:=Zh (show old.size=(cmC c3).size from HOS.out);go_wp2_with (refine wpList_store_row rfl 35 _ _ (by with_reducible rfl) (w.heap.size+1) (cmC c3) rfl rfl 35 old HZ9.out Zaf HS9.out HN9.out ?_);refine bodyPost_ret (v:= .tuple #[.agg (cmC c3),.int .i64 er9]) (Zag (p:=4) (q:=5) (by kernel_rfl) _ _ (w.heap.size+1) 35 (cmC c3) (0,0) _ _ rfl rfl (setRow_heap _ _ _ _ _ _ HZ9.out) Tryz.underlying35 rfl Zaf) rfl ?_;exact⟨⟨_,er9,rfl,HO9.out.1.trans HOC.out.1,HO9.out.2.1.trans HOC.out.2.1,HO9.out.2.2⟩,Zah HB9.out (Nat.le_succ _) _⟩
 have HINwd:=Zh (show Calls Tryz.prog 51 #[.int .u8 (d.toNat:Int),.string ⟨#[109,116]⟩] wb fun e w'=>SomeB anyQ e∧w'=wb from refIn d [109,116] wb (by decide));go_wp2_with fail;refine HINwd.out.mono ?_;rintro e wd ⟨⟨bwd,rfl,-⟩,rfl⟩;clear HINwd;cases bwd
 case true=>
  have HON1:=Zh (refOne s wd (by have:=HLS.out;omega));go_wp2_with fail;refine HON1.out.mono ?_;rintro e w5 ⟨⟨kd,z,re,ad,nx,er,rfl,hre,hnx⟩,hb5⟩;have HC5:=Zh (HCA.out.later hb5);have HZ5:=Zh ((hb5.block _ (Zaa HZ.out)).trans HZ.out);have HB5:=Zh (HBA.out.trans (hb5.mono HBA.out.size));have HRL:=Zh (show re.length≤100000∧nx≤s.length from⟨by omega,hnx⟩);clear hb5 hre hnx HON1 HCA HZ HBA q2;unfold adV;have hbA:=Zab w5 (.cells #[.int .i64 kd,.int .i64 z,.string ⟨re.toArray⟩,.int .i64 ad] 33);have HGA:=Zh (show AdAt (w5.alloc (.cells #[.int .i64 kd,.int .i64 z,.string ⟨re.toArray⟩,.int .i64 ad] 33)) w5.heap.size kd z re ad from Zae w5 _);have HC6:=Zh (HC5.out.later hbA);have HZ6:=Zh ((hbA.block _ (Zaa HZ5.out)).trans HZ5.out);have HB6:=Zh (HB5.out.trans (hbA.mono HB5.out.size));clear hbA HC5 HZ5 HB5;go_upto_region 7 with fail;generalize w5.alloc (.cells #[.int .i64 kd,.int .i64 z,.string ⟨re.toArray⟩,.int .i64 ad] 33)=w6 at *;obtain⟨g,hg⟩:∃g,w5.heap.size=g:=⟨_,rfl⟩;rw [hg]at HGA ⊢;clear hg
  by_cases her:er=0
  case neg=>
   have herb:(er !=0)=true:=bne_iff_ne.2 her;have HNX:=Zh (Zbk HOC.out.2.2);have HSX:=Zh (show old.size=(cmC c).size from HOS.out)
   go_wp2_with (first
    | (refine wpList_load_row rfl 35 _ (by with_reducible rfl) w.heap.size rfl 35 (cmC c) (0,0) _ HC6.out Tryz.underlying35 rfl Zaf ?_)
    | (refine wpList_store_row rfl 35 _ _ (by with_reducible rfl) (w.heap.size+1) (cmC c) rfl rfl 35 old HZ6.out Zaf HSX.out HNX.out ?_))
   refine bodyPost_ret (v:= .tuple #[.agg (cmC c),.int .i64 er]) (Zag (p:=4) (q:=5) (by kernel_rfl) _ _ (w.heap.size+1) 35 (cmC c) (0,0) _ _ rfl rfl (setRow_heap _ _ _ _ _ _ HZ6.out) Tryz.underlying35 rfl Zaf) rfl ?_;exact⟨⟨_,er,rfl,HOC.out.1,HOC.out.2.1,HOC.out.2.2⟩,Zah HB6.out (Nat.le_succ _) _⟩
  subst her;have a0:=HGA.out.c 0 rfl;have a1:=HGA.out.c 1 rfl;have a2:=HGA.out.c 2 rfl;have a3:=HGA.out.c 3 rfl;have u7:w6.cell? ⟨w.heap.size,3,none⟩=some (.int .i64 c.dk):=HC6.out.cel 3 rfl;have g7:=HC6.out.fz 3;have HC7:=Zh (HC6.out.setN 3 (.int .i64 kd) { c with dk:=kd } rfl);have HZ7:=Zh (show(w6.setCell ⟨w.heap.size,3,none⟩ (.int .i64 kd)).heap[w.heap.size+1]? =some (.cells old 35 (0,0)) from(Below.heap_setCell _ _ _ _ (show w.heap.size+1≠w.heap.size by omega)).trans HZ6.out);have HB7:=Zh (HB6.out.setCell (p:=⟨w.heap.size,3,none⟩) (Nat.le_refl _) (.int .i64 kd));have u8:(w6.setCell ⟨w.heap.size,3,none⟩ (.int .i64 kd)).cell? ⟨w.heap.size,4,none⟩=some (.int .i64 c.dz):=HC7.out.cel 4 rfl;have g8:=HC7.out.fz 4;have HC8:=Zh (HC7.out.setN 4 (.int .i64 z) { c with dk:=kd,dz:=z } rfl);have HZ8:=Zh (show((w6.setCell ⟨w.heap.size,3,none⟩ (.int .i64 kd)).setCell ⟨w.heap.size,4,none⟩ (.int .i64 z)).heap[w.heap.size+1]? =some (.cells old 35 (0,0)) from(Below.heap_setCell _ _ _ _ (show w.heap.size+1≠w.heap.size by omega)).trans HZ7.out);have HB8:=Zh (HB7.out.setCell (p:=⟨w.heap.size,4,none⟩) (Nat.le_refl _) (.int .i64 z));have u9:((w6.setCell ⟨w.heap.size,3,none⟩ (.int .i64 kd)).setCell ⟨w.heap.size,4,none⟩ (.int .i64 z)).cell? ⟨w.heap.size,5,none⟩=some (.string ⟨c.dre.toArray⟩):=HC8.out.cel 5 rfl;have g9:=HC8.out.fz 5;have HC9:=Zh (HC8.out.setN 5 (.string ⟨re.toArray⟩) { c with dk:=kd,dz:=z,dre:=re } rfl);have HZ9:=Zh (show(((w6.setCell ⟨w.heap.size,3,none⟩ (.int .i64 kd)).setCell ⟨w.heap.size,4,none⟩ (.int .i64 z)).setCell ⟨w.heap.size,5,none⟩ (.string ⟨re.toArray⟩)).heap[w.heap.size+1]? =some (.cells old 35 (0,0)) from(Below.heap_setCell _ _ _ _ (show w.heap.size+1≠w.heap.size by omega)).trans HZ8.out);have HB9:=Zh (HB8.out.setCell (p:=⟨w.heap.size,5,none⟩) (Nat.le_refl _) (.string ⟨re.toArray⟩));have u10:(((w6.setCell ⟨w.heap.size,3,none⟩ (.int .i64 kd)).setCell ⟨w.heap.size,4,none⟩ (.int .i64 z)).setCell ⟨w.heap.size,5,none⟩ (.string ⟨re.toArray⟩)).cell? ⟨w.heap.size,6,none⟩=some (.int .i64 c.da):=HC9.out.cel 6 rfl;have g10:=HC9.out.fz 6;have HC10:=Zh (HC9.out.setN 6 (.int .i64 ad) { c with dk:=kd,dz:=z,dre:=re,da:=ad } rfl);have HZ10:=Zh (show((((w6.setCell ⟨w.heap.size,3,none⟩ (.int .i64 kd)).setCell ⟨w.heap.size,4,none⟩ (.int .i64 z)).setCell ⟨w.heap.size,5,none⟩ (.string ⟨re.toArray⟩)).setCell ⟨w.heap.size,6,none⟩ (.int .i64 ad)).heap[w.heap.size+1]? =some (.cells old 35 (0,0)) from(Below.heap_setCell _ _ _ _ (show w.heap.size+1≠w.heap.size by omega)).trans HZ9.out);have HB10:=Zh (HB9.out.setCell (p:=⟨w.heap.size,6,none⟩) (Nat.le_refl _) (.int .i64 ad));have HOX:=Zh (show Zcf c { c with dk:=kd,dz:=z,dre:=re,da:=ad } from⟨rfl,rfl,⟨HCO.out.lv,HCO.out.sv,by have:=HRL.out;show re.length≤1000000;omega,HCO.out.re,HCO.out.sub⟩⟩);have HFL:=Zh (fun(x:Cm) (hx:CmOk x) (t:List UInt8) (ht:t.length≤1000000) (X:World)=>refSuffix x hx t X ht);have HCX:=HC10;have HZX:=HZ10;have HBX:=HB10;go_upto_region 10 with fail;clear u7 g7 u8 g8 u9 g9 u10 g10 a0 a1 a2 a3 HC7 HZ7 HB7 HC8 HZ8 HB8 HC9 HZ9 HB9 HC10 HZ10 HB10;generalize (((w6.setCell _ _).setCell _ _).setCell _ _).setCell _ _=wF at *;obtain⟨x,hx⟩:∃x:Cm,{ c with dk:=kd,dz:=z,dre:=re,da:=ad }=x:=⟨_,rfl⟩;rw [hx]at HCX HOX;clear hx;have he2:=Zcg s nx;have hni:(nx:Int)≤(s.length:Int):=by have:=HRL.out;omega
  obtain⟨t2,ht2⟩:∃t2,s.drop nx=t2:=⟨_,rfl⟩;have HTD:=Zh (show t2.length≤1000000 by rw [← ht2,List.length_drop];have:=HLS.out;omega);rw [ht2]at he2;clear ht2;have HFC:=Zh (HFL.out x HOX.out.2.2 t2 HTD.out);have HSV:=Zh (fun(X:World) (hb:Below wF.heap.size wF X)=>(hb.block _ (Zaa HCX.out)).trans HCX.out);have HX:=Zh (Below.refl wF.heap.size wF)
  skip
  refine wp_region_noPanic ?_;refine wp_region_any (by kernel_rfl) ?_;change wpAny _ _ _ _ _ _ _ wF.drew;refine Zba 7 7 (Array.replicate 9 false) (fun X=>X.heap[w.heap.size]? =some (.cells (cmC x) 35 (0,0))) (by kernel_rfl) (HSV.out _ HX.out.drew) (fun hHeld=>?_);simp only [List.take_succ_cons,List.take_zero,List.drop_succ_cons,List.drop_zero];refine Zad (i:=0) (v:=_) rfl (by kernel_rfl) (by kernel_rfl) (by kernel_rfl) (fun _ _ _ h=>h) (Fil.yieldsIf_load_row (by rfl) 35 _ rfl w.heap.size rfl 35 (cmC x) (0,0) _ (fun X hX=>hX) Tryz.underlying35 rfl Zaf) (by assumption) ?_
  (try simp only [Act.put,Zs1,Zs2,Zs3])
  refine Zad (i:=1) (v:=?_) rfl (by kernel_rfl) (by kernel_rfl) (by kernel_rfl) (fun _ _ _ h=>h) (.inl ⟨by rfl,?_⟩) (by assumption) ?_;rotate_left
  ·intro w hSw
   (try dsimp only at hSw)
   go_simp
   (try with_reducible rfl)
  (try simp only [Act.put,Zs1,Zs2,Zs3])
  refine Zad (i:=2) (v:=?_) rfl (by kernel_rfl) (by kernel_rfl) (by kernel_rfl) (fun _ _ _ h=>h) (.inl ⟨by rfl,?_⟩) (by assumption) ?_;rotate_left
  ·intro w hSw
   (try dsimp only at hSw)
   go_simp
   (try with_reducible rfl)
  (try simp only [Act.put,Zs1,Zs2,Zs3])
  refine Zad (i:=3) (v:=?_) rfl (by kernel_rfl) (by kernel_rfl) (by kernel_rfl) (fun _ _ _ h=>h) (.inl ⟨by rfl,?_⟩) (by assumption) ?_;rotate_left
  ·intro w hSw
   (try dsimp only at hSw)
   go_simp
   (try with_reducible rfl)
  (try simp only [Act.put,Zs1,Zs2,Zs3])
  refine wpAnyH_ready (rs:=[4]) (by kernel_rfl) (by simp) ?_;refine AllReadyH.consL rfl (fun K hK=>?_) ?_
  ·go_simp
   (with_reducible refine(HFC.out _).mono ?_)
   rintro e w9 ⟨⟨c3,er3,rfl,h1,h2,h3⟩,hbl⟩;have HBC:=Zh ((HX.out.drew).trans (hbl.mono (HX.out.drew).size));have HO9:=Zh (show Zcf x c3 from⟨h1,h2,h3⟩);clear hbl h1 h2 h3;refine hK.out _ _ ?_ (fun hHeld=>?_)
   ·first | exact HSV.out _ HX.out.drew | exact HSV.out _ HBC.out
   clear hK K
   (try simp only [Zs1])
   refine Zad (i:=5) (v:=?_) rfl (by kernel_rfl) (by kernel_rfl) (by kernel_rfl) (fun _ _ _ h=>h) (.inl ⟨by rfl,?_⟩) (by assumption) ?_;rotate_left
   ·intro w hSw
    (try dsimp only at hSw)
    go_simp
    (try with_reducible rfl)
   (try simp only [Act.put,Zs1,Zs2,Zs3])
   refine Zad (i:=6) (v:=?_) rfl (by kernel_rfl) (by kernel_rfl) (by kernel_rfl) (fun _ _ _ h=>h) (.inl ⟨by rfl,?_⟩) (by assumption) ?_;rotate_left
   ·intro w hSw
    (try dsimp only at hSw)
    go_simp
    (try with_reducible rfl)
   (try simp only [Act.put,Zs1,Zs2,Zs3])
   refine wpAnyH_done (by kernel_rfl) ?_ _;have HZ9:=Zh ((HBC.out.block _ (Zaa HZX.out)).trans HZX.out);have HB9:=Zh (HBX.out.trans (HBC.out.mono HBX.out.size));have HN9:=Zh (Zbk HO9.out.2.2);have HS9:=Zh (show old.size=(cmC c3).size from HOS.out);change wpList _ _ _ _ _ _;go_wp2_with (refine wpList_store_row rfl 35 _ _ (by with_reducible rfl) (w.heap.size+1) (cmC c3) rfl rfl 35 old HZ9.out Zaf HS9.out HN9.out ?_);refine NoPanic.normal ?_;go_wp2_with fail;refine bodyPost_ret (v:= .tuple #[.agg (cmC c3),.int .i64 er3]) (Zag (p:=4) (q:=5) (by kernel_rfl) _ _ (w.heap.size+1) 35 (cmC c3) (0,0) _ _ rfl rfl (setRow_heap _ _ _ _ _ _ HZ9.out) Tryz.underlying35 rfl Zaf) rfl ?_;exact⟨⟨_,er3,rfl,HO9.out.1.trans HOX.out.1,HO9.out.2.1.trans HOX.out.2.1,HO9.out.2.2⟩,Zah HB9.out (Nat.le_succ _) _⟩
  exact AllReadyH.nil
 by_cases h115:(d.toNat:Int)=115
 case pos=>
  have h115b:((d.toNat:Int)==115)=true:=Zt h115;clear h115;have HFC:=Zh (HSB.out wd);go_wp2_with (refine wpList_load_row rfl 35 _ (by with_reducible rfl) w.heap.size rfl 35 (cmC c) (0,0) _ HCA.out Tryz.underlying35 rfl Zaf ?_);refine HFC.out.mono ?_;rintro e w9 ⟨⟨c3,er9,rfl,h1,h2,h3⟩,hbl⟩;have HBC:=Zh hbl;have HO9:=Zh (show Zcf c c3 from⟨h1,h2,h3⟩);clear hbl h1 h2 h3;have HZ9:=Zh ((HBC.out.block _ (Zaa HZ.out)).trans HZ.out);have HB9:=Zh (HBA.out.trans (HBC.out.mono HBA.out.size));have HN9:=Zh (Zbk HO9.out.2.2);have HS9:=Zh (show old.size=(cmC c3).size from HOS.out);go_wp2_with (refine wpList_store_row rfl 35 _ _ (by with_reducible rfl) (w.heap.size+1) (cmC c3) rfl rfl 35 old HZ9.out Zaf HS9.out HN9.out ?_);refine bodyPost_ret (v:= .tuple #[.agg (cmC c3),.int .i64 er9]) (Zag (p:=4) (q:=5) (by kernel_rfl) _ _ (w.heap.size+1) 35 (cmC c3) (0,0) _ _ rfl rfl (setRow_heap _ _ _ _ _ _ HZ9.out) Tryz.underlying35 rfl Zaf) rfl ?_;exact⟨⟨_,er9,rfl,HO9.out.1.trans HOC.out.1,HO9.out.2.1.trans HOC.out.2.1,HO9.out.2.2⟩,Zah HB9.out (Nat.le_succ _) _⟩
 have h115b:((d.toNat:Int)==115)=false:=Zf h115;have HINwe:=Zh (show Calls Tryz.prog 51 #[.int .u8 (d.toNat:Int),.string ⟨#[103,118]⟩] wd fun e w'=>SomeB anyQ e∧w'=wd from refIn d [103,118] wd (by decide));go_wp2_with fail;refine HINwe.out.mono ?_;rintro e we ⟨⟨bwe,rfl,-⟩,rfl⟩;clear HINwe;cases bwe
 case true=>
  have HFC:=Zh (HGL.out we);go_wp2_with (refine wpList_load_row rfl 35 _ (by with_reducible rfl) w.heap.size rfl 35 (cmC c) (0,0) _ HCA.out Tryz.underlying35 rfl Zaf ?_);refine HFC.out.mono ?_;rintro e w9 ⟨⟨c3,er9,rfl,h1,h2,h3⟩,hbl⟩;have HBC:=Zh hbl;have HO9:=Zh (show Zcf c c3 from⟨h1,h2,h3⟩);clear hbl h1 h2 h3;have HZ9:=Zh ((HBC.out.block _ (Zaa HZ.out)).trans HZ.out);have HB9:=Zh (HBA.out.trans (HBC.out.mono HBA.out.size));have HN9:=Zh (Zbk HO9.out.2.2);have HS9:=Zh (show old.size=(cmC c3).size from HOS.out);go_wp2_with (refine wpList_store_row rfl 35 _ _ (by with_reducible rfl) (w.heap.size+1) (cmC c3) rfl rfl 35 old HZ9.out Zaf HS9.out HN9.out ?_);refine bodyPost_ret (v:= .tuple #[.agg (cmC c3),.int .i64 er9]) (Zag (p:=4) (q:=5) (by kernel_rfl) _ _ (w.heap.size+1) 35 (cmC c3) (0,0) _ _ rfl rfl (setRow_heap _ _ _ _ _ _ HZ9.out) Tryz.underlying35 rfl Zaf) rfl ?_;exact⟨⟨_,er9,rfl,HO9.out.1.trans HOC.out.1,HO9.out.2.1.trans HOC.out.2.1,HO9.out.2.2⟩,Zah HB9.out (Nat.le_succ _) _⟩
 by_cases h122:(d.toNat:Int)=122
 case pos=>
  have h122b:((d.toNat:Int)==122)=true:=Zt h122;clear h122;have HDG:=Zh (fun(j:Nat)=>refDigit s j we (by have:=HLS.out;omega));go_wp2_with fail
  go_loop [9] (fun iv=>∃i:Nat,iv= .int .i64 (i:Int)∧i≤s.length) (fun iv=>s.length - (intOf iv).toNat)
  case atStart=>exact⟨0,rfl,Nat.zero_le _⟩
  case round=>
   obtain⟨i,rfl,hi⟩:=hrel
   by_cases hlt:i < s.length
   case neg=>
    have hki:¬(i:Int) < (s.length:Int):=by omega
    clear hlt;have u7:we.cell? ⟨w.heap.size,13,none⟩=some (.string ⟨c.n2.toArray⟩):=HCA.out.cel 13 rfl;have g7:=HCA.out.fz 13;have HC7:=Zh (HCA.out.setN 13 (.string ⟨s.toArray⟩) { c with n2:=s } rfl);have HZ7:=Zh (show(we.setCell ⟨w.heap.size,13,none⟩ (.string ⟨s.toArray⟩)).heap[w.heap.size+1]? =some (.cells old 35 (0,0)) from(Below.heap_setCell _ _ _ _ (show w.heap.size+1≠w.heap.size by omega)).trans HZ.out);have HB7:=Zh (HBA.out.setCell (p:=⟨w.heap.size,13,none⟩) (Nat.le_refl _) (.string ⟨s.toArray⟩));have HO7:=Zh (show Zcf c { c with n2:=s } from⟨rfl,rfl,⟨HCO.out.lv,HCO.out.sv,HCO.out.dre,HCO.out.re,HCO.out.sub⟩⟩);go_upto_region 22 with fail;clear u7 g7 q2;generalize we.setCell _ _=w6 at *
    by_cases h4:4 < (s.length:Int)
    case pos=>
     have HNX:=Zh (Zbk HO7.out.2.2);have HSX:=Zh (show old.size=(cmC { c with n2:=s }).size from HOS.out)
     go_wp2_with (first
      | (refine wpList_load_row rfl 35 _ (by with_reducible rfl) w.heap.size rfl 35 (cmC { c with n2:=s }) (0,0) _ HC7.out Tryz.underlying35 rfl Zaf ?_)
      | (refine wpList_store_row rfl 35 _ _ (by with_reducible rfl) (w.heap.size+1) (cmC { c with n2:=s }) rfl rfl 35 old HZ7.out Zaf HSX.out HNX.out ?_))
     refine bodyPost_ret (v:= .tuple #[.agg (cmC { c with n2:=s }),.int .i64 211]) (Zag (p:=4) (q:=5) (by kernel_rfl) _ _ (w.heap.size+1) 35 (cmC { c with n2:=s }) (0,0) _ _ rfl rfl (setRow_heap _ _ _ _ _ _ HZ7.out) Tryz.underlying35 rfl Zaf) rfl ?_;exact⟨⟨_,211,rfl,HO7.out.1,HO7.out.2.1,HO7.out.2.2⟩,Zah HB7.out (Nat.le_succ _) _⟩
    have HNX:=Zh (Zbk HO7.out.2.2);have HSX:=Zh (show old.size=(cmC { c with n2:=s }).size from HOS.out)
    go_wp2_with (first
     | (refine wpList_load_row rfl 35 _ (by with_reducible rfl) w.heap.size rfl 35 (cmC { c with n2:=s }) (0,0) _ HC7.out Tryz.underlying35 rfl Zaf ?_)
     | (refine wpList_store_row rfl 35 _ _ (by with_reducible rfl) (w.heap.size+1) (cmC { c with n2:=s }) rfl rfl 35 old HZ7.out Zaf HSX.out HNX.out ?_))
    refine bodyPost_ret (v:= .tuple #[.agg (cmC { c with n2:=s }),.int .i64 0]) (Zag (p:=4) (q:=5) (by kernel_rfl) _ _ (w.heap.size+1) 35 (cmC { c with n2:=s }) (0,0) _ _ rfl rfl (setRow_heap _ _ _ _ _ _ HZ7.out) Tryz.underlying35 rfl Zaf) rfl ?_;exact⟨⟨_,0,rfl,HO7.out.1,HO7.out.2.1,HO7.out.2.2⟩,Zah HB7.out (Nat.le_succ _) _⟩
   have hki:(i:Int) < (s.length:Int):=by omega
   have HDI:=Zh (HDG.out i);go_wp2_with fail;refine HDI.out.mono ?_;rintro e w6 ⟨rfl,rfl⟩;cases hdg:dgB s i
   case false=>
    clear hdg;have HNX:=Zh (Zbk HOC.out.2.2);have HSX:=Zh (show old.size=(cmC c).size from HOS.out)
    go_wp2_with (first
     | (refine wpList_load_row rfl 35 _ (by with_reducible rfl) w.heap.size rfl 35 (cmC c) (0,0) _ HCA.out Tryz.underlying35 rfl Zaf ?_)
     | (refine wpList_store_row rfl 35 _ _ (by with_reducible rfl) (w.heap.size+1) (cmC c) rfl rfl 35 old HZ.out Zaf HSX.out HNX.out ?_))
    refine bodyPost_ret (v:= .tuple #[.agg (cmC c),.int .i64 211]) (Zag (p:=4) (q:=5) (by kernel_rfl) _ _ (w.heap.size+1) 35 (cmC c) (0,0) _ _ rfl rfl (setRow_heap _ _ _ _ _ _ HZ.out) Tryz.underlying35 rfl Zaf) rfl ?_;exact⟨⟨_,211,rfl,HOC.out.1,HOC.out.2.1,HOC.out.2.2⟩,Zah HBA.out (Nat.le_succ _) _⟩
   clear hdg;go_wp2_with fail;go_round
   case rel=>exact⟨i+1,by go_num,hlt⟩
   case measure=>simp [intOf] <;> omega
 have h122b:((d.toNat:Int)==122)=false:=Zf h122;have HINwf:=Zh (show Calls Tryz.prog 51 #[.int .u8 (d.toNat:Int),.string ⟨#[104,113,81]⟩] we fun e w'=>SomeB anyQ e∧w'=we from refIn d [104,113,81] we (by decide));go_wp2_with fail;refine HINwf.out.mono ?_;rintro e wf ⟨⟨bwf,rfl,-⟩,rfl⟩;clear HINwf;cases bwf
 case true=>
  by_cases h0:s=[]
  case pos=>
   subst h0;have HNX:=Zh (Zbk HOC.out.2.2);have HSX:=Zh (show old.size=(cmC c).size from HOS.out)
   go_wp2_with (first
    | (refine wpList_load_row rfl 35 _ (by with_reducible rfl) w.heap.size rfl 35 (cmC c) (0,0) _ HCA.out Tryz.underlying35 rfl Zaf ?_)
    | (refine wpList_store_row rfl 35 _ _ (by with_reducible rfl) (w.heap.size+1) (cmC c) rfl rfl 35 old HZ.out Zaf HSX.out HNX.out ?_))
   refine bodyPost_ret (v:= .tuple #[.agg (cmC c),.int .i64 0]) (Zag (p:=4) (q:=5) (by kernel_rfl) _ _ (w.heap.size+1) 35 (cmC c) (0,0) _ _ rfl rfl (setRow_heap _ _ _ _ _ _ HZ.out) Tryz.underlying35 rfl Zaf) rfl ?_;exact⟨⟨_,0,rfl,HOC.out.1,HOC.out.2.1,HOC.out.2.2⟩,Zah HBA.out (Nat.le_succ _) _⟩
  obtain⟨e0,he0⟩:∃e0,(!s.isEmpty)=e0:=⟨_,rfl⟩;have h0b:s.isEmpty=false:=by cases s with | nil=>exact absurd rfl h0 | cons=>rfl
  have h0c:(s !=[])=true:=by rw [bne_iff_ne];exact h0
  clear h0 he0;have HNX:=Zh (Zbk HOC.out.2.2);have HSX:=Zh (show old.size=(cmC c).size from HOS.out)
  go_wp2_with (first
   | (refine wpList_load_row rfl 35 _ (by with_reducible rfl) w.heap.size rfl 35 (cmC c) (0,0) _ HCA.out Tryz.underlying35 rfl Zaf ?_)
   | (refine wpList_store_row rfl 35 _ _ (by with_reducible rfl) (w.heap.size+1) (cmC c) rfl rfl 35 old HZ.out Zaf HSX.out HNX.out ?_))
  refine bodyPost_ret (v:= .tuple #[.agg (cmC c),.int .i64 211]) (Zag (p:=4) (q:=5) (by kernel_rfl) _ _ (w.heap.size+1) 35 (cmC c) (0,0) _ _ rfl rfl (setRow_heap _ _ _ _ _ _ HZ.out) Tryz.underlying35 rfl Zaf) rfl ?_;exact⟨⟨_,211,rfl,HOC.out.1,HOC.out.2.1,HOC.out.2.2⟩,Zah HBA.out (Nat.le_succ _) _⟩
 have HAK:=Zh (refAsks s wf (by have:=HLS.out;omega));go_wp2_with fail;refine HAK.out.mono ?_;rintro e w5 ⟨hask,rfl⟩;obtain⟨n,er,rfl,-⟩:=hask;have u7:w5.cell? ⟨w.heap.size,13,none⟩=some (.string ⟨c.n2.toArray⟩):=HCA.out.cel 13 rfl;have g7:=HCA.out.fz 13;have HC7:=Zh (HCA.out.setN 13 (.string ⟨n.toArray⟩) { c with n2:=n } rfl);have HZ7:=Zh (show(w5.setCell ⟨w.heap.size,13,none⟩ (.string ⟨n.toArray⟩)).heap[w.heap.size+1]? =some (.cells old 35 (0,0)) from(Below.heap_setCell _ _ _ _ (show w.heap.size+1≠w.heap.size by omega)).trans HZ.out);have HB7:=Zh (HBA.out.setCell (p:=⟨w.heap.size,13,none⟩) (Nat.le_refl _) (.string ⟨n.toArray⟩));have HO7:=Zh (show Zcf c { c with n2:=n } from⟨rfl,rfl,⟨HCO.out.lv,HCO.out.sv,HCO.out.dre,HCO.out.re,HCO.out.sub⟩⟩);go_upto_region 31 with fail;clear u7 g7 q2;generalize w5.setCell _ _=w6 at *;have HNX:=Zh (Zbk HO7.out.2.2);have HSX:=Zh (show old.size=(cmC { c with n2:=n }).size from HOS.out)
 go_wp2_with (first
  | (refine wpList_load_row rfl 35 _ (by with_reducible rfl) w.heap.size rfl 35 (cmC { c with n2:=n }) (0,0) _ HC7.out Tryz.underlying35 rfl Zaf ?_)
  | (refine wpList_store_row rfl 35 _ _ (by with_reducible rfl) (w.heap.size+1) (cmC { c with n2:=n }) rfl rfl 35 old HZ7.out Zaf HSX.out HNX.out ?_))
 refine bodyPost_ret (v:= .tuple #[.agg (cmC { c with n2:=n }),.int .i64 er]) (Zag (p:=4) (q:=5) (by kernel_rfl) _ _ (w.heap.size+1) 35 (cmC { c with n2:=n }) (0,0) _ _ rfl rfl (setRow_heap _ _ _ _ _ _ HZ7.out) Tryz.underlying35 rfl Zaf) rfl ?_;exact⟨⟨_,er,rfl,HO7.out.1,HO7.out.2.1,HO7.out.2.2⟩,Zah HB7.out (Nat.le_succ _) _⟩
end Go.Proofs.YtndjgbehbgcpkaaGreatDoor
