/- The reference's reader of command lines: a substitution. -/
import Derived.Test.YtndjgbehbgcpkaaGreatDoorPrp
set_option linter.unusedVariables false
set_option linter.unusedSimpArgs false
set_option maxRecDepth 100000
set_option maxHeartbeats 4000000
namespace Go.Proofs.YtndjgbehbgcpkaaGreatDoor
open Go Go.Proofs Go.RowKit Go.Ink Go.Sort
theorem refSubstitution (c:Cm)(hc:CmOk c)(s:List UInt8)(w:World)(hs:s.length≤100000):
 Calls Tryz.prog 85 #[.agg (cmC c),.string ⟨s.toArray⟩] w fun e w'=>CmdE c e∧Below w.heap.size w w':=by
 have hsz:=size_mk s;have HPT:=Zh (fun(X:World)=>refPattern s X hs);have HP9:=Zh (fun(t:List UInt8) (X:World) (ht:t.length≤100000)=>refParse9 t X ht);have HCK:=Zh (fun(t:List UInt8) (X:World) (ht:t.length≤100000)=>refCheck t X (by omega));have HMO:=Zh (fun(t:List UInt8) (X:World) (ht:t.length≤100000)=>refMost t X (by omega));have HDL:=Zh (fun(t:List UInt8) (d:UInt8) (X:World) (ht:t.length≤100000)=>(show Calls Tryz.prog 138 #[.string ⟨t.toArray⟩,.int .i64 0,.int .u8 (d.toNat:Int)] X fun e w'=>DelE t 0 e∧w'=X from refDelimited t 0 d X (by omega) (by omega)));have HFL:=Zh (fun(x:Cm) (hx:CmOk x) (t:List UInt8) (ht:t.length≤1000000) (X:World)=>refFlags x hx t X ht);have HLS:=Zh hs;have HCO:=Zh hc;have HOC:=Zh (show Zcf c c from⟨rfl,rfl,hc⟩);go_enter Tryz.func85,Tryz.ntmps85;go_upto_region 1 with fail;generalize hwA:(w.alloc _).alloc _=wA;obtain⟨old,HZ,HOS⟩:∃old:Array Value,Hid (wA.heap[w.heap.size+1]? =some (.cells old 35 (0,0)))∧Hid (old.size=15):=⟨cm0,Zh (hwA▸heap_alloc2_new _ _ _),Zh rfl⟩;have HCA:=Zh (show CmAt wA w.heap.size c from hwA▸heap_alloc2_old _ _ _);have HBA:=Zh (show Below w.heap.size w wA from hwA▸(Zab w _).trans ((Zab _ _).mono (Zab w _).size));clear hwA;have HPA:=Zh (HPT.out wA);go_wp2_with fail;refine HPA.out.mono ?_;rintro e w1 ⟨⟨re,rest,cl,er,rfl,hre,hrest,hok⟩,hb1⟩;have HC0:=Zh (HCA.out.later hb1);have HZ0:=Zh ((hb1.block _ (Zaa HZ.out)).trans HZ.out);have HB0:=Zh (HBA.out.trans (hb1.mono HBA.out.size));have HRL:=Zh (show re.length≤100000∧rest.length≤100000 from⟨by omega,by omega⟩);have HOK:=Zh hok;clear hb1 hre hrest HPA HPT hok
 by_cases her:er=0
 case neg=>
  have herb:(er !=0)=true:=bne_iff_ne.2 her;have HNX:=Zh (Zbk HOC.out.2.2);have HSX:=Zh (show old.size=(cmC c).size from HOS.out)
  go_wp2_with (first
   | (refine wpList_load_row rfl 35 _ (by with_reducible rfl) w.heap.size rfl 35 (cmC c) (0,0) _ HC0.out Tryz.underlying35 rfl Zaf ?_)
   | (refine wpList_store_row rfl 35 _ _ (by with_reducible rfl) (w.heap.size+1) (cmC c) rfl rfl 35 old HZ0.out Zaf HSX.out HNX.out ?_))
  refine bodyPost_ret (v:= .tuple #[.agg (cmC c),.int .i64 er]) (Zag (p:=4) (q:=5) (by kernel_rfl) _ _ (w.heap.size+1) 35 (cmC c) (0,0) _ _ rfl rfl (setRow_heap _ _ _ _ _ _ HZ0.out) Tryz.underlying35 rfl Zaf) rfl ?_;exact⟨⟨_,er,rfl,HOC.out.1,HOC.out.2.1,HOC.out.2.2⟩,Zah HB0.out (Nat.le_succ _) _⟩
 subst her;have hslp:0 < s.length:=(HOK.out rfl).1;have HRE:=Zh (HOK.out rfl).2;obtain⟨d,hkd⟩:∃d,s[0]? =some d:=⟨_,Zg hslp⟩;have hby:=Zak hkd;clear hkd HOK;cases cl
 case false=>
  have HNX:=Zh (Zbk HOC.out.2.2);have HSX:=Zh (show old.size=(cmC c).size from HOS.out)
  go_wp2_with (first
   | (refine wpList_load_row rfl 35 _ (by with_reducible rfl) w.heap.size rfl 35 (cmC c) (0,0) _ HC0.out Tryz.underlying35 rfl Zaf ?_)
   | (refine wpList_store_row rfl 35 _ _ (by with_reducible rfl) (w.heap.size+1) (cmC c) rfl rfl 35 old HZ0.out Zaf HSX.out HNX.out ?_))
  refine bodyPost_ret (v:= .tuple #[.agg (cmC c),.int .i64 90]) (Zag (p:=4) (q:=5) (by kernel_rfl) _ _ (w.heap.size+1) 35 (cmC c) (0,0) _ _ rfl rfl (setRow_heap _ _ _ _ _ _ HZ0.out) Tryz.underlying35 rfl Zaf) rfl ?_;exact⟨⟨_,90,rfl,HOC.out.1,HOC.out.2.1,HOC.out.2.2⟩,Zah HB0.out (Nat.le_succ _) _⟩
 have HD:=Zh (HDL.out rest d w1 HRL.out.2);go_wp2_with fail;refine HD.out.mono ?_;rintro e w2 ⟨⟨repl,nx,cl2,rfl,hrl,-,hnx⟩,rfl⟩;have HRP:=Zh (show repl.length≤100000∧nx≤rest.length from⟨by have:=HRL.out;omega,by omega⟩);have HCH:=Zh (HCK.out repl w2 HRP.out.1);clear hrl hnx HD;go_wp2_with fail;refine HCH.out.mono ?_;rintro e w3 ⟨⟨ek,rfl⟩,rfl⟩
 by_cases hek:ek=0
 case neg=>
  have hekb:(ek !=0)=true:=bne_iff_ne.2 hek;have HNX:=Zh (Zbk HOC.out.2.2);have HSX:=Zh (show old.size=(cmC c).size from HOS.out)
  go_wp2_with (first
   | (refine wpList_load_row rfl 35 _ (by with_reducible rfl) w.heap.size rfl 35 (cmC c) (0,0) _ HC0.out Tryz.underlying35 rfl Zaf ?_)
   | (refine wpList_store_row rfl 35 _ _ (by with_reducible rfl) (w.heap.size+1) (cmC c) rfl rfl 35 old HZ0.out Zaf HSX.out HNX.out ?_))
  refine bodyPost_ret (v:= .tuple #[.agg (cmC c),.int .i64 ek]) (Zag (p:=4) (q:=5) (by kernel_rfl) _ _ (w.heap.size+1) 35 (cmC c) (0,0) _ _ rfl rfl (setRow_heap _ _ _ _ _ _ HZ0.out) Tryz.underlying35 rfl Zaf) rfl ?_;exact⟨⟨_,ek,rfl,HOC.out.1,HOC.out.2.1,HOC.out.2.2⟩,Zah HB0.out (Nat.le_succ _) _⟩
 subst hek
 go_upto_if 43 with fail
 obtain⟨e0,he0⟩:∃e0,(!re.isEmpty)=e0:=⟨_,rfl⟩;have HE0:=Zh he0;rw [he0];clear he0
 go_cut [12,13] from 44 to 57 (fun _ _ wx=>Hid (Below w3.heap.size w3 wx))
 case first=>
  cases e0
  case false=>
   go_wp2_with fail;go_meet
   case rel=>exact Zh (Below.refl _ _)
  have HE9:=Zh (HRE.out (fun e=>by have h:=HE0.out;rw [e]at h;cases h));have HPR:=Zh (HP9.out re w3 HRL.out.1);go_wp2_with fail;refine HPR.out.mono ?_;rintro e w5 ⟨p5,er5,rfl,h9,hre5,hb5⟩;obtain rfl:er5=0:=h9.det HE9.out;obtain⟨g,ao,n,cap,gr,mn,rf,rfl,hg,-⟩:=hre5 rfl;have HB5:=Zh hb5;have HSG:=Zh (show w5.drew.cell? ⟨g,1,none⟩=some (.int .i64 gr) from by rw [Lib.cell_of_heap (show w5.drew.heap[g]? =_ from hg)];rfl);have HMR:=Zh (fun(X:World)=>HMO.out repl X HRP.out.1);have HC5:=Zh (HC0.out.later hb5);have HZ5:=Zh ((hb5.block _ (Zaa HZ0.out)).trans HZ0.out);have HW5:=Zh (HB0.out.trans (hb5.mono HB0.out.size));clear h9 hre5 hb5 hg HPR;go_upto_region 12 with fail;refine wp_region_noPanic ?_;refine wp_region_any (by kernel_rfl) ?_;change wpAny _ _ _ _ _ _ _ w5.drew;refine Zba 6 6 (Array.replicate 7 false) (fun X=>X.cell? ⟨g,1,none⟩=some (.int .i64 gr)) (by kernel_rfl) HSG.out (fun hHeld=>?_);simp only [List.take_succ_cons,List.take_zero,List.drop_succ_cons,List.drop_zero];refine Zad (i:=0) (v:=?_) rfl (by kernel_rfl) (by kernel_rfl) (by kernel_rfl) (fun _ _ _ h=>h) (.inl ⟨by rfl,?_⟩) (by assumption) ?_;rotate_left
  ·intro w hSw
   (try dsimp only at hSw)
   go_simp
   (try with_reducible rfl)
  (try simp only [Act.put,Zs1,Zs2,Zs3])
  refine Zad (i:=2) (v:=?_) rfl (by kernel_rfl) (by kernel_rfl) (by kernel_rfl) (fun _ _ _ h=>h) (.inl ⟨by rfl,?_⟩) (by assumption) ?_;rotate_left
  ·intro w hSw
   (try dsimp only at hSw)
   go_simp
   (try with_reducible rfl)
  (try simp only [Act.put,Zs1,Zs2,Zs3])
  refine Zad (i:=3) (v:=?_) rfl (by kernel_rfl) (by kernel_rfl) (by kernel_rfl) (fun _ _ _ h=>h) (.inl ⟨by rfl,?_⟩) (by assumption) ?_;rotate_left
  ·intro w hSw
   (try dsimp only at hSw)
   go_simp
   (try with_reducible rfl)
  (try simp only [Act.put,Zs1,Zs2,Zs3])
  refine Zad (i:=4) (v:=?_) rfl (by kernel_rfl) (by kernel_rfl) (by kernel_rfl) (fun _ _ _ h=>h) (.inl ⟨by rfl,?_⟩) (by assumption) ?_;rotate_left
  ·intro w hSw
   (try dsimp only at hSw)
   go_simp
   (try with_reducible rfl)
  (try simp only [Act.put,Zs1,Zs2,Zs3])
  refine Zad (i:=5) (v:=?_) rfl (by kernel_rfl) (by kernel_rfl) (by kernel_rfl) (fun _ _ _ h=>h) (.inl ⟨by rfl,?_⟩) (by assumption) ?_;rotate_left
  ·intro w hSw
   (try dsimp only at hSw)
   go_simp
   (try with_reducible rfl)
  (try simp only [Act.put,Zs1,Zs2,Zs3])
  refine wpAnyH_ready (rs:=[1]) (by kernel_rfl) (by simp) ?_;refine AllReadyH.consL rfl (fun K hK=>?_) ?_
  ·go_simp
   (with_reducible refine(HMR.out _).mono ?_)
   rintro e w6 ⟨⟨z,rfl⟩,rfl⟩;refine hK.out _ _ ?_ (fun hHeld=>?_)
   ·exact HSG.out
   clear hK K
   (try simp only [Zs1])
   refine wpAnyH_done (by kernel_rfl) ?_ _;have HC6:=Zh (show CmAt w5.drew w.heap.size c from HC5.out);have HZ6:=Zh (show w5.drew.heap[w.heap.size+1]? =some (.cells old 35 (0,0)) from HZ5.out);have HW6:=Zh HW5.out.drew;change wpList _ _ _ _ _ _;go_wp2_with fail;refine NoPanic.normal ?_
   by_cases hgz:gr < z
   case pos=>
    have HNX:=Zh (Zbk HOC.out.2.2);have HSX:=Zh (show old.size=(cmC c).size from HOS.out)
    go_wp2_with (first
     | (refine wpList_load_row rfl 35 _ (by with_reducible rfl) w.heap.size rfl 35 (cmC c) (0,0) _ HC6.out Tryz.underlying35 rfl Zaf ?_)
     | (refine wpList_store_row rfl 35 _ _ (by with_reducible rfl) (w.heap.size+1) (cmC c) rfl rfl 35 old HZ6.out Zaf HSX.out HNX.out ?_))
    refine bodyPost_ret (v:= .tuple #[.agg (cmC c),.int .i64 110]) (Zag (p:=4) (q:=5) (by kernel_rfl) _ _ (w.heap.size+1) 35 (cmC c) (0,0) _ _ rfl rfl (setRow_heap _ _ _ _ _ _ HZ6.out) Tryz.underlying35 rfl Zaf) rfl ?_;exact⟨⟨_,110,rfl,HOC.out.1,HOC.out.2.1,HOC.out.2.2⟩,Zah HW6.out (Nat.le_succ _) _⟩
   go_wp2_with fail;go_meet
   case rel=>exact Zh HB5.out.drew
  exact AllReadyH.nil
 case rest=>
  have HB3:=hcut;have HC3:=Zh (HC0.out.later hcut.out);have HZ3:=Zh ((hcut.out.block _ (Zaa HZ0.out)).trans HZ0.out);have HW3:=Zh (HB0.out.trans (hcut.out.mono HB0.out.size));clear hcut HB3 HC0 HZ0 HB0;have u4:wc.cell? ⟨w.heap.size,8,none⟩=some (.string ⟨c.re.toArray⟩):=HC3.out.cel 8 rfl;have g4:=HC3.out.fz 8;have HC4:=Zh (HC3.out.setN 8 (.string ⟨re.toArray⟩) { c with re:=re } rfl);have HZ4:=Zh (show(wc.setCell ⟨w.heap.size,8,none⟩ (.string ⟨re.toArray⟩)).heap[w.heap.size+1]? =some (.cells old 35 (0,0)) from(Below.heap_setCell _ _ _ _ (show w.heap.size+1≠w.heap.size by omega)).trans HZ3.out);have HW4:=Zh (HW3.out.setCell (p:=⟨w.heap.size,8,none⟩) (Nat.le_refl _) (.string ⟨re.toArray⟩));have u5:(wc.setCell ⟨w.heap.size,8,none⟩ (.string ⟨re.toArray⟩)).cell? ⟨w.heap.size,9,none⟩=some (.string ⟨c.rp.toArray⟩):=HC4.out.cel 9 rfl;have g5:=HC4.out.fz 9;have HC5:=Zh (HC4.out.setN 9 (.string ⟨repl.toArray⟩) { c with re:=re,rp:=repl } rfl);have HZ5:=Zh (show((wc.setCell ⟨w.heap.size,8,none⟩ (.string ⟨re.toArray⟩)).setCell ⟨w.heap.size,9,none⟩ (.string ⟨repl.toArray⟩)).heap[w.heap.size+1]? =some (.cells old 35 (0,0)) from(Below.heap_setCell _ _ _ _ (show w.heap.size+1≠w.heap.size by omega)).trans HZ4.out);have HW5:=Zh (HW4.out.setCell (p:=⟨w.heap.size,9,none⟩) (Nat.le_refl _) (.string ⟨repl.toArray⟩));have u6:((wc.setCell ⟨w.heap.size,8,none⟩ (.string ⟨re.toArray⟩)).setCell ⟨w.heap.size,9,none⟩ (.string ⟨repl.toArray⟩)).cell? ⟨w.heap.size,11,none⟩=some (.int .i64 c.nth):=HC5.out.cel 11 rfl;have g6:=HC5.out.fz 11;have HCX:=Zh (HC5.out.setN 11 (.int .i64 1) { c with re:=re,rp:=repl,nth:=1 } rfl);have HZX:=Zh (show(((wc.setCell ⟨w.heap.size,8,none⟩ (.string ⟨re.toArray⟩)).setCell ⟨w.heap.size,9,none⟩ (.string ⟨repl.toArray⟩)).setCell ⟨w.heap.size,11,none⟩ (.int .i64 1)).heap[w.heap.size+1]? =some (.cells old 35 (0,0)) from(Below.heap_setCell _ _ _ _ (show w.heap.size+1≠w.heap.size by omega)).trans HZ5.out);have HBX:=Zh (HW5.out.setCell (p:=⟨w.heap.size,11,none⟩) (Nat.le_refl _) (.int .i64 1));have HOX:=Zh (show Zcf c { c with re:=re,rp:=repl,nth:=1 } from⟨rfl,rfl,⟨HCO.out.lv,HCO.out.sv,HCO.out.dre,by have:=HRL.out;show re.length≤1000000;omega,HCO.out.sub⟩⟩);clear HC4 HZ4 HW4 HC5 HZ5 HW5;go_upto_region 15 with fail;clear u4 g4 u5 g5 u6 g6;generalize ((wc.setCell _ _).setCell _ _).setCell _ _=wF at *;obtain⟨x,hx⟩:∃x:Cm,{ c with re:=re,rp:=repl,nth:=1 }=x:=⟨_,rfl⟩;rw [hx]at HCX HOX;clear hx;cases cl2
  case false=>
   have u7:wF.cell? ⟨w.heap.size,14,none⟩=some (.int .u8 x.pr):=HCX.out.cel 14 rfl;have g7:=HCX.out.fz 14;have HC7:=Zh (HCX.out.setN 14 (.int .u8 112) { x with pr:=112 } rfl);have HZ7:=Zh (show(wF.setCell ⟨w.heap.size,14,none⟩ (.int .u8 112)).heap[w.heap.size+1]? =some (.cells old 35 (0,0)) from(Below.heap_setCell _ _ _ _ (show w.heap.size+1≠w.heap.size by omega)).trans HZX.out);have HB7:=Zh (HBX.out.setCell (p:=⟨w.heap.size,14,none⟩) (Nat.le_refl _) (.int .u8 112));have HO7:=Zh (show Zcf c { x with pr:=112 } from⟨HOX.out.1,HOX.out.2.1,⟨HOX.out.2.2.lv,HOX.out.2.2.sv,HOX.out.2.2.dre,HOX.out.2.2.re,HOX.out.2.2.sub⟩⟩);go_upto_region 17 with fail;clear u7 g7;generalize wF.setCell _ _=wG at *;have HNX:=Zh (Zbk HO7.out.2.2);have HSX:=Zh (show old.size=(cmC { x with pr:=112 }).size from HOS.out)
   go_wp2_with (first
    | (refine wpList_load_row rfl 35 _ (by with_reducible rfl) w.heap.size rfl 35 (cmC { x with pr:=112 }) (0,0) _ HC7.out Tryz.underlying35 rfl Zaf ?_)
    | (refine wpList_store_row rfl 35 _ _ (by with_reducible rfl) (w.heap.size+1) (cmC { x with pr:=112 }) rfl rfl 35 old HZ7.out Zaf HSX.out HNX.out ?_))
   refine bodyPost_ret (v:= .tuple #[.agg (cmC { x with pr:=112 }),.int .i64 0]) (Zag (p:=4) (q:=5) (by kernel_rfl) _ _ (w.heap.size+1) 35 (cmC { x with pr:=112 }) (0,0) _ _ rfl rfl (setRow_heap _ _ _ _ _ _ HZ7.out) Tryz.underlying35 rfl Zaf) rfl ?_;exact⟨⟨_,0,rfl,HO7.out.1,HO7.out.2.1,HO7.out.2.2⟩,Zah HB7.out (Nat.le_succ _) _⟩
  have he2:=Zcg rest nx;have hni:(nx:Int)≤(rest.length:Int):=by have:=HRP.out;omega
  have hrsz:=size_mk rest;obtain⟨t2,ht2⟩:∃t2,rest.drop nx=t2:=⟨_,rfl⟩;have HTD:=Zh (show t2.length≤1000000 by rw [← ht2,List.length_drop];have:=HRL.out;omega);rw [ht2]at he2;clear ht2;have HFC:=Zh (HFL.out x HOX.out.2.2 t2 HTD.out);have HSV:=Zh (fun(X:World) (hb:Below wF.heap.size wF X)=>(hb.block _ (Zaa HCX.out)).trans HCX.out);have HX:=Zh (Below.refl wF.heap.size wF);go_upto_region 18 with fail;refine wp_region_noPanic ?_;refine wp_region_any (by kernel_rfl) ?_;change wpAny _ _ _ _ _ _ _ wF.drew;refine Zba 7 7 (Array.replicate 9 false) (fun X=>X.heap[w.heap.size]? =some (.cells (cmC x) 35 (0,0))) (by kernel_rfl) (HSV.out _ HX.out.drew) (fun hHeld=>?_);simp only [List.take_succ_cons,List.take_zero,List.drop_succ_cons,List.drop_zero];refine Zad (i:=0) (v:=_) rfl (by kernel_rfl) (by kernel_rfl) (by kernel_rfl) (fun _ _ _ h=>h) (Fil.yieldsIf_load_row (by rfl) 35 _ rfl w.heap.size rfl 35 (cmC x) (0,0) _ (fun X hX=>hX) Tryz.underlying35 rfl Zaf) (by assumption) ?_
  (try simp only [Act.put,Zs1,Zs2,Zs3])
  refine Zad (i:=1) (v:=?_) rfl (by kernel_rfl) (by kernel_rfl) (by kernel_rfl) (fun _ _ _ h=>h) (.inl ⟨by rfl,?_⟩) (by assumption) ?_;rotate_left
  ·intro w hSw
   (try dsimp only at hSw)
   go_simp
   (try with_reducible rfl)
  (try simp only [Act.put,Zs1,Zs2,Zs3])
  refine Zad (i:=2) (v:=?_) rfl (by kernel_rfl) (by kernel_rfl) (by kernel_rfl) (fun _ _ _ h=>h) (.inl ⟨by rfl,?_⟩) (by assumption) ?_;rotate_left
  ·intro w hSw
   (try dsimp only at hSw)
   go_simp
   (try with_reducible rfl)
  (try simp only [Act.put,Zs1,Zs2,Zs3])
  refine Zad (i:=3) (v:=?_) rfl (by kernel_rfl) (by kernel_rfl) (by kernel_rfl) (fun _ _ _ h=>h) (.inl ⟨by rfl,?_⟩) (by assumption) ?_;rotate_left
  ·intro w hSw
   (try dsimp only at hSw)
   go_simp
   (try with_reducible rfl)
  (try simp only [Act.put,Zs1,Zs2,Zs3])
  refine wpAnyH_ready (rs:=[4]) (by kernel_rfl) (by simp) ?_;refine AllReadyH.consL rfl (fun K hK=>?_) ?_
  ·go_simp
   (with_reducible refine(HFC.out _).mono ?_)
   rintro e w9 ⟨⟨c3,er3,rfl,h1,h2,h3⟩,hbl⟩;have HBC:=Zh ((HX.out.drew).trans (hbl.mono (HX.out.drew).size));have HO9:=Zh (show Zcf x c3 from⟨h1,h2,h3⟩);clear hbl h1 h2 h3;refine hK.out _ _ ?_ (fun hHeld=>?_)
   ·first | exact HSV.out _ HX.out.drew | exact HSV.out _ HBC.out
   clear hK K
   (try simp only [Zs1])
   refine Zad (i:=5) (v:=?_) rfl (by kernel_rfl) (by kernel_rfl) (by kernel_rfl) (fun _ _ _ h=>h) (.inl ⟨by rfl,?_⟩) (by assumption) ?_;rotate_left
   ·intro w hSw
    (try dsimp only at hSw)
    go_simp
    (try with_reducible rfl)
   (try simp only [Act.put,Zs1,Zs2,Zs3])
   refine Zad (i:=6) (v:=?_) rfl (by kernel_rfl) (by kernel_rfl) (by kernel_rfl) (fun _ _ _ h=>h) (.inl ⟨by rfl,?_⟩) (by assumption) ?_;rotate_left
   ·intro w hSw
    (try dsimp only at hSw)
    go_simp
    (try with_reducible rfl)
   (try simp only [Act.put,Zs1,Zs2,Zs3])
   refine wpAnyH_done (by kernel_rfl) ?_ _;have HZ9:=Zh ((HBC.out.block _ (Zaa HZX.out)).trans HZX.out);have HB9:=Zh (HBX.out.trans (HBC.out.mono HBX.out.size));have HN9:=Zh (Zbk HO9.out.2.2);have HS9:=Zh (show old.size=(cmC c3).size from HOS.out);change wpList _ _ _ _ _ _;go_wp2_with (refine wpList_store_row rfl 35 _ _ (by with_reducible rfl) (w.heap.size+1) (cmC c3) rfl rfl 35 old HZ9.out Zaf HS9.out HN9.out ?_);refine NoPanic.normal ?_;go_wp2_with fail;refine bodyPost_ret (v:= .tuple #[.agg (cmC c3),.int .i64 er3]) (Zag (p:=4) (q:=5) (by kernel_rfl) _ _ (w.heap.size+1) 35 (cmC c3) (0,0) _ _ rfl rfl (setRow_heap _ _ _ _ _ _ HZ9.out) Tryz.underlying35 rfl Zaf) rfl ?_;exact⟨⟨_,er3,rfl,HO9.out.1.trans HOX.out.1,HO9.out.2.1.trans HOX.out.2.1,HO9.out.2.2⟩,Zah HB9.out (Nat.le_succ _) _⟩
  exact AllReadyH.nil
end Go.Proofs.YtndjgbehbgcpkaaGreatDoor
