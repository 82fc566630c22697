/- The reference's reader of patterns: a part. -/
import Derived.Test.YtndjgbehbgcpkaaGreatDoorPrk
import Derived.Test.YtndjgbehbgcpkaaGreatDoorPra
set_option linter.unusedVariables false
set_option linter.unusedSimpArgs false
set_option maxRecDepth 100000
set_option maxHeartbeats 4000000
namespace Go.Proofs.YtndjgbehbgcpkaaGreatDoor
open Go Go.Proofs Go.RowKit Go.Ink Go.Sort
theorem NodeT.node {S:Nat→Prop}{w w5:World}{b:Nat}{s:List UInt8}{a a' gr' mn':Nat}{rf':Bool×(Nat→Bool)}{bd':Bool}{R:Nat→Out9→Prop}{kd:Int}{nc2:Array Value}{kid:Value}(hn:NdC nc2 kid)(ht:Tree w5 (fun j=>S j∨j=w.heap.size) kid)(hb:b < w.heap.size)
 (hr:RdAt w5 b s a' gr' mn' rf' bd') (hk:KeepT (fun j=>j=b) w w5) (ha:a≤a'∧a'≤s.length) (hg:gr'≤900) (hm:mn'≤a') (hx:bd'=false→a < a') (hkd:nc2[0]? =some (.int .i64 kd)) (hR:R (kcls kd) ⟨a',gr',mn',bd',rf'.2⟩):NodeT S R w b s a (.returned (.agg nc2)) (w5.setRow w.heap.size nc2):=by
 have hkk:KeepT (fun j=>j=w.heap.size) w5 (w5.setRow w.heap.size nc2):=⟨rfl,rfl,rfl,by simp,fun i hi hn=>setRow_other w5 _ i nc2 (fun e=>hn e)⟩;exact⟨nc2,kid,a',gr',mn',rf',bd',rfl,hn,(ht.kept hkk (fun j e=> .inr e)).mono (fun j _ e=> .inl e),hr.kept hkk (fun e=>by have e':b=w.heap.size:=e;omega),ha.1,ha.2,hg,hm,hx,hk.trans hkk (fun i hi e=>by have e':i=w.heap.size:=e;omega),kd,hkd,hR⟩
theorem R9.slash0 {s:List UInt8}{st:Out9}{k:Nat}{o:Out9}(h:R9 s (.slash st) k o):k=0:=by cases h <;> rfl
theorem kd1 (k:Int):(Tryz.zeroCells193.setIfInBounds 0 (Value.int .i64 k))[0]? =some (.int .i64 k):=by
 rw [Array.getElem?_setIfInBounds,if_pos rfl,if_pos (by have:=Zbq.size;unfold ndZ at this;omega)]
theorem kd2 (k:Int)(i:Nat)(hi:¬i=0)(u:Value):((Tryz.zeroCells193.setIfInBounds 0 (Value.int .i64 k)).setIfInBounds i u)[0]? =some (.int .i64 k):=by
 rw [Array.getElem?_setIfInBounds_ne (fun e=>hi e)];exact kd1 k
theorem kd0:Tryz.zeroCells193[0]? =some (.int .i64 0):=by kernel_rfl
theorem built_set2 (k:Int)(cs:Array Value)(hs:SetC cs):∃nc,Tryz.prog.built 193 [(0,.int .i64 k),(2,.agg cs)]=some nc∧NdC nc (.slice none 0 0)∧nc[0]? =some (.int .i64 k):=by
 have h1:=Zbq.part 0 (.int .i64 k) (.slice none 0 0) 0 rfl rfl rfl (fun _=>⟨k,rfl⟩) (fun h=>by cases h) (fun _=>rfl);rw [nd_built,fill_nd Zbq 0 _ _ 0 1 rfl rfl (by omega),fill_nd h1 2 (.agg cs) _ 2 256 rfl hs.1 (by omega)];refine⟨_,rfl,h1.set_ cs hs,?_⟩;rw [Fil.put_get _ 2 _ 0 (by rw [h1.size];show 2+cs.size≤262;rw [hs.1];omega),if_neg (by omega),Fil.put_get _ 0 _ 0 (by rw [Zbq.size];show 0+1≤262;omega),if_pos ⟨by omega,by show 0 < 0+1;omega⟩]
 rfl
theorem u8b_yes {c:UInt8}{n:Nat}(hn:n < 256)(h:(c.toNat:Int)=(n:Int)):(c==UInt8.ofNat n)=true:=by rw [beq_iff_eq];exact u8_eq hn h
theorem u8b_no {c:UInt8}{n:Nat}(hn:n < 256)(h:¬(c.toNat:Int)=(n:Int)):(c==UInt8.ofNat n)=false:=by
 rw [beq_eq_false_iff_ne];intro e;rw [e,UInt8.toNat_ofNat']at h;omega
def SlashC (b:Nat)(s:List UInt8)(a:Nat):Prop:=∀(w:World) (gr mn:Nat) (rf:Bool×(Nat→Bool)),RdAt w b s a gr mn rf false→gr < 900→mn≤a→a < s.length→
 Calls Tryz.prog 195 #[.pointer (some ⟨b,0,none⟩)] w fun e w'=>NodeT (fun j=>j < w.heap.size) (R9 s (.slash ⟨a,gr,mn,false,rf.2⟩)) w b s a e w'
theorem refPart9 {b:Nat}{s:List UInt8}{a gr mn:Nat}{rf:Bool×(Nat→Bool)}(hsl:SlashC b s a)(fst bg:Bool)(w:World)(h:RdAt w b s a gr mn rf false)(hg:gr < 900)(hm:mn≤a)(ha:a < s.length)(hs:s.length≤100000):
 Calls Tryz.prog 170 #[.pointer (some ⟨b,0,none⟩),.bool fst,.bool bg] w fun e w'=>NodeT (fun j=>j < w.heap.size) (R9 s (.part fst bg ⟨a,gr,mn,false,rf.2⟩)) w b s a e w':=by
 have hsz:=size_mk s;have HBL:=Zh h.lt;have HSC:=Zh (fun(X:World) (hX:RdAt X b s a gr mn rf false)=>hsl X gr mn rf hX hg hm ha);have HLS:=Zh hs;have HA:=Zh ha;have HMN:=Zh hm;have HGR:=Zh (show gr≤900 by omega);have hki:(a:Int) < (s.length:Int):=by omega
 obtain⟨d,hkd⟩:∃d,s[a]? =some d:=⟨_,Zg ha⟩;have hby:=Zak hkd;have HKD:=Zh hkd;clear hkd;go_enter Tryz.func170,Tryz.ntmps170;go_upto_region 1 with fail;generalize hwA:w.alloc _=wA;have hbA:Below w.heap.size w wA:=hwA▸Zab w _;have HX:=Zh (show wA.heap[w.heap.size]? =some (.cells ndZ 193 (0,0)) from hwA▸Zae w _);have HR:=Zh (h.later hbA);have HK:=Zh (KeepT.of_below (S:=fun j=>j=b) hbA);have hasz:wA.heap.size=w.heap.size+1:=by rw [← hwA];simp
 have HSZ:=Zh hasz;have q0:=HR.out.c0;have q1:=HR.out.c1;clear hwA hbA h hg hm ha hs hasz
 by_cases h92:(d.toNat:Int)=92
 case pos=>
  have h92b:((d.toNat:Int)==92)=true:=Zt h92;have HD92:=Zh (show s[a]? =some 92 by rw [HKD.out,u8_eq (n:=92) (by omega) h92];rfl);clear h92;have HSA:=Zh (HSC.out wA HR.out);go_wp2_with fail;refine HSA.out.mono ?_;rintro e w5 ⟨nc2,kid,a2,gr2,mn2,rf2,bd2,rfl,hn2,ht2,hr5,ha2,ha3,hg2,hm2,hx2,hk5,kd,hkd,hR⟩;have HRL:=Zh (show R9 s (.part fst bg ⟨a,gr,mn,false,rf.2⟩) (kcls kd) ⟨a2,gr2,mn2,bd2,rf2.2⟩ from by
   have h0:=hR.slash0;rw [h0]at hR ⊢;exact .slash _ _ _ _ HD92.out hR)
  have HN2:=Zh hn2;have HX5:=Zh ((hk5.block _ (Zaa HX.out) (fun e=>by have e':w.heap.size=b:=e;have:=HBL.out;omega)).trans HX.out);have HE:=Zh (NodeT.node (a:=a) (S:=fun j=>j < w.heap.size) (w:=w) hn2 (ht2.mono (fun j _ e=>by have:=HSZ.out;show j < wA.heap.size;rcases e with e | e <;> omega)) HBL.out hr5 (HK.out.trans hk5 (fun _ _ e=>e)) ⟨ha2,ha3⟩ hg2 hm2 hx2 hkd HRL.out);clear hn2 ht2 hr5 ha2 ha3 hg2 hm2 hx2 hk5 hkd hR HSA;have HSX2:Hid ((Tryz.prog.info? 193).map (·.size)=some (nc2).size):=Zh (by rw [HN2.out.size];exact Zbs);have HSS:=Zh (show ndZ.size=(nc2).size by rw [HN2.out.size,Zbq.size]);have HON:=Zh HN2.out.one;go_wp2_with (refine wpList_store_row rfl 193 _ _ (by with_reducible rfl) w.heap.size (nc2) rfl rfl 193 ndZ HX5.out HSX2.out HSS.out HON.out ?_);refine bodyPost_ret (v:= .agg (nc2)) (results_cell_row (p:=6) (by kernel_rfl) _ _ w.heap.size 193 (nc2) (0,0) _ rfl (setRow_heap _ _ _ _ _ _ HX5.out) Tryz.underlying193 rfl HSX2.out) rfl ?_;exact HE.out
 have h92b:((d.toNat:Int)==92)=false:=Zf h92;have HN92:=Zh (show¬d=92 from fun e=>by rw [e]at h92;exact h92 rfl)
 by_cases h91:(d.toNat:Int)=91
 case pos=>
  have h91b:((d.toNat:Int)==91)=true:=Zt h91;have HD91:=Zh (show s[a]? =some 91 by rw [HKD.out,u8_eq (n:=91) (by omega) h91];rfl);clear h91 h92;have HPS:=Zh (refSetParse s a wA HLS.out HA.out);go_wp2_with fail;refine HPS.out.mono ?_;rintro e w2 ⟨⟨cs,n,er,rfl,hcs,hn,hs8⟩,hb2⟩;have HS8:=Zh hs8;clear hs8;have HCS:=Zh hcs;have HNN:=Zh hn;have HB2:=Zh hb2;clear hcs hn hb2 HPS q0 q1;go_upto_region 7 with(refine wpList_store_row rfl 148 _ _ (by with_reducible rfl) _ cs rfl rfl 148 zset (Zae _ _) (by rw [HCS.out.1];exact Zcp) (Zca.1.trans HCS.out.1.symm) HCS.out.one ?_);have hbN:=Zab w2 (.cells zset 148);have hwl:w.heap.size < w2.heap.size:=Nat.lt_of_lt_of_le (Zaa HX.out) HB2.out.size;have hkk:KeepT (fun j=>j=w2.heap.size) (w2.alloc (.cells zset 148)) ((w2.alloc (.cells zset 148)).setRow w2.heap.size cs):=⟨rfl,rfl,rfl,by simp,fun i hi hn=>setRow_other _ _ i cs (fun e=>hn e)⟩;have HP:=Zh (setRow_heap _ _ _ cs _ _ (Zae w2 (.cells zset 148)));have HXP:=Zh ((hkk.block _ (by simp;omega) (fun e=>by have e':w.heap.size=w2.heap.size:=e;omega)).trans ((hbN.block _ (by omega)).trans ((HB2.out.block _ (Zaa HX.out)).trans HX.out)));have HRP:=Zh (((HR.out.later HB2.out).later hbN).kept hkk (fun e=>by have e':b=w2.heap.size:=e;have:=HBL.out;omega));have HKP:=Zh (((HK.out.then_below HB2.out).then_below hbN).trans hkk (fun i hi e=>by have e':i=w2.heap.size:=e;omega));have HWL:=Zh hwl;clear hbN hwl hkk HX HR HK HB2;change Code.wp _ _ _ _ ((w2.alloc (.cells zset 148)).setRow w2.heap.size cs);generalize (w2.alloc (.cells zset 148)).setRow w2.heap.size cs=wP at *;obtain⟨gp,hgp⟩:∃gp,w2.heap.size=gp:=⟨_,rfl⟩;rw [hgp]at HP HWL ⊢;clear hgp
  by_cases her:er=0
  case neg=>
   have HER:=Zh her;have herb:(er !=0)=true:=bne_iff_ne.2 her;have herq:(er==0)=false:=Zf her;have q5:=HRP.out.cB;have g5:=HRP.out.fz 1005;have HK5:=Zh ((KeepT.refl (fun j=>j=b) wP).setCell (p:=⟨b,1005,none⟩) (.inl rfl) (.bool true));have HR5:=Zh (HRP.out.setB true);go_upto_region 9 with fail;clear q5 g5;generalize wP.setCell _ _=w5 at *;have HX5:=Zh ((HK5.out.block _ (Zaa HXP.out) (fun e=>by have e':w.heap.size=b:=e;have:=HBL.out;omega)).trans HXP.out);have HN2:=Zh (show NdC Tryz.zeroCells193 (.slice none 0 0) from Zbq);have HRL:=Zh (show R9 s (.part fst bg ⟨a,gr,mn,false,rf.2⟩) (kcls 0) ⟨a,gr,mn,true,rf.2⟩ from .setNo fst bg ⟨a,gr,mn,false,rf.2⟩ HD91.out (by have h:=HS8.out;rw [if_neg HER.out]at h;exact h));have HE:=Zh (NodeT.node (a:=a) (S:=fun j=>j < w.heap.size) (w:=w) HN2.out .nil HBL.out HR5.out (HKP.out.trans HK5.out (fun _ _ e=>e)) ⟨Nat.le_refl _,by have:=HA.out;omega⟩ HGR.out HMN.out (fun e=>by cases e) kd0 HRL.out);have HSX2:Hid ((Tryz.prog.info? 193).map (·.size)=some (Tryz.zeroCells193).size):=Zh (by rw [HN2.out.size];exact Zbs);have HSS:=Zh (show ndZ.size=(Tryz.zeroCells193).size by rw [HN2.out.size,Zbq.size]);have HON:=Zh HN2.out.one;go_wp2_with (refine wpList_store_row rfl 193 _ _ (by with_reducible rfl) w.heap.size (Tryz.zeroCells193) rfl rfl 193 ndZ HX5.out HSX2.out HSS.out HON.out ?_);refine bodyPost_ret (v:= .agg (Tryz.zeroCells193)) (results_cell_row (p:=6) (by kernel_rfl) _ _ w.heap.size 193 (Tryz.zeroCells193) (0,0) _ rfl (setRow_heap _ _ _ _ _ _ HX5.out) Tryz.underlying193 rfl HSX2.out) rfl ?_;exact HE.out
  subst her;have HSY:=Zh (show Set8 s a (some n) from by have h:=HS8.out;rw [if_pos rfl]at h;exact h);clear HS8;have HIN:=Zh (show a < n∧n≤s.length from HNN.out rfl);clear HNN;obtain⟨k,hk⟩:∃k,n=a+k:=⟨n - a,by have:=HIN.out;omega⟩;subst hk;have HKP1:=Zh (show 1≤k∧a+k≤s.length from⟨by have:=HIN.out;omega,HIN.out.2⟩);have e10:((a+k:Nat):Int)=(a:Int)+(k:Int):=by omega
  rw [e10];have hz:wrap64 ((a:Int)+(k:Int) - (a:Int))=(k:Int):=by have:=HKP1.out;have:=HLS.out;unfold wrap64;omega
  clear HIN e10;go_upto_region 10 with fail;obtain⟨nc2,hb2,hn2,hk2⟩:=built_set2 3 cs HCS.out;have HKK:=Zh hk2;have HRL:=Zh (show R9 s (.part fst bg ⟨a,gr,mn,false,rf.2⟩) (kcls 3) ⟨a+k,gr,mn+1,false,rf.2⟩ from .setYes fst bg ⟨a,gr,mn,false,rf.2⟩ (a+k) HD91.out HSY.out);clear hk2;have HB2:=Zh hb2;have HN2:=Zh hn2;clear hb2 hn2;have HSS1:=Zh (show(Tryz.prog.info? 148).map (·.size)=some cs.size by rw [HCS.out.1];exact Zcp);have HRD:=Zh (HRP.out.kept (S:=fun _=>False) (w':=wP.drew) ((KeepT.refl _ _).drew) (fun h=>h));have HND:=Zh (Zec nc2 HN2.out.size HN2.out.one k wP.drew HRD.out (by have:=HKP1.out;have:=HLS.out;omega) (by have:=HMN.out;have:=HA.out;have:=HLS.out;omega));refine wp_region_noPanic ?_;refine wp_region_any (by kernel_rfl) ?_;change wpAny _ _ _ _ _ _ _ wP.drew;refine Zba 9 9 (Array.replicate 11 false) (fun X=>X.heap[gp]? =some (.cells cs 148 (0,0))∧X.cell? ⟨b,1,none⟩=some (.int .i64 (a:Int))) (by kernel_rfl) ⟨HP.out,HRP.out.c1⟩ (fun hHeld=>?_);simp only [List.take_succ_cons,List.take_zero,List.drop_succ_cons,List.drop_zero];refine Zad (i:=0) (v:=?_) rfl (by kernel_rfl) (by kernel_rfl) (by kernel_rfl) (fun _ _ _ h=>h) (.inl ⟨by rfl,?_⟩) (by assumption) ?_;rotate_left
  ·intro w hSw
   (try dsimp only at hSw)
   go_simp
   (try with_reducible rfl)
  (try simp only [Act.put,Zs1,Zs2,Zs3])
  refine Zad (i:=1) (v:=_) rfl (by kernel_rfl) (by kernel_rfl) (by kernel_rfl) (fun _ _ _ h=>h) (Fil.yieldsIf_load_row (by rfl) 148 _ rfl gp rfl 148 cs (0,0) _ (fun X hX=>hX.1) Tryz.underlying148 rfl HSS1.out) (by assumption) ?_
  (try simp only [Act.put,Zs1,Zs2,Zs3])
  refine Zad (i:=2) (v:=_) rfl (by kernel_rfl) (by kernel_rfl) (by kernel_rfl) (fun _ _ _ h=>h) (Fil.yieldsIf_build (by rfl) 193 _ rfl [(0,.int .i64 3),(2,.agg cs)] (by kernel_rfl) nc2 HB2.out) (by assumption) ?_
  (try simp only [Act.put,Zs1,Zs2,Zs3])
  refine Zad (i:=3) (v:=?_) rfl (by kernel_rfl) (by kernel_rfl) (by kernel_rfl) (fun _ _ _ h=>h) (.inl ⟨by rfl,?_⟩) (by assumption) ?_;rotate_left
  ·intro w hSw
   (try dsimp only at hSw)
   go_simp
   (try with_reducible rfl)
  (try simp only [Act.put,Zs1,Zs2,Zs3])
  refine Zad (i:=4) (v:=?_) rfl (by kernel_rfl) (by kernel_rfl) (by kernel_rfl) (fun _ _ _ h=>h) (.inl ⟨by rfl,?_⟩) (by assumption) ?_;rotate_left
  ·intro w hSw
   (try dsimp only at hSw)
   go_simp
   (try with_reducible rfl)
  (try simp only [Act.put,Zs1,Zs2,Zs3])
  refine Zad (i:=5) (v:=?_) rfl (by kernel_rfl) (by kernel_rfl) (by kernel_rfl) (fun _ _ _ h=>h) (.inl ⟨by rfl,?_⟩) (by assumption) ?_;rotate_left
  ·intro w hSw
   (try dsimp only at hSw)
   go_simp
   (try with_reducible rfl)
  (try simp only [Act.put,Zs1,Zs2,Zs3])
  refine Zad (i:=6) (v:=?_) rfl (by kernel_rfl) (by kernel_rfl) (by kernel_rfl) (fun _ _ _ h=>h) (.inl ⟨by rfl,?_⟩) (by assumption) ?_;rotate_left
  ·intro w hSw
   (try dsimp only at hSw)
   go_simp
   (try with_reducible rfl)
  (try simp only [Act.put,Zs1,Zs2,Zs3])
  refine Zad (i:=7) (v:=?_) rfl (by kernel_rfl) (by kernel_rfl) (by kernel_rfl) (fun _ _ _ h=>h) (.inl ⟨by rfl,?_⟩) (by assumption) ?_;rotate_left
  ·intro w hSw
   (try dsimp only at hSw)
   go_simp
   (try with_reducible rfl)
  (try simp only [Act.put,Zs1,Zs2,Zs3])
  refine Zad (i:=8) (v:=?_) rfl (by kernel_rfl) (by kernel_rfl) (by kernel_rfl) (fun _ _ _ h=>h) (.inl ⟨by rfl,?_⟩) (by assumption) ?_;rotate_left
  ·intro w hSw
   (try dsimp only at hSw)
   go_simp
   (try with_reducible rfl)
  (try simp only [Act.put,Zs1,Zs2,Zs3])
  refine wpAnyH_done (by kernel_rfl) ?_ _;change wpList _ _ _ _ _ _;go_wp2_with fail;rw [hz];refine HND.out.mono ?_;rintro e w5 ⟨rfl,hr5,hk5⟩;have HX5:=Zh ((hk5.block _ (Zaa HXP.out) (fun e=>by have e':w.heap.size=b:=e;have:=HBL.out;omega)).trans HXP.out);have HE:=Zh (NodeT.node (a:=a) (S:=fun j=>j < w.heap.size) HN2.out .nil (by have:=HBL.out;omega) hr5 ((HKP.out.drew).trans hk5 (fun _ _ e=>e)) ⟨by omega,HKP1.out.2⟩ HGR.out (by have:=HMN.out;have:=HKP1.out;omega) (fun _=>by have:=HKP1.out;omega) HKK.out HRL.out);clear hr5 hk5 HND;have HSX2:Hid ((Tryz.prog.info? 193).map (·.size)=some nc2.size):=Zh (by rw [HN2.out.size];exact Zbs);have HSS:=Zh (show ndZ.size=nc2.size by rw [HN2.out.size,Zbq.size]);have HON:=Zh HN2.out.one;go_wp2_with (refine wpList_store_row rfl 193 _ _ (by with_reducible rfl) w.heap.size nc2 rfl rfl 193 ndZ HX5.out HSX2.out HSS.out HON.out ?_);refine NoPanic.normal ?_;go_wp2_with fail;refine bodyPost_ret (v:= .agg nc2) (results_cell_row (p:=6) (by kernel_rfl) _ _ w.heap.size 193 nc2 (0,0) _ rfl (setRow_heap _ _ _ _ _ _ HX5.out) Tryz.underlying193 rfl HSX2.out) rfl ?_;exact HE.out
 have h91b:((d.toNat:Int)==91)=false:=Zf h91;have HN91:=Zh (show¬d=91 from fun e=>by rw [e]at h91;exact h91 rfl);have HOT:=Zh (fun(kk:Nat) (bb:Bool) (h1:kindP s fst a d=kk) (h2:badP fst bg d=bb)=>(show R9 s (.part fst bg ⟨a,gr,mn,false,rf.2⟩) kk ⟨a+1,gr,mn+1,bb,rf.2⟩ from by rw [← h1,← h2];exact .other fst bg ⟨a,gr,mn,false,rf.2⟩ d HKD.out HN92.out HN91.out))
 by_cases h46:(d.toNat:Int)=46
 case pos=>
  have h46b:((d.toNat:Int)==46)=true:=Zt h46;have HD46:=Zh (u8_eq (n:=46) (by omega) h46);have HRL:=Zh (HOT.out 0 false (by rw [HD46.out];unfold kindP;rw [if_neg (by rintro⟨e,_⟩;exact absurd e (by decide)),if_neg (by rintro⟨e,_⟩;exact absurd e (by decide))]) (by rw [HD46.out];rfl));clear h46 h91 h92;have HN2:=Zh (show NdC (Tryz.zeroCells193.setIfInBounds 0 (.int .i64 2)) (.slice none 0 0) from Zbq.kindAt 2);have HKK:=Zh (kd1 _:((Tryz.zeroCells193.setIfInBounds 0 (.int .i64 2)))[0]? =_);go_wp2_with fail;generalize (Tryz.zeroCells193.setIfInBounds 0 (.int .i64 2))=nc2 at *;have HND:=Zh (Zec nc2 HN2.out.size HN2.out.one 1 wA HR.out (by have:=HA.out;have:=HLS.out;omega) (by have:=HMN.out;have:=HA.out;have:=HLS.out;omega));refine HND.out.mono ?_;rintro e w5 ⟨rfl,hr5,hk5⟩;have HX5:=Zh ((hk5.block _ (Zaa HX.out) (fun e=>by have e':w.heap.size=b:=e;have:=HBL.out;omega)).trans HX.out);have HE:=Zh (NodeT.node (a:=a) (S:=fun j=>j < w.heap.size) HN2.out .nil (by have:=HBL.out;omega) hr5 (HK.out.trans hk5 (fun _ _ e=>e)) ⟨by omega,by have:=HA.out;omega⟩ HGR.out (by have:=HMN.out;omega) (fun _=>by omega) HKK.out HRL.out);clear hr5 hk5 HND;have HSX2:Hid ((Tryz.prog.info? 193).map (·.size)=some (nc2).size):=Zh (by rw [HN2.out.size];exact Zbs);have HSS:=Zh (show ndZ.size=(nc2).size by rw [HN2.out.size,Zbq.size]);have HON:=Zh HN2.out.one;go_wp2_with (refine wpList_store_row rfl 193 _ _ (by with_reducible rfl) w.heap.size (nc2) rfl rfl 193 ndZ HX5.out HSX2.out HSS.out HON.out ?_);refine bodyPost_ret (v:= .agg (nc2)) (results_cell_row (p:=6) (by kernel_rfl) _ _ w.heap.size 193 (nc2) (0,0) _ rfl (setRow_heap _ _ _ _ _ _ HX5.out) Tryz.underlying193 rfl HSX2.out) rfl ?_;exact HE.out
 have h46b:((d.toNat:Int)==46)=false:=Zf h46;go_upto_region 13 with fail
 go_cut [63] from 59 to 64 (fun v wx=>v= .bool (d==94 && fst)∧wx=wA)
 case first=>
  by_cases h94:(d.toNat:Int)=94
  case neg=>
   have h94b:((d.toNat:Int)==94)=false:=Zf h94;have HB94:=Zh (show(d==94)=false from u8b_no (n:=94) (by omega) h94);go_wp2_with fail;go_meet
   case rel=>exact⟨by rw [HB94.out];rfl,rfl⟩
  have h94b:((d.toNat:Int)==94)=true:=Zt h94;have HB94:=Zh (show(d==94)=true from u8b_yes (n:=94) (by omega) h94);clear h94;go_wp2_with fail;go_meet
  case rel=>exact⟨by rw [HB94.out];rfl,rfl⟩
 case rest=>
  obtain⟨h63,hw⟩:=hcut;subst h63;subst hw;obtain⟨b1,hb1⟩:∃b1,(d==94 && fst)=b1:=⟨_,rfl⟩;have HB1:=Zh hb1;rw [hb1];clear hb1;cases b1
  case true=>
   have HRL:=Zh (HOT.out 4 false (by
    have h:=HB1.out;simp only [Bool.and_eq_true,beq_iff_eq]at h;unfold kindP;rw [if_pos h]) (by
    have h:=HB1.out;simp only [Bool.and_eq_true,beq_iff_eq]at h;rw [h.1]
    rfl))
   have HN2:=Zh (show NdC (Tryz.zeroCells193.setIfInBounds 0 (.int .i64 4)) (.slice none 0 0) from Zbq.kindAt 4);have HKK:=Zh (kd1 _:((Tryz.zeroCells193.setIfInBounds 0 (.int .i64 4)))[0]? =_);go_wp2_with fail;generalize (Tryz.zeroCells193.setIfInBounds 0 (.int .i64 4))=nc2 at *;have HND:=Zh (Zec nc2 HN2.out.size HN2.out.one 1 wc HR.out (by have:=HA.out;have:=HLS.out;omega) (by have:=HMN.out;have:=HA.out;have:=HLS.out;omega));refine HND.out.mono ?_;rintro e w5 ⟨rfl,hr5,hk5⟩;have HX5:=Zh ((hk5.block _ (Zaa HX.out) (fun e=>by have e':w.heap.size=b:=e;have:=HBL.out;omega)).trans HX.out);have HE:=Zh (NodeT.node (a:=a) (S:=fun j=>j < w.heap.size) HN2.out .nil (by have:=HBL.out;omega) hr5 (HK.out.trans hk5 (fun _ _ e=>e)) ⟨by omega,by have:=HA.out;omega⟩ HGR.out (by have:=HMN.out;omega) (fun _=>by omega) HKK.out HRL.out);clear hr5 hk5 HND;have HSX2:Hid ((Tryz.prog.info? 193).map (·.size)=some (nc2).size):=Zh (by rw [HN2.out.size];exact Zbs);have HSS:=Zh (show ndZ.size=(nc2).size by rw [HN2.out.size,Zbq.size]);have HON:=Zh HN2.out.one;go_wp2_with (refine wpList_store_row rfl 193 _ _ (by with_reducible rfl) w.heap.size (nc2) rfl rfl 193 ndZ HX5.out HSX2.out HSS.out HON.out ?_);refine bodyPost_ret (v:= .agg (nc2)) (results_cell_row (p:=6) (by kernel_rfl) _ _ w.heap.size 193 (nc2) (0,0) _ rfl (setRow_heap _ _ _ _ _ _ HX5.out) Tryz.underlying193 rfl HSX2.out) rfl ?_;exact HE.out
  go_upto_region 15 with fail
  go_cut [82] from 67 to 83 (fun v wx=>v= .bool (d==36 && (decide (a+1=s.length) || isB s a [36,92,41]))∧Hid (RdAt wx b s a gr mn rf false∧KeepT (fun _=>False) wc wx))
  case first=>
   by_cases h36:(d.toNat:Int)=36
   case neg=>
    have h36b:((d.toNat:Int)==36)=false:=Zf h36;have HB36:=Zh (show(d==36)=false from u8b_no (n:=36) (by omega) h36);go_wp2_with fail;go_meet
    case rel=>exact⟨by rw [HB36.out];rfl,Zh ⟨HR.out,KeepT.refl _ _⟩⟩
   have h36b:((d.toNat:Int)==36)=true:=Zt h36;have HB36:=Zh (show(d==36)=true from u8b_yes (n:=36) (by omega) h36);clear h36;have HIS:=Zh (show Calls Tryz.prog 169 #[.pointer (some ⟨b,0,none⟩),.string ⟨#[36,92,41]⟩] wc fun e w'=>IsE s a [36,92,41] e∧RdAt w' b s a gr mn rf false∧KeepT (fun _=>False) wc w' from refIs [36,92,41] wc HR.out (Nat.le_of_lt HA.out) HLS.out (by decide));have hz1:wrap64 ((a:Int)+1)=(a:Int)+1:=by have:=HA.out;have:=HLS.out;unfold wrap64;omega
   by_cases he:(a:Int)+1=(s.length:Int)
   case pos=>
    have heb:((a:Int)+1==(s.length:Int))=true:=Zt he;have HDE:=Zh (show decide (a+1=s.length)=true from decide_eq_true (by omega));clear he;go_wp2_with fail;go_meet
    case rel=>exact⟨by rw [HB36.out,HDE.out];rfl,Zh ⟨HR.out,KeepT.refl _ _⟩⟩
   have heb:((a:Int)+1==(s.length:Int))=false:=Zf he;have HDE:=Zh (show decide (a+1=s.length)=false from decide_eq_false (by omega));go_wp2_with fail;refine HIS.out.mono ?_;rintro e w3 ⟨⟨v,rfl,hv,hib⟩,hr2,hk2⟩;have HIB:=Zh hib;clear hib;have HR2:=Zh hr2;have HK2:=Zh hk2;clear hv hr2 hk2;go_wp2_with fail;go_meet
   case rel=>exact⟨by rw [HB36.out,HDE.out,HIB.out];rfl,Zh ⟨HR2.out,HK2.out⟩⟩
  case rest=>
   obtain⟨h82,HQ⟩:=hcut;subst h82;obtain⟨b2,hb2⟩:∃b2,(d==36 && (decide (a+1=s.length) || isB s a [36,92,41]))=b2:=⟨_,rfl⟩;have HB2:=Zh hb2;rw [hb2];clear hb2;have HX2:=Zh ((HQ.out.2.block _ (Zaa HX.out) (fun h=>h)).trans HX.out);have HR2:=Zh HQ.out.1;have HK2:=Zh (HK.out.trans HQ.out.2 (fun _ _ e=>e.elim));clear HX HR HK HQ q0 q1;have HX:=HX2;have HR:=HR2;have HK:=HK2;clear HX2 HR2 HK2;cases b2
   case true=>
    have HRL:=Zh (HOT.out 5 false (by
     have h:=HB2.out;simp only [Bool.and_eq_true,Bool.or_eq_true,beq_iff_eq,decide_eq_true_eq]at h;unfold kindP;rw [if_neg (by rw [h.1];rintro⟨e,_⟩;exact absurd e (by decide)),if_pos h]) (by
     have h:=HB2.out;simp only [Bool.and_eq_true,Bool.or_eq_true,beq_iff_eq,decide_eq_true_eq]at h;rw [h.1]
     rfl))
    have HN2:=Zh (show NdC (Tryz.zeroCells193.setIfInBounds 0 (.int .i64 5)) (.slice none 0 0) from Zbq.kindAt 5);have HKK:=Zh (kd1 _:((Tryz.zeroCells193.setIfInBounds 0 (.int .i64 5)))[0]? =_);go_wp2_with fail;generalize (Tryz.zeroCells193.setIfInBounds 0 (.int .i64 5))=nc2 at *;have HND:=Zh (Zec nc2 HN2.out.size HN2.out.one 1 wc HR.out (by have:=HA.out;have:=HLS.out;omega) (by have:=HMN.out;have:=HA.out;have:=HLS.out;omega));refine HND.out.mono ?_;rintro e w5 ⟨rfl,hr5,hk5⟩;have HX5:=Zh ((hk5.block _ (Zaa HX.out) (fun e=>by have e':w.heap.size=b:=e;have:=HBL.out;omega)).trans HX.out);have HE:=Zh (NodeT.node (a:=a) (S:=fun j=>j < w.heap.size) HN2.out .nil (by have:=HBL.out;omega) hr5 (HK.out.trans hk5 (fun _ _ e=>e)) ⟨by omega,by have:=HA.out;omega⟩ HGR.out (by have:=HMN.out;omega) (fun _=>by omega) HKK.out HRL.out);clear hr5 hk5 HND;have HSX2:Hid ((Tryz.prog.info? 193).map (·.size)=some (nc2).size):=Zh (by rw [HN2.out.size];exact Zbs);have HSS:=Zh (show ndZ.size=(nc2).size by rw [HN2.out.size,Zbq.size]);have HON:=Zh HN2.out.one;go_wp2_with (refine wpList_store_row rfl 193 _ _ (by with_reducible rfl) w.heap.size (nc2) rfl rfl 193 ndZ HX5.out HSX2.out HSS.out HON.out ?_);refine bodyPost_ret (v:= .agg (nc2)) (results_cell_row (p:=6) (by kernel_rfl) _ _ w.heap.size 193 (nc2) (0,0) _ rfl (setRow_heap _ _ _ _ _ _ HX5.out) Tryz.underlying193 rfl HSX2.out) rfl ?_;exact HE.out
   have HK0:=Zh (show kindP s fst a d=0 from by
    have h1:=HB1.out;have h2:=HB2.out;unfold kindP;rw [if_neg,if_neg]
    ·rintro⟨rfl,e⟩
     simp only [beq_self_eq_true,Bool.true_and,Bool.or_eq_false_iff,decide_eq_false_iff_not]at h2;rcases e with e | e
     ·exact h2.1 e
     ·rw [h2.2]at e;cases e
    ·rintro⟨rfl,rfl⟩
     cases h1)
   go_upto_region 17 with fail
   go_cut [95] from 86 to 96 (fun v wx=>v= .bool (badP fst bg d)∧wx=wc)
   case first=>
    by_cases h42:(d.toNat:Int)=42
    case neg=>
     have h42b:((d.toNat:Int)==42)=false:=Zf h42;have HB42:=Zh (show badP fst bg d=false by unfold badP;rw [show(d==42)=false from u8b_no (n:=42) (by omega) h42];rfl);go_wp2_with fail;go_meet
     case rel=>exact⟨by rw [HB42.out],rfl⟩
    have h42b:((d.toNat:Int)==42)=true:=Zt h42;have HB42:=Zh (show badP fst bg d=(!fst && !bg) by unfold badP;rw [show(d==42)=true from u8b_yes (n:=42) (by omega) h42,Bool.true_and]);clear h42;cases fst <;> cases bg <;> (go_wp2_with fail;go_meet;case rel=>exact⟨by rw [HB42.out];rfl,rfl⟩)
   case rest=>
    obtain⟨h95,hw⟩:=hcut;subst h95;subst hw;obtain⟨b3,hb3⟩:∃b3,badP fst bg d=b3:=⟨_,rfl⟩;have HRL:=Zh (HOT.out 0 b3 HK0.out hb3);rw [hb3];clear hb3;cases b3
    case false=>
     have HN2:=Zh (show NdC ((Tryz.zeroCells193.setIfInBounds 0 (.int .i64 1)).setIfInBounds 1 (.int .u8 (d.toNat:Int))) (.slice none 0 0) from(Zbq.kindAt 1).byteAt _);have HKK:=Zh (kd2 _ 1 (by decide) _:(((Tryz.zeroCells193.setIfInBounds 0 (.int .i64 1)).setIfInBounds 1 (.int .u8 (d.toNat:Int))))[0]? =_);go_wp2_with fail;generalize ((Tryz.zeroCells193.setIfInBounds 0 (.int .i64 1)).setIfInBounds 1 (.int .u8 (d.toNat:Int)))=nc2 at *;have HND:=Zh (Zec nc2 HN2.out.size HN2.out.one 1 wc HR.out (by have:=HA.out;have:=HLS.out;omega) (by have:=HMN.out;have:=HA.out;have:=HLS.out;omega));refine HND.out.mono ?_;rintro e w5 ⟨rfl,hr5,hk5⟩;have HX5:=Zh ((hk5.block _ (Zaa HX.out) (fun e=>by have e':w.heap.size=b:=e;have:=HBL.out;omega)).trans HX.out);have HE:=Zh (NodeT.node (a:=a) (S:=fun j=>j < w.heap.size) HN2.out .nil (by have:=HBL.out;omega) hr5 (HK.out.trans hk5 (fun _ _ e=>e)) ⟨by omega,by have:=HA.out;omega⟩ HGR.out (by have:=HMN.out;omega) (fun _=>by omega) HKK.out HRL.out);clear hr5 hk5 HND;have HSX2:Hid ((Tryz.prog.info? 193).map (·.size)=some (nc2).size):=Zh (by rw [HN2.out.size];exact Zbs);have HSS:=Zh (show ndZ.size=(nc2).size by rw [HN2.out.size,Zbq.size]);have HON:=Zh HN2.out.one;go_wp2_with (refine wpList_store_row rfl 193 _ _ (by with_reducible rfl) w.heap.size (nc2) rfl rfl 193 ndZ HX5.out HSX2.out HSS.out HON.out ?_);refine bodyPost_ret (v:= .agg (nc2)) (results_cell_row (p:=6) (by kernel_rfl) _ _ w.heap.size 193 (nc2) (0,0) _ rfl (setRow_heap _ _ _ _ _ _ HX5.out) Tryz.underlying193 rfl HSX2.out) rfl ?_;exact HE.out
    have q5:=HR.out.cB;have g5:=HR.out.fz 1005;have HK5:=Zh ((KeepT.refl (fun j=>j=b) wc).setCell (p:=⟨b,1005,none⟩) (.inl rfl) (.bool true));have HR5:=Zh (HR.out.setB true);go_upto_region 19 with fail;clear q5 g5;generalize wc.setCell _ _=w7 at *;have HX7:=Zh ((HK5.out.block _ (Zaa HX.out) (fun e=>by have e':w.heap.size=b:=e;have:=HBL.out;omega)).trans HX.out);have HK7:=Zh (HK.out.trans HK5.out (fun _ _ e=>e));clear HX HR HK HK5;have HX:=HX7;have HR:=HR5;have HK:=HK7;have HN2:=Zh (show NdC ((Tryz.zeroCells193.setIfInBounds 0 (.int .i64 1)).setIfInBounds 1 (.int .u8 (d.toNat:Int))) (.slice none 0 0) from(Zbq.kindAt 1).byteAt _);have HKK:=Zh (kd2 _ 1 (by decide) _:(((Tryz.zeroCells193.setIfInBounds 0 (.int .i64 1)).setIfInBounds 1 (.int .u8 (d.toNat:Int))))[0]? =_);go_wp2_with fail;generalize ((Tryz.zeroCells193.setIfInBounds 0 (.int .i64 1)).setIfInBounds 1 (.int .u8 (d.toNat:Int)))=nc2 at *;have HND:=Zh (Zec nc2 HN2.out.size HN2.out.one 1 w7 HR.out (by have:=HA.out;have:=HLS.out;omega) (by have:=HMN.out;have:=HA.out;have:=HLS.out;omega));refine HND.out.mono ?_;rintro e w5 ⟨rfl,hr5,hk5⟩;have HX5:=Zh ((hk5.block _ (Zaa HX.out) (fun e=>by have e':w.heap.size=b:=e;have:=HBL.out;omega)).trans HX.out);have HE:=Zh (NodeT.node (a:=a) (S:=fun j=>j < w.heap.size) HN2.out .nil (by have:=HBL.out;omega) hr5 (HK.out.trans hk5 (fun _ _ e=>e)) ⟨by omega,by have:=HA.out;omega⟩ HGR.out (by have:=HMN.out;omega) (fun _=>by omega) HKK.out HRL.out);clear hr5 hk5 HND;have HSX2:Hid ((Tryz.prog.info? 193).map (·.size)=some (nc2).size):=Zh (by rw [HN2.out.size];exact Zbs);have HSS:=Zh (show ndZ.size=(nc2).size by rw [HN2.out.size,Zbq.size]);have HON:=Zh HN2.out.one;go_wp2_with (refine wpList_store_row rfl 193 _ _ (by with_reducible rfl) w.heap.size (nc2) rfl rfl 193 ndZ HX5.out HSX2.out HSS.out HON.out ?_);refine bodyPost_ret (v:= .agg (nc2)) (results_cell_row (p:=6) (by kernel_rfl) _ _ w.heap.size 193 (nc2) (0,0) _ rfl (setRow_heap _ _ _ _ _ _ HX5.out) Tryz.underlying193 rfl HSX2.out) rfl ?_;exact HE.out
end Go.Proofs.YtndjgbehbgcpkaaGreatDoor
