/- The program's reader of patterns: a group, where rows that are shorter are read. -/
import Derived.Test.YtndjgbehbgcpkaaGreatDoorBr5
import Derived.Test.YtndjgbehbgcpkaaGreatDoorKeep
import Derived.Deep.AppendLies
import Derived.Deep.RegionLaw
import Derived.BigRegion
set_option linter.unusedVariables false
set_option linter.unusedSimpArgs false
set_option maxRecDepth 100000
set_option maxHeartbeats 4000000
namespace Go.Proofs.YtndjgbehbgcpkaaGreatDoor
open Go Go.Proofs Go.RowKit Go.Ink Go.Sort
theorem int_info:(Tryz.prog.info? 3).map (fun i=>(i.zero,i.size,i.bytes))=some (some (.int .i64 0),1,8):=by kernel_rfl
theorem Zcw {w w':World}{row:Option Nat}(hg:w.grownBy w' row):KeepT (fun j=>row=some j) w w':=(KeepT.refl _ _).grown hg (fun _ h=> .inl h)
theorem step_append_num {ops:Array Oper}{o:Oper}{a:Act}{w:World}{K:Act→World→Prop}{Q:Exit→Act→World→Prop}{E:Prop}{v:Value}{n B:Nat}(hgd:o.guard=none)(s x:Operand)
 (ho:o.op= .call { callee:= .builtin .append,args:=#[s,x],argTypes:=#[212,212] })
 (hs:a.eval s=v) (hown:Zbm w B v n) (hB:B≤w.heap.size) (b:Nat) (hx:a.eval x= .slice (some ⟨b,0,none⟩) 1 1) (y:Int) (hb:w.heap[b]? =some (.cells #[.int .i64 y] 3 (0,0))) (hn:n≤1000000)
 (h:∀g cap w',Zbm w' B (.slice (some ⟨g,0,none⟩) (n+1) cap) (n+1)→w.grownBy w' v.ownBlock→(v.ownBlock=some g∨g=w.heap.size)→g < w'.heap.size→K (a.put o.dst (.slice (some ⟨g,0,none⟩) (n+1) cap)) w'):
 if Region.wanted o (yielded ops a.tmps)=true then Oper.wp Tryz.prog o a w K Q else E:=by
 obtain⟨i0,hi,hz0,hz1,hz2⟩:=info_parts int_info;obtain⟨zs,hz,hown⟩:=hown;refine step_append_lies w hgd s x 212 ho B 3 i0 _ 1 8 Tryz.underlying212 hi hz0 hz1 hz2 rfl (by decide) v n _ hs hown ⟨b,0,none⟩ 1 1 [.int .i64 y] hx rfl ?_ ?_ (by omega) (by unfold maxLen;omega) (by omega) hB _ rfl ?_
 ·exact fun j u hj=>World.news_of_block hb j u (by simpa using hj)
 ·intro u hu
  obtain rfl:=List.mem_singleton.1 hu
  rfl
 ·intro g cap w' k1 k2 k3 k4
  exact h g cap w' ⟨zs++[y],by simp [hz],by rw [List.map_append];exact k1⟩ k2 k3 k4
theorem Zbm.pop {w:World}{B n:Nat}{v:Value}(h:Zbm w B v (n+1)):∃g cap,v= .slice (some ⟨g,0,none⟩) (n+1) cap∧n+1≤cap∧cap≤maxLen∧Zbm w B (.slice (some ⟨g,0,none⟩) n cap) n:=by
 obtain⟨zs,hz,h⟩:=h;rcases h.2 with⟨_,h0⟩ | ⟨g,cap,cur,rfl,hb,hh,h1,h2,h3,h4⟩
 ·omega
 ·refine⟨g,cap,rfl,h1,h2,zs.take n,by rw [List.length_take];omega,by rw [List.length_map,List.length_take];omega,.inr ⟨g,cap,cur,rfl,hb,hh,by omega,h2,h3,?_⟩⟩
  rw [List.map_take,← h4,List.take_take,Nat.mul_one,Nat.mul_one,Nat.min_eq_left (by omega)]
def RowEb (w:World)(b B m:Nat)(p:Ps)(e:Ending)(w':World):Prop:=
 (e=died∧KeepT (Tn b p) w w')∨∃v l p',e= .returned v∧TreeOf w' (fun j=>j < w.heap.size) v l∧(∀y∈l,NdOk y)∧OnR w w' b B m p p'∧p'.left.length≤p.left.length
def RowsTo (b B N:Nat):Prop:=∀(p:Ps) (m:Nat) (w:World),p.left.length≤N→m+p.left.length≤100000→B≤w.heap.size→OnR w w b B m p p→
 Calls Tryz.prog 149 #[.pointer (some ⟨b,0,none⟩)] w (RowEb w b B m p)
theorem OnR.drew {w0 w:World}{b B m:Nat}{p p':Ps}(h:OnR w0 w b B m p p'):OnR w0 w.drew b B m p p':=⟨h.at_,h.own,h.gr,h.pt,h.opn,h.keep.drew,h.mx,h.lo⟩
theorem OnR.drewN {w0 w:World}{b B m:Nat}{p p':Ps}(h:OnR w0 w b B m p p')(n:Nat):OnR w0 (w.drewN n) b B m p p':=⟨h.at_,h.own,h.gr,h.pt,h.opn,h.keep.drewN n,h.mx,h.lo⟩
theorem OnR.push {w0 w w5:World}{b B m g cap:Nat}{p p':Ps}(h:OnR w0 w b B m p p')(ho:Zbm w5 B (.slice (some ⟨g,0,none⟩) (m+1) cap) (m+1))(hg:w.grownBy w5 p'.op.ownBlock)(hw:p'.op.ownBlock=some g∨g=w.heap.size):
 OnR w0 (w5.setCell ⟨b,5,none⟩ (.slice (some ⟨g,0,none⟩) (m+1) cap)) b B (m+1) p { p' with op:= .slice (some ⟨g,0,none⟩) (m+1) cap }:=by
 have hk:=Zcw hg;have hp5:PsAt w5 b p':=h.at_.kept hk (fun e=>op_far h.own h.at_ e);have hgb:¬g=b:=fun e=>by
  subst e;obtain⟨_,cs,fr,hh⟩:=ho.kind (g:=g) rfl;rw [hp5]at hh;simp only [Option.some.injEq,Obj.cells.injEq]at hh;exact absurd hh.2.1 (by decide)
 refine⟨hp5.setN 5 _ _ rfl,ho.kept ((KeepT.refl (fun j=>j=b) w5).setCell (p:=⟨b,5,none⟩) (.inl rfl) _) (fun k hk2 e=>?_),h.gr,h.pt,?_,?_,(h.mx.kept hk (fun e=>by have h1:=(h.own.kind e).1;have h2:=h.lo.1;omega)).kept ((KeepT.refl (fun j=>j=b) w5).setCell (p:=⟨b,5,none⟩) (.inl rfl) _) (fun e=>ps_mx h.at_ h.mx e.symm),h.lo⟩
 ·simp only [Value.ownBlock,Option.some.injEq]at hk2
  exact hgb (hk2.trans e)
 ·rcases hw with e | e
  ·rcases h.opn with e2 | e2
   ·exact .inl (by rw [← e2,e];rfl)
   ·exact .inr (fun j hj=>by
     simp only [Value.ownBlock,Option.some.injEq]at hj;subst hj;exact e2 _ e)
  ·exact .inr (fun j hj=>by
    simp only [Value.ownBlock,Option.some.injEq]at hj;have:=h.keep.size;omega)
 ·refine(h.keep.trans hk (fun i hi e=>?_)).trans ((KeepT.refl (fun j=>j=b) w5).setCell (p:=⟨b,5,none⟩) (.inl rfl) _) (fun i _ e=> .inl e)
  rcases h.opn with e2 | e2
  ·exact .inr (by rw [← e2];exact e)
  ·have:=e2 i e
   omega
theorem OnR.popd {w0 w:World}{b B m g cap:Nat}{p p':Ps}(h:OnR w0 w b B (m+1) p p')(hv:p'.op= .slice (some ⟨g,0,none⟩) (m+1) cap)(ho:Zbm w B (.slice (some ⟨g,0,none⟩) m cap) m):
 OnR w0 (w.setCell ⟨b,5,none⟩ (.slice (some ⟨g,0,none⟩) m cap)) b B m p { p' with op:= .slice (some ⟨g,0,none⟩) m cap }:=by
 have hfar:=op_far h.own h.at_;rw [hv]at hfar;have hopn:=h.opn;rw [hv]at hopn;refine⟨h.at_.setN 5 _ _ rfl,ho.kept ((KeepT.refl (fun j=>j=b) w).setCell (p:=⟨b,5,none⟩) (.inl rfl) _) (fun k hk2 e=>hfar ?_),h.gr,h.pt,hopn,h.keep.setCell (p:=⟨b,5,none⟩) (.inl (.inl rfl)) _,h.mx.kept ((KeepT.refl (fun j=>j=b) w).setCell (p:=⟨b,5,none⟩) (.inl rfl) _) (fun e=>ps_mx h.at_ h.mx e.symm),h.lo⟩;rw [← e];exact hk2
theorem ok_group {l:List Nd}(n:Nat)(hn:n≤9)(h1:1≤n)(h:∀y∈l,NdOk y):NdOk (.mk 7 0 (fun _=>false) n 0 0 l):=
 .mk _ ⟨by show(1:Int)≤7;omega,by show(7:Int)≤8;omega⟩ hn (fun _=>h1) (Nat.zero_le _) ⟨by show(-1:Int)≤0;omega,by show(0:Int)≤255;omega⟩ (fun _=>Int.le_refl _) (fun h=>(h rfl).elim) (fun h=>by simp only [Nd.k]at h;omega) h
theorem TreeOf.keptRow {w:World}{r:Nat}{S:Nat→Prop}{v:Value}{l:List Nd}(h:TreeOf w (fun j=>S j∨j=r) v l)(nc:Array Value):TreeOf (w.setRow r nc) S v l:=
 (h.kept (Zaw nc) (fun j e=> .inl (.inr e))).mono (fun j _ e=> .inl e)
theorem breGroup (b B N:Nat)(HR:RowsTo b B N)(p:Ps)(m:Nat)(w:World)(hp:p.left.length≤N)(hm:m+1+p.left.length≤100000)(hB:B≤w.heap.size)(h:OnR w w b B m p p):
 Calls Tryz.prog 221 #[.pointer (some ⟨b,0,none⟩)] w (PartEb w b B m p.left.length p):=by
 have HH:=Zh h;have HRR:=Zh HR;have HPL:=Zh hp;have HML:=Zh hm;have HBW:=Zh hB;clear h HR hp hm hB;go_enter Tryz.func221,Tryz.ntmps221;go_upto_region 1 with fail;generalize hwA:w.alloc _=wA;have HZ:=Zh (show wA.heap[w.heap.size]? =some (.cells bndZ 242 (0,0)) from hwA▸Zae _ _);have hbA:Below w.heap.size w wA:=hwA▸Zab w _;have HA:=Zh (HH.out.later hbA);clear hwA hbA;have hgr:p.gr≤9:=HA.out.gr;have e2:((p.gr+1:Nat):Int)=(p.gr:Int)+1:=by omega
 have c2:=HA.out.at_.c2;have f2:=HA.out.at_.fz 2;have HP1:=Zh (HA.out.at_.setN 2 (.int .i64 ((p.gr:Int)+1)) { p with gr:=p.gr+1 } (by rw [← e2];rfl));have HK1:=Zh ((KeepT.refl (fun j=>j=b) wA).setCell (p:=⟨b,2,none⟩) (.inl rfl) (.int .i64 ((p.gr:Int)+1)));go_upto_region 2 with fail;clear c2 f2;generalize wA.setCell _ _=w1 at *;have HZ1:=Zh ((HK1.out.block _ (Zaa HZ.out) (fun e=>Zax HA.out.at_ ⟨_,_,HZ.out⟩ e.symm)).trans HZ.out);have q2:=HP1.out.c2;rw [e2]at q2
 by_cases hle:p.gr+1≤9
 case neg=>
  have hi:¬(p.gr:Int)+1≤9:=by omega
  have HM:=Zh (Zbc false w1);have HKX:=Zh (HA.out.keep.trans HK1.out (fun i _ e=> .inl e));clear hle e2 hgr;go_wp2_with fail;refine HM.out.mono ?_;rintro e w2 ⟨rfl,⟨h,_⟩ | ⟨_,rfl⟩⟩
  ·cases h
  unfold died;exact⟨rfl,.inl ⟨rfl,HKX.out⟩⟩
 have hi:(p.gr:Int)+1≤9:=by omega
 have HLE:=Zh hle;have H1:=Zh (HA.out.own_ HK1.out HP1.out rfl hle HA.out.pt);have HM:=Zh (Zbc true w1);have HGN:=Zh (show 1≤p.gr+1∧p.gr+1≤9 from⟨by omega,hle⟩);have HNG:=Zh (Zdn 7 (p.gr+1));rw [e2]at HNG;have HE2:=Zh e2;clear hle hgr HA HK1 HP1 HZ e2;go_upto_region 2 with fail;go_wp2_with fail;refine HM.out.mono ?_;rintro e w2 ⟨rfl,⟨_,rfl⟩ | ⟨h,_⟩⟩
 case inr=>cases h
 have HND:=Zh (Zci { p with gr:=p.gr+1 } b _ w2 H1.out.at_ HNG.out.size HNG.out.one H1.out.pt);clear HM;go_wp2_with fail;refine HND.out.mono ?_;clear HND;generalize ((Tryz.zeroCells242.setIfInBounds 0 (.int .i64 7)).setIfInBounds 258 (.int .i64 ((p.gr:Int)+1)))=nc at *;rintro e w3 ⟨hk3,rfl | ⟨rfl,hp3,hpt⟩⟩
 ·unfold died
  exact⟨rfl,.inl ⟨rfl,H1.out.keep.trans hk3 (fun i _ e=> .inl e)⟩⟩
 have H3:=Zh (H1.out.own_ hk3 hp3 rfl H1.out.gr hpt);have HZ3:=Zh ((hk3.block _ (Zaa HZ1.out) (fun e=>Zax H1.out.at_ ⟨_,_,HZ1.out⟩ e.symm)).trans HZ1.out);clear hk3 hp3 hpt H1 HZ1 q2 hi;obtain⟨p3,hp3⟩:∃p3:Ps,{ p with gr:=p.gr+1,pt:=p.pt+1 }=p3:=⟨_,rfl⟩;have HP3:=Zh (show p3.left=p.left from by rw [← hp3]);dsimp only at H3;rw [hp3]at H3;clear hp3;have hb4:=Zab w3 (.cells Tryz.zeroCells242 242);have HX4:=Zh (show(w3.alloc (.cells Tryz.zeroCells242 242)).heap[w3.heap.size]? =some (.cells bndZ 242 (0,0)) from Zae w3 _);have H4:=Zh ((H3.out.later hb4).row (Zaw (r:=w3.heap.size) nc) H3.out.lt ⟨_,_,HX4.out⟩);have HX5:=Zh (show((w3.alloc (.cells Tryz.zeroCells242 242)).setRow w3.heap.size nc).heap[w3.heap.size]? =some (.cells nc 242 (0,0)) from setRow_heap _ _ _ _ _ _ HX4.out);have HZ4:=Zh (show((w3.alloc (.cells Tryz.zeroCells242 242)).setRow w3.heap.size nc).heap[w.heap.size]? =some (.cells bndZ 242 (0,0)) from(setRow_other _ _ _ _ (by have:=Zaa HZ3.out;omega)).trans ((hb4.block _ (Zaa HZ3.out)).trans HZ3.out));have HGL:=Zh (show w.heap.size < w3.heap.size from Zaa HZ3.out);go_upto_region 4 with(refine wpList_store_row rfl 242 _ _ (by with_reducible rfl) w3.heap.size nc rfl rfl 242 bndZ HX4.out (Zar HNG.out.size) (by rw [Zap,HNG.out.size]) HNG.out.one ?_);generalize (w3.alloc (.cells Tryz.zeroCells242 242)).setRow w3.heap.size nc=w4 at *;obtain⟨g3,hg3⟩:∃g3,w3.heap.size=g3:=⟨_,rfl⟩;rw [hg3]at HX5 HGL ⊢;clear hb4 HX4 H3 HZ3 hg3;have HML4:=Zh (show m≤1000000 by have:=HML.out;omega);obtain⟨ao,cap,hop⟩:=H4.out.own.shape;have HOP:=Zh hop;have c5:=H4.out.at_.c5;rw [hop]at c5;have q258:w4.cell? ⟨g3,258,none⟩=some (.int .i64 ((p.gr:Int)+1)):=by
  rw [Lib.cell_of_heap HX5.out];have:=HNG.out.is.n;simpa [Nd.n,HE2.out] using this
 clear hop;have hbX:=Zab w4 (.cells #[.int .i64 ((p.gr:Int)+1)] 3);have HBX:=Zh (fun(W:World) (hW:W.heap=(w4.alloc (.cells #[.int .i64 ((p.gr:Int)+1)] 3)).heap)=>(show W.heap[w4.heap.size]? =some (.cells #[.int .i64 ((p.gr:Int)+1)] 3 (0,0)) from by rw [hW];exact Zae w4 _));have HOX:=Zh (fun(W:World) (hW:W.heap=(w4.alloc (.cells #[.int .i64 ((p.gr:Int)+1)] 3)).heap)=>(show Zbm W B (.slice ao m cap) m from by have h:=H4.out.own.later hbX;rw [HOP.out]at h;unfold Zbm World.ownsRow at h ⊢;rw [hW];exact h));have HIX:=Zh (fun(W:World) (hW:W.heap=(w4.alloc (.cells #[.int .i64 ((p.gr:Int)+1)] 3)).heap)=>(show B≤W.heap.size from by rw [hW];exact Nat.le_trans (Nat.le_trans HBW.out H4.out.lt) hbX.size));have HNX:=Zh ((H4.out.later hbX).drew);have HX6:=Zh (show(w4.alloc (.cells #[.int .i64 ((p.gr:Int)+1)] 3)).drew.heap[g3]? =some (.cells nc 242 (0,0)) from(hbX.block _ (Zaa HX5.out)).trans HX5.out);have HZ6:=Zh (show(w4.alloc (.cells #[.int .i64 ((p.gr:Int)+1)] 3)).drew.heap[w.heap.size]? =some (.cells bndZ 242 (0,0)) from(hbX.block _ (Zaa HZ4.out)).trans HZ4.out);have c5a:=(hbX.cell (p:=⟨b,5,none⟩) (Zbt c5)).trans c5;have q258a:=(hbX.cell (p:=⟨g3,258,none⟩) (Zbt q258)).trans q258;clear hbX
 go_region_law (refine step_append_num (B:=B) rfl (.tmp 32) (.tmp 35) rfl (by kernel_rfl) (HOX.out _ rfl) (HIX.out _ rfl) w4.heap.size (by kernel_rfl) ((p.gr:Int)+1) (HBX.out _ rfl) HML4.out ?_;rintro g1 cap1 w5 ho hgr hat hlt;have HO5:=Zh (HNX.out.push ho (by rw [HOP.out];exact hgr) (by rw [HOP.out];exact hat));have HX7:=Zh (((Zcw hgr).block _ (Zaa HX6.out) (fun e=>Zcu HNX.out.own ⟨_,_,HX6.out⟩ (by rw [HOP.out];exact e))).trans HX6.out);have HZ7:=Zh (((Zcw hgr).block _ (Zaa HZ6.out) (fun e=>Zcu HNX.out.own ⟨_,_,HZ6.out⟩ (by rw [HOP.out];exact e))).trans HZ6.out);have HP5:=Zh (HNX.out.at_.kept (Zcw hgr) (fun e=>op_far HNX.out.own HNX.out.at_ (by rw [HOP.out];exact e)));have d5:=HP5.out.c5;rw [HOP.out]at d5;have f5:=HP5.out.fz 5;clear ho hgr hat hlt)
 all_goals(
  have HX8:=Zh (show(w5.setCell ⟨b,5,none⟩ (.slice (some ⟨g1,0,none⟩) (m+1) cap1)).heap[g3]? =some (.cells nc 242 (0,0)) from(Below.heap_setCell _ _ _ _ (fun e=>Zax HP5.out ⟨_,_,HX7.out⟩ e.symm)).trans HX7.out);have HZ8:=Zh (show(w5.setCell ⟨b,5,none⟩ (.slice (some ⟨g1,0,none⟩) (m+1) cap1)).heap[w.heap.size]? =some (.cells bndZ 242 (0,0)) from(Below.heap_setCell _ _ _ _ (fun e=>Zax HP5.out ⟨_,_,HZ7.out⟩ e.symm)).trans HZ7.out);go_upto_region 5 with fail;generalize w5.setCell _ _=w6 at *;clear d5 f5 c5 q258 c5a q258a HBX HOX HIX HNX HX6 HZ6 HX7 HZ7 HP5 H4 HX5 HZ4;obtain⟨p4,hp4⟩:∃p4:Ps,{ p3 with op:= .slice (some ⟨g1,0,none⟩) (m+1) cap1 }=p4:=⟨_,rfl⟩;have HP4:=Zh (show p4.left=p.left from by rw [← hp4];exact HP3.out);rw [hp4]at HO5;clear hp4;have HRW:=Zh (HRR.out p4 (m+1) w6 (by rw [HP4.out];exact HPL.out) (by rw [HP4.out];exact HML.out) (Nat.le_trans HBW.out HO5.out.lt) HO5.out.re);go_wp2_with fail;refine HRW.out.mono ?_;rintro e w7 (⟨rfl,hk⟩ | ⟨v,l,p5,rfl,htr,hok,hon,hle⟩)
  ·unfold died
   exact⟨rfl,.inl ⟨rfl,HO5.out.died_of hk⟩⟩
  obtain⟨av,nv,cv,rfl⟩:∃av nv cv,v= .slice av nv cv:=by cases htr <;> exact⟨_,_,_,rfl⟩
  have HTR:=Zh htr;have HOK:=Zh hok;have HON:=Zh (HO5.out.trans hon);have HLE5:=Zh (show p5.left.length≤p.left.length by rw [← HP4.out];exact hle);have hfar:∀r,(∃cs fr,w6.heap[r]? =some (.cells cs 242 fr))→¬Tn b p4 r:=fun r hz e=>by
   rcases e with e | e
   ·exact Zax HO5.out.at_ hz e.symm
   ·exact Zcu HO5.out.own hz e
  have HX9:=Zh ((hon.keep.block _ (Zaa HX8.out) (hfar _ ⟨_,_,HX8.out⟩)).trans HX8.out);have HZ9:=Zh ((hon.keep.block _ (Zaa HZ8.out) (hfar _ ⟨_,_,HZ8.out⟩)).trans HZ8.out);have HG6:=Zh (show g3 < w6.heap.size from Zaa HX8.out);clear htr hok hon hle hfar HRW HO5 HX8 HZ8;have u261:w7.cell? ⟨g3,261,none⟩=some (.slice none 0 0):=by
   rw [Lib.cell_of_heap HX9.out];simpa using HNG.out.is.kids
  have f261:w7.frozen? ⟨g3,261,none⟩=false:=Lib.frozen_of_heap HX9.out 261;have HNG2:=Zh (show NdG (nc.setIfInBounds 261 (.slice av nv cv)) (.mk 7 0 (fun _=>false) (p.gr+1) 0 0 l) (.slice av nv cv) from by
   have h:=is_kids HNG.out.is HNG.out.size (.slice av nv cv) l;rw [Zdh]at h;have z:(nc.setIfInBounds 261 (.slice av nv cv)).size=262:=by rw [Array.size_setIfInBounds,HNG.out.size]
   exact⟨z,h,h.one z rfl⟩)
  have HXA:=Zh (show(w7.setCell ⟨g3,261,none⟩ (.slice av nv cv)).heap[g3]? =some (.cells (nc.setIfInBounds 261 (.slice av nv cv)) 242 (0,0)) from Zay HX9.out _);have HZA:=Zh (show(w7.setCell ⟨g3,261,none⟩ (.slice av nv cv)).heap[w.heap.size]? =some (.cells bndZ 242 (0,0)) from(Below.heap_setCell _ _ _ _ (show w.heap.size≠g3 by have:=HGL.out;omega)).trans HZ9.out);have HKA:=Zh ((KeepT.refl (fun j=>j=g3) w7).setCell (p:=⟨g3,261,none⟩) (.inl rfl) (.slice av nv cv));have HTA:=Zh ((HTR.out.kept HKA.out (fun j e=> .inl (by subst e;exact HG6.out))).mono (S':=fun j=>j < w.heap.size∨j=w.heap.size) (fun j _ e=>by have h1:=HGL.out;have h2:=HG6.out;rcases e with e | e <;> omega));have HONA:=Zh (HON.out.row HKA.out (Nat.le_of_lt HGL.out) ⟨_,_,HX9.out⟩);clear HTR HG6 HX9 HZ9 HON HNG;go_upto_region 6 with fail;clear u261 f261;generalize w7.setCell _ _=w8 at *;generalize nc.setIfInBounds 261 (.slice av nv cv)=nc2 at *;have HTK:=Zh (breTake p5 b [92,41] w8 HONA.out.at_);go_wp2_with fail;refine HTK.out.mono ?_;rintro e w9 ⟨rfl,hp9,hk9⟩;have H9:=Zh (HONA.out.own_ hk9 hp9 rfl HONA.out.gr HONA.out.pt);have HL9:=Zh (cutP_le p5.left [92,41]);have HX9:=Zh ((hk9.block _ (Zaa HXA.out) (fun e=>Zax HONA.out.at_ ⟨_,_,HXA.out⟩ e.symm)).trans HXA.out);have HZ9:=Zh ((hk9.block _ (Zaa HZA.out) (fun e=>Zax HONA.out.at_ ⟨_,_,HZA.out⟩ e.symm)).trans HZA.out);have HT9:=Zh (HTA.out.kept hk9 (fun j e=> .inr (fun cs fr hh=>by subst e;exact HONA.out.at_.noNode cs fr hh)));obtain⟨q9,hq⟩:∃q9,cutP p5.left [92,41]=q9:=⟨_,rfl⟩;obtain⟨v9,hv⟩:∃v9,hasP p5.left [92,41]=v9:=⟨_,rfl⟩;rw [hq]at H9 HL9;rw [hv];clear hq hv hp9 hk9 HTK HXA HZA HTA HONA;have HM:=Zh (Zbc v9 w9);go_wp2_with fail;refine HM.out.mono ?_;rintro e w10 ⟨rfl,⟨_,rfl⟩ | ⟨_,rfl⟩⟩
  case inr=>
   unfold died;exact⟨rfl,.inl ⟨rfl,H9.out.keep⟩⟩
  clear HM;obtain⟨g,cap,hop9,hc1,hc2,hown⟩:=H9.out.own.pop;have HOW:=Zh hown;have HOP9:=Zh hop9;have HFN:=Zh (H9.out.popd hop9 hown);have c5:=H9.out.at_.c5;rw [hop9]at c5;have f5:=H9.out.at_.fz 5;have HNN:=Zh (fun(n:Nat)=>((H9.out.drewN n).popd HOP9.out HOW.out));clear hop9 hown;have hw64:wrap64 (m:Int)=(m:Int):=by have:=HML4.out;unfold wrap64;omega
  have hm0:(0:Int)≤(m:Int):=by omega
  have hmc:(m:Int)≤(cap:Int):=by omega
  have hm1:wrap64 ((m:Int)+1 - 1)=(m:Int):=by have:=HML4.out;unfold wrap64;omega
  go_upto_region 7 with fail
  go_region
  have HFD:=Zh (HFN.out.drew);have HXB:=Zh (show(w10.setCell ⟨b,5,none⟩ (.slice (some ⟨g,0,none⟩) m cap)).drew.heap[g3]? =some (.cells nc2 242 (0,0)) from(Below.heap_setCell _ _ _ _ (fun e=>Zax H9.out.at_ ⟨_,_,HX9.out⟩ e.symm)).trans HX9.out);have HZB:=Zh (show(w10.setCell ⟨b,5,none⟩ (.slice (some ⟨g,0,none⟩) m cap)).drew.heap[w.heap.size]? =some (.cells bndZ 242 (0,0)) from(Below.heap_setCell _ _ _ _ (fun e=>Zax H9.out.at_ ⟨_,_,HZ9.out⟩ e.symm)).trans HZ9.out);have HTB:=Zh (show TreeOf (w10.setCell ⟨b,5,none⟩ (.slice (some ⟨g,0,none⟩) m cap)).drew (fun j=>j < w.heap.size∨j=w.heap.size) (.slice av nv cv) l from HT9.out.kept (((KeepT.refl (fun j=>j=b) w10).setCell (p:=⟨b,5,none⟩) (.inl rfl) _).drew) (fun j e=> .inr (fun cs fr hh=>by subst e;exact H9.out.at_.noNode cs fr hh)));generalize (w10.setCell ⟨b,5,none⟩ (.slice (some ⟨g,0,none⟩) m cap)).drew=wF at *
  go_wp2_with (first
   | (refine wpList_load_row rfl 242 _ (by with_reducible rfl) g3 rfl 242 nc2 (0,0) _ HXB.out Tryz.underlying242 rfl (Zar HNG2.out.size) ?_)
   | (refine wpList_store_row rfl 242 _ _ (by with_reducible rfl) w.heap.size nc2 rfl rfl 242 bndZ HZB.out (Zar HNG2.out.size) (by rw [HNG2.out.size,Zap]) HNG2.out.one ?_))
  refine bodyPost_ret (v:= .agg nc2) (results_cell_row (p:=2) (by kernel_rfl) _ _ w.heap.size 242 nc2 (0,0) _ rfl (setRow_heap _ _ _ _ _ _ HZB.out) Tryz.underlying242 rfl (Zar HNG2.out.size)) rfl ?_;exact .inr ⟨nc2,_,_,_,rfl,HNG2.out.size,HNG2.out.is,ok_group (p.gr+1) HGN.out.2 HGN.out.1 HOK.out,HTB.out.keptRow nc2,HFD.out.row (Zaw nc2) (Nat.le_refl _) ⟨_,_,HZB.out⟩,by have:=HL9.out;have:=HLE5.out;show q9.length≤_;omega⟩)
end Go.Proofs.YtndjgbehbgcpkaaGreatDoor
