/- The program's reader of patterns: a part with its repetitions. -/
import Derived.Test.YtndjgbehbgcpkaaGreatDoorCb2
set_option linter.unusedVariables false
set_option linter.unusedSimpArgs false
set_option maxRecDepth 100000
set_option maxHeartbeats 4000000
namespace Go.Proofs.YtndjgbehbgcpkaaGreatDoor
open Go Go.Proofs Go.RowKit Go.Ink Go.Sort
def leftOf (w:World)(b:Nat):Nat:=match w.cell? ⟨b,0,none⟩ with
 | some (.string s)=>s.size
 | _=>0
theorem PsAt.leftOf {w:World}{b:Nat}{p:Ps}(h:PsAt w b p):leftOf w b=p.left.length:=by
 have h0:=h.c0;unfold Go.Proofs.YtndjgbehbgcpkaaGreatDoor.leftOf;rw [h0];simp
theorem gset_star (k m:Int)(v:Value)(hv:v.oneCell'=true)(l:List Nd):NdG (((Tryz.zeroCells242.setIfInBounds 0 (.int .i64 k)).setIfInBounds 260 (.int .i64 m)).setIfInBounds 261 v) (.mk k 0 (fun _=>false) 0 0 m l) v:=by
 have z1:(Fil.put bndZ 0 #[Value.int .i64 k]).size=262:=by rw [Fil.put_size,Zap]
 have z2:(Fil.put (Fil.put bndZ 0 #[Value.int .i64 k]) 260 #[Value.int .i64 m]).size=262:=by rw [Fil.put_size,z1]
 have h:=is_kids (is_mx (is_k bndZ_is Zap k) z1 m) z2 v l;have z:(((bndZ.setIfInBounds 0 (.int .i64 k)).setIfInBounds 260 (.int .i64 m)).setIfInBounds 261 v).size=262:=by rw [Array.size_setIfInBounds,Array.size_setIfInBounds,Array.size_setIfInBounds,Zap]
 rw [Zdh,Zdh,Zdh]at h;exact⟨z,h,h.one z hv⟩
theorem gset_times (k:Int)(n:Nat)(m:Int)(v:Value)(hv:v.oneCell'=true)(l:List Nd):NdG ((((Tryz.zeroCells242.setIfInBounds 0 (.int .i64 k)).setIfInBounds 259 (.int .i64 (n:Int))).setIfInBounds 260 (.int .i64 m)).setIfInBounds 261 v) (.mk k 0 (fun _=>false) 0 n m l) v:=by
 have z1:(Fil.put bndZ 0 #[Value.int .i64 k]).size=262:=by rw [Fil.put_size,Zap]
 have z2:(Fil.put (Fil.put bndZ 0 #[Value.int .i64 k]) 259 #[Value.int .i64 (n:Int)]).size=262:=by rw [Fil.put_size,z1]
 have z3:(Fil.put (Fil.put (Fil.put bndZ 0 #[Value.int .i64 k]) 259 #[Value.int .i64 (n:Int)]) 260 #[Value.int .i64 m]).size=262:=by rw [Fil.put_size,z2]
 have h:=is_kids (is_mx (is_mn (is_k bndZ_is Zap k) z1 n) z2 m) z3 v l;have z:((((bndZ.setIfInBounds 0 (.int .i64 k)).setIfInBounds 259 (.int .i64 (n:Int))).setIfInBounds 260 (.int .i64 m)).setIfInBounds 261 v).size=262:=by rw [Array.size_setIfInBounds,Array.size_setIfInBounds,Array.size_setIfInBounds,Array.size_setIfInBounds,Zap]
 rw [Zdh,Zdh,Zdh,Zdh]at h;exact⟨z,h,h.one z hv⟩
theorem ok_times {x:Nd}(hx:NdOk x)(n:Nat)(m:Int)(hn:n≤255)(hm:-1≤m∧m≤255)(hb:0≤m→(n:Int)≤m):NdOk (.mk 8 0 (fun _=>false) 0 n m [x]):=
 .mk _ ⟨by show(1:Int)≤8;omega,by show(8:Int)≤8;omega⟩ (Nat.zero_le _) (fun h=>by simp only [Nd.k]at h;omega) hn hm hb (fun _ h=>(h rfl).elim) (fun _=>rfl) (fun y hy=>by
  simp only [Nd.kids,List.mem_singleton]at hy;rw [hy];exact hx)
theorem tree_one {w:World}{S:Nat→Prop}{g:Nat}{nc:Array Value}{x:Nd}{kid:Value}{fr:Nat×Nat}(hS:¬S g)(hh:w.heap[g]? =some (.cells nc 242 fr))(hi:NdIs nc 0 x kid)(hk:TreeOf w S kid x.kids):TreeOf w S (.slice (some ⟨g,0,none⟩) 1 1) [x]:=by
 refine .row g 1 1 nc fr (fun _=>x) (fun _=>kid) [x] hS hh (by unfold maxLen;omega) rfl (fun i hi=>?_) (fun i hi2=>?_) (fun _ _=>hk)
 ·have:i=0:=by omega
  subst this
  rfl
 ·have:i=0:=by omega
  subst this;exact hi
def S3b (w:World)(S:Nat→Prop)(j:Nat):Prop:=S j∨j=w.heap.size∨j=w.heap.size+1
structure TmAt (w wr:World) (S:Nat→Prop) (b B m:Nat) (p p1:Ps) (nc:Array Value) (x:Nd) (kid:Value):Prop where
 x0:wr.heap[w.heap.size]? =some (.cells nc 242 (0,0))
 r0:wr.heap[w.heap.size+1]? =some (.cells bndZ 242 (0,0))
 g:NdG nc x kid
 ok:NdOk x
 tr:TreeOf wr (S3b w S) kid x.kids
 on:OnR w wr b B m p p1
section
variable {w wr w2:World}{S:Nat→Prop}{b B m:Nat}{p p1 p2:Ps}{nc nc2:Array Value}{x x2:Nd}{kid kid2:Value}
theorem TmAt.on_ (h:TmAt w wr S b B m p p1 nc x kid)(hk:KeepT (fun j=>j=b) wr w2)(hp:PsAt w2 b p2)(ho:p2.op=p1.op)(hg:p2.gr≤9)(ht:p2.pt≤200):TmAt w w2 S b B m p p2 nc x kid:=
 ⟨(hk.block _ (Zaa h.x0) (fun e=>Zax h.on.at_ ⟨_,_,h.x0⟩ e.symm)).trans h.x0,(hk.block _ (Zaa h.r0) (fun e=>Zax h.on.at_ ⟨_,_,h.r0⟩ e.symm)).trans h.r0,h.g,h.ok,h.tr.kept hk (fun j e=> .inr (fun cs fr hh=>by subst e;exact h.on.at_.noNode cs fr hh)),h.on.own_ hk hp ho hg ht⟩
theorem TmAt.far (h:TmAt w wr S b B m p p1 nc x kid):∀r,r=w.heap.size∨r=w.heap.size+1→¬Tn b p1 r:=by
 intro r hr e;rcases hr with rfl | rfl
 ·rcases e with e | e
  ·exact Zax h.on.at_ ⟨_,_,h.x0⟩ e.symm
  ·exact Zcu h.on.own ⟨_,_,h.x0⟩ e
 ·rcases e with e | e
  ·exact Zax h.on.at_ ⟨_,_,h.r0⟩ e.symm
  ·exact Zcu h.on.own ⟨_,_,h.r0⟩ e
theorem TmAt.on2 (h:TmAt w wr S b B m p p1 nc x kid)(k:OnR wr w2 b B m p1 p2):TmAt w w2 S b B m p p2 nc x kid:=
 ⟨(k.keep.block _ (Zaa h.x0) (h.far _ (.inl rfl))).trans h.x0,(k.keep.block _ (Zaa h.r0) (h.far _ (.inr rfl))).trans h.r0,h.g,h.ok,h.tr.kept k.keep (fun j e=> .inr (fun cs fr hh=>by
   rcases e with rfl | e
   ·exact h.on.at_.noNode cs fr hh
   ·exact h.on.own.noNode j e cs fr hh)),h.on.trans k⟩
theorem TmAt.later (h:TmAt w wr S b B m p p1 nc x kid)(hb:Below wr.heap.size wr w2):TmAt w w2 S b B m p p1 nc x kid:=
 ⟨(hb.block _ (Zaa h.x0)).trans h.x0,(hb.block _ (Zaa h.r0)).trans h.r0,h.g,h.ok,h.tr.later hb,h.on.later hb⟩
theorem TmAt.store (h:TmAt w wr S b B m p p1 nc x kid)(hg:NdG nc2 x2 kid2)(ho:NdOk x2)(ht:TreeOf wr (S3b w S) kid2 x2.kids):TmAt w (wr.setRow w.heap.size nc2) S b B m p p1 nc2 x2 kid2:=
 ⟨setRow_heap _ _ _ _ _ _ h.x0,(setRow_other _ _ _ _ (by omega)).trans h.r0,hg,ho,ht.kept (Zaw nc2) (fun j e=> .inl (.inr (.inl e))),h.on.row (Zaw nc2) (Nat.le_refl _) ⟨_,_,h.x0⟩⟩
end
def TmSome (w wr:World)(S:Nat→Prop)(b B m:Nat)(p:Ps):Prop:=∃p1 nc x kid,TmAt w wr S b B m p p1 nc x kid∧p1.left.length≤p.left.length
def TimesEb (w:World)(S:Nat→Prop)(b B m:Nat)(p:Ps)(e:Ending)(w':World):Prop:=
 (e=died∧KeepT (Tn b p) w w')∨∃nc x kid p',e= .returned (.agg nc)∧NdG nc x kid∧NdOk x∧TreeOf w' S kid x.kids∧OnR w w' b B m p p'∧p'.left.length≤p.left.length
theorem breTimes (p:Ps)(b B m:Nat)(S:Nat→Prop)(nc:Array Value)(x:Nd)(kid:Value)(w:World)(h:OnR w w b B m p p)(hg:NdG nc x kid)(hok:NdOk x)(ht:TreeOf w S kid x.kids)(hS:∀j,S j→j < w.heap.size)(hlen:p.left.length≤100000):
 Calls Tryz.prog 176 #[.pointer (some ⟨b,0,none⟩),.agg nc] w (TimesEb w S b B m p):=by
 have HH:=Zh h;have HG:=Zh hg;have HO:=Zh hok;have HT:=Zh ht;have HS:=Zh hS;have HLN:=Zh hlen;clear h hg hok ht hS hlen;go_enter Tryz.func176,Tryz.ntmps176
 go_upto_block 0 with fail
 generalize hwA:(w.alloc _).alloc _=wA;have hbA:Below w.heap.size w wA:=hwA▸(Zab w _).trans ((Zab _ _).mono (Zab w _).size);have HM0:=Zh (show TmAt w wA S b B m p p nc x kid from⟨hwA▸heap_alloc2_old _ _ _,hwA▸heap_alloc2_new _ _ _,HG.out,HO.out,(HT.out.mono (S':=S3b w S) (fun j hj e=>by unfold S3b at e;rcases e with e | e | e;exact e;omega;omega)).later hbA,HH.out.later hbA⟩);clear hwA hbA HG HO HT;go_wp2_with fail
 go_loopw [5,6,7,8,9,11] (fun _ _ _ _ _ _ wr=>Hid (TmSome w wr S b B m p)) (fun _ _ _ _ _ _ wr=>leftOf wr b)
 case atStart=>exact Zh (show TmSome w wA S b B m p from⟨_,_,_,_,HM0.out,Nat.le_refl _⟩)
 case round=>
  clear HM0;obtain⟨p1,nc,x,kid,htm,hle⟩:=hrel.out;have HT:=Zh htm;have HL1:=Zh hle;have HTK:=Zh (breTake p1 b [42] wr htm.on.at_);have HLF:=Zh htm.on.at_.leftOf;clear htm hle;go_wp2_with fail;refine HTK.out.mono ?_;rintro e w1 ⟨rfl,hp1,hk1⟩;cases hv:hasP p1.left [42]
  case true=>
   have H1:=Zh (HT.out.on_ hk1 hp1 rfl HT.out.on.gr HT.out.on.pt);have HLT:=Zh (cutP_lt hv (by decide));clear hp1 hk1 hv HT HTK;obtain⟨ie,z,hie,hz,hsz1,hby1,hzs⟩:=bnd_parts;have HIE:=Zh (show Tryz.prog.info? 242=some ie∧ie.zero=some z∧ie.size=262 from⟨hie,hz,hsz1⟩);clear hie hz hsz1 hby1 hzs;obtain⟨q,hq⟩:∃q,cutP p1.left [42]=q:=⟨_,rfl⟩;rw [hq]at H1 HLT;clear hq;have hbA:=Zab w1 (.cells nc 242);have H2:=Zh (H1.out.later hbA);have HN1:=Zh (show(w1.alloc (.cells nc 242)).heap[w1.heap.size]? =some (.cells nc 242 (0,0)) from Zae w1 _);have HS1:=Zh (show w.heap.size+2≤w1.heap.size from by have:=Zaa H1.out.r0;omega);have HNG:=Zh (gset_star 8 (-1) (.slice (some ⟨w1.heap.size,0,none⟩) 1 1) rfl [x]);have HND:=Zh (Zci _ b _ _ H2.out.on.at_ HNG.out.size HNG.out.one H2.out.on.pt);clear hbA
   go_wp2_with (first
    | (refine wpList_load_row rfl 242 _ (by with_reducible rfl) w.heap.size rfl 242 nc (0,0) _ H1.out.x0 Tryz.underlying242 rfl (Zar H1.out.g.size) ?_)
    | (refine Fil.wpList_row_one rfl 209 242 _ rfl nc rfl ie z Tryz.underlying209 HIE.out.1 HIE.out.2.1 (by rw [H1.out.g.size,HIE.out.2.2]) (by rw [HIE.out.2.2];omega) (by rw [HIE.out.2.2];omega) ?_))
   refine HND.out.mono ?_;clear HND;generalize (((Tryz.zeroCells242.setIfInBounds 0 (.int .i64 8)).setIfInBounds 260 (.int .i64 (-1))).setIfInBounds 261 (.slice (some ⟨w1.heap.size,0,none⟩) 1 1))=nc2 at *;rintro e w3 ⟨hk3,rfl | ⟨rfl,hp3,hpt⟩⟩
   ·unfold died
    go_wp2_with fail;exact⟨rfl,.inl ⟨rfl,H2.out.on.keep.trans hk3 (fun i _ e=> .inl e)⟩⟩
   have H3:=Zh (H2.out.on_ hk3 hp3 rfl H2.out.on.gr hpt);have HN3:=Zh (show w3.heap[w1.heap.size]? =some (.cells nc 242 (0,0)) from(hk3.block _ (Zaa HN1.out) (fun e=>Zax H2.out.on.at_ ⟨_,_,HN1.out⟩ e.symm)).trans HN1.out);have H4:=Zh (H3.out.store (x2:= .mk 8 0 (fun _=>false) 0 0 (-1) [x]) HNG.out (ok_times H3.out.ok 0 (-1) (by omega) (by omega) (fun h=>by omega)) (tree_one (fun e=>by unfold S3b at e;have h1:=HS1.out;rcases e with e | e | e;have h2:=HS.out _ e;omega;omega;omega) HN3.out H3.out.g.is H3.out.tr));clear hk3 hp3 hpt;go_wp2_with (refine wpList_store_row rfl 242 _ _ (by with_reducible rfl) w.heap.size nc2 rfl rfl 242 nc H3.out.x0 (Zar HNG.out.size) (by rw [H3.out.g.size,HNG.out.size]) HNG.out.one ?_);simp only [Act.put];go_roundw
   case rel=>exact Zh (show TmSome w _ S b B m p from⟨_,_,_,_,H4.out,by have:=HLT.out;have:=HL1.out;show q.length≤_;omega⟩)
   case measure=>
    rw [HLF.out,H4.out.on.at_.leftOf];exact HLT.out
  have H1:=Zh (HT.out.on_ hk1 hp1 rfl HT.out.on.gr HT.out.on.pt);have HLE:=Zh (cutP_le p1.left [42]);clear hp1 hk1 hv HT HTK;obtain⟨q,hq⟩:∃q,cutP p1.left [42]=q:=⟨_,rfl⟩;rw [hq]at H1 HLE;clear hq;have HTK:=Zh (breTake { p1 with left:=q } b [92,123] w1 H1.out.on.at_);go_wp2_with fail;refine HTK.out.mono ?_;rintro e w2 ⟨rfl,hp2,hk2⟩;dsimp only at hp2 ⊢;have H2:=Zh (H1.out.on_ hk2 hp2 rfl H1.out.on.gr H1.out.on.pt);clear hp2 hk2 H1 HTK;cases hv:hasP q [92,123]
  case false=>
   have HL2:=Zh (cutP_le q [92,123]);clear hv
   go_wp2_with (first
    | (refine wpList_load_row rfl 242 _ (by with_reducible rfl) w.heap.size rfl 242 nc (0,0) _ H2.out.x0 Tryz.underlying242 rfl (Zar H2.out.g.size) ?_)
    | (refine wpList_store_row rfl 242 _ _ (by with_reducible rfl) (w.heap.size+1) nc rfl rfl 242 bndZ H2.out.r0 (Zar H2.out.g.size) (by rw [H2.out.g.size,Zap]) H2.out.g.one ?_))
   refine bodyPost_ret (v:= .agg nc) (results_cell_row (p:=4) (by kernel_rfl) _ _ (w.heap.size+1) 242 nc (0,0) _ rfl (setRow_heap _ _ _ _ _ _ H2.out.r0) Tryz.underlying242 rfl (Zar H2.out.g.size)) rfl ?_;exact .inr ⟨nc,x,kid,_,rfl,H2.out.g,H2.out.ok,(H2.out.tr.kept (Zaw nc) (fun j e=> .inl (.inr (.inr e)))).mono (fun j _ e=> .inl e),H2.out.on.row (Zaw nc) (by omega) ⟨_,_,H2.out.r0⟩,by have:=HLE.out;have:=HL2.out;have:=HL1.out;show(cutP q [92,123]).length≤_;omega⟩
  have HL2:=Zh (cutP_lt hv (by decide));clear hv;obtain⟨q2,hq⟩:∃q2,cutP q [92,123]=q2:=⟨_,rfl⟩;rw [hq]at H2 HL2;clear hq;have HNM:=Zh (breNumber { p1 with left:=q2 } b B m w2 H2.out.on.re (by have:=HL2.out;have:=HLE.out;have:=HL1.out;have:=HLN.out;show q2.length≤_;omega));go_wp2_with fail;refine HNM.out.mono ?_;rintro e w3 ⟨n,ok,q3,rfl,hn,ho3,hl3⟩;have H3:=Zh (H2.out.on2 ho3);have HN3:=Zh hn;have HL3:=Zh (show q3.length≤q2.length from hl3);clear hn ho3 hl3 HNM H2;go_upto_region 7 with fail;have HTK:=Zh (breTake { p1 with left:=q3 } b [44] w3 H3.out.on.at_);go_wp2_with fail;refine HTK.out.mono ?_;rintro e w4 ⟨rfl,hp4,hk4⟩;dsimp only at hp4 ⊢;have H4:=Zh (H3.out.on_ hk4 hp4 rfl H3.out.on.gr H3.out.on.pt);have HL4:=Zh (cutP_le q3 [44]);obtain⟨q4,hq⟩:∃q4,cutP q3 [44]=q4:=⟨_,rfl⟩;obtain⟨v4,hv⟩:∃v4,hasP q3 [44]=v4:=⟨_,rfl⟩;rw [hq]at H4 HL4;rw [hv];clear hq hv hp4 hk4 H3 HTK
  go_upto_if 29 with fail
  go_cut [7,8,9] from 30 to 37 (fun nv _ _ wx=>(∃z:Int,nv= .int .i64 z∧-1≤z∧z≤256)∧Hid (∃q5,TmAt w wx S b B m p { p1 with left:=q5 } nc x kid∧q5.length≤q4.length))
  case first=>
   cases v4
   case false=>
    go_wp2_with fail;go_meet
    case rel=>exact⟨⟨_,rfl,by have:=HN3.out;omega,by have:=HN3.out;omega⟩,Zh ⟨q4,H4.out,Nat.le_refl _⟩⟩
   have HNM:=Zh (breNumber { p1 with left:=q4 } b B m w4 H4.out.on.re (by have:=HL2.out;have:=HL3.out;have:=HL4.out;have:=HLE.out;have:=HL1.out;have:=HLN.out;show q4.length≤_;omega));go_wp2_with fail;refine HNM.out.mono ?_;rintro e w5 ⟨n5,ok5,q5,rfl,hn5,ho5,hl5⟩;have H5:=Zh (H4.out.on2 ho5);have HN5:=Zh hn5;have HL5:=Zh (show q5.length≤q4.length from hl5);clear hn5 ho5 hl5 HNM H4;cases ok5
   case true=>
    go_wp2_with fail;go_meet
    case rel=>exact⟨⟨_,rfl,by have:=HN5.out;omega,by have:=HN5.out;omega⟩,Zh ⟨q5,H5.out,HL5.out⟩⟩
   go_wp2_with fail;go_meet
   case rel=>exact⟨⟨_,rfl,by omega,by omega⟩,Zh ⟨q5,H5.out,HL5.out⟩⟩
  case rest=>
   obtain⟨⟨z,rfl,hz1,hz2⟩,HX⟩:=hcut;obtain⟨q5,h5,hl5⟩:=HX.out;have H5:=Zh h5;have HL5:=Zh hl5;have HZ:=Zh (show -1≤z∧z≤256 from⟨hz1,hz2⟩);clear HX h5 hl5 H4;cases ok
   case false=>
    have HM:=Zh (Zbc false wc);go_wp2_with fail;refine HM.out.mono ?_;rintro e w9 ⟨rfl,⟨h,_⟩ | ⟨_,rfl⟩⟩
    ·cases h
    unfold died;go_wp2_with fail;exact⟨rfl,.inl ⟨rfl,H5.out.on.keep⟩⟩
   have HTK:=Zh (breTake { p1 with left:=q5 } b [92,125] wc H5.out.on.at_);go_wp2_with fail;refine HTK.out.mono ?_;rintro e w6 ⟨rfl,hp6,hk6⟩;dsimp only at hp6 ⊢;have H6:=Zh (H5.out.on_ hk6 hp6 rfl H5.out.on.gr H5.out.on.pt);have HL6:=Zh (cutP_le q5 [92,125]);obtain⟨q6,hq⟩:∃q6,cutP q5 [92,125]=q6:=⟨_,rfl⟩;obtain⟨v6,hv⟩:∃v6,hasP q5 [92,125]=v6:=⟨_,rfl⟩;rw [hq]at H6 HL6;rw [hv];clear hq hv hp6 hk6 H5 HTK;cases v6
   case false=>
    have HM:=Zh (Zbc false w6);go_wp2_with fail;refine HM.out.mono ?_;rintro e w9 ⟨rfl,⟨h,_⟩ | ⟨_,rfl⟩⟩
    ·cases h
    unfold died;go_wp2_with fail;exact⟨rfl,.inl ⟨rfl,H6.out.on.keep⟩⟩
   by_cases h1:n≤255
   case neg=>
    have h1i:¬(n:Int)≤255:=by omega
    clear h1;have HM:=Zh (Zbc false w6);go_wp2_with fail;refine HM.out.mono ?_;rintro e w9 ⟨rfl,⟨h,_⟩ | ⟨_,rfl⟩⟩
    ·cases h
    unfold died;go_wp2_with fail;exact⟨rfl,.inl ⟨rfl,H6.out.on.keep⟩⟩
   have h1i:(n:Int)≤255:=by omega
   have HN1:=Zh h1;clear h1
   by_cases h2:z≤255
   case neg=>
    have HM:=Zh (Zbc false w6);go_wp2_with fail;refine HM.out.mono ?_;rintro e w9 ⟨rfl,⟨h,_⟩ | ⟨_,rfl⟩⟩
    ·cases h
    unfold died;go_wp2_with fail;exact⟨rfl,.inl ⟨rfl,H6.out.on.keep⟩⟩
   have HZ2:=Zh h2
   by_cases h3:z < 0
   case neg=>
    by_cases h4:(n:Int)≤z
    case neg=>
     have HM:=Zh (Zbc false w6);go_wp2_with fail;refine HM.out.mono ?_;rintro e w9 ⟨rfl,⟨h,_⟩ | ⟨_,rfl⟩⟩
     ·cases h
     unfold died;go_wp2_with fail;exact⟨rfl,.inl ⟨rfl,H6.out.on.keep⟩⟩
    have HZ4:=Zh h4;have HM:=Zh (Zbc true w6);go_wp2_with fail;refine HM.out.mono ?_;rintro e w7 ⟨rfl,⟨_,rfl⟩ | ⟨h,_⟩⟩
    case inr=>cases h
    have HB:=Zh (show 0≤z→(n:Int)≤z from fun _=>HZ4.out);clear HM;obtain⟨ie,z0,hie,hz,hsz1,hby1,hzs⟩:=bnd_parts;have HIE:=Zh (show Tryz.prog.info? 242=some ie∧ie.zero=some z0∧ie.size=262 from⟨hie,hz,hsz1⟩);clear hie hz hsz1 hby1 hzs;have hbA:=Zab w7 (.cells nc 242);have H7:=Zh (H6.out.later hbA);have HX1:=Zh (show(w7.alloc (.cells nc 242)).heap[w7.heap.size]? =some (.cells nc 242 (0,0)) from Zae w7 _);have HS1:=Zh (show w.heap.size+2≤w7.heap.size from by have:=Zaa H6.out.r0;omega);have HNG:=Zh (gset_times 8 n z (.slice (some ⟨w7.heap.size,0,none⟩) 1 1) rfl [x]);have HND:=Zh (Zci _ b _ _ H7.out.on.at_ HNG.out.size HNG.out.one H7.out.on.pt);clear hbA
    go_wp2_with (first
     | (refine wpList_load_row rfl 242 _ (by with_reducible rfl) w.heap.size rfl 242 nc (0,0) _ H6.out.x0 Tryz.underlying242 rfl (Zar H6.out.g.size) ?_)
     | (refine Fil.wpList_row_one rfl 209 242 _ rfl nc rfl ie z0 Tryz.underlying209 HIE.out.1 HIE.out.2.1 (by rw [H6.out.g.size,HIE.out.2.2]) (by rw [HIE.out.2.2];omega) (by rw [HIE.out.2.2];omega) ?_))
    refine HND.out.mono ?_;clear HND;generalize ((((Tryz.zeroCells242.setIfInBounds 0 (.int .i64 8)).setIfInBounds 259 (.int .i64 (n:Int))).setIfInBounds 260 (.int .i64 z)).setIfInBounds 261 (.slice (some ⟨w7.heap.size,0,none⟩) 1 1))=nc2 at *;rintro e w8 ⟨hk3,rfl | ⟨rfl,hp3,hpt⟩⟩
    ·unfold died
     go_wp2_with fail;exact⟨rfl,.inl ⟨rfl,H7.out.on.keep.trans hk3 (fun i _ e=> .inl e)⟩⟩
    have H8:=Zh (H7.out.on_ hk3 hp3 rfl H7.out.on.gr hpt);have HX3:=Zh (show w8.heap[w7.heap.size]? =some (.cells nc 242 (0,0)) from(hk3.block _ (Zaa HX1.out) (fun e=>Zax H7.out.on.at_ ⟨_,_,HX1.out⟩ e.symm)).trans HX1.out);have H9:=Zh (H8.out.store (x2:= .mk 8 0 (fun _=>false) 0 n z [x]) HNG.out (ok_times H8.out.ok n z HN1.out ⟨HZ.out.1,HZ2.out⟩ HB.out) (tree_one (fun e=>by unfold S3b at e;have h1:=HS1.out;rcases e with e | e | e;have h2:=HS.out _ e;omega;omega;omega) HX3.out H8.out.g.is H8.out.tr));clear hk3 hp3 hpt;go_wp2_with (refine wpList_store_row rfl 242 _ _ (by with_reducible rfl) w.heap.size nc2 rfl rfl 242 nc H8.out.x0 (Zar HNG.out.size) (by rw [H8.out.g.size,HNG.out.size]) HNG.out.one ?_);simp only [Act.put];go_roundw
    case rel=>exact Zh (show TmSome w _ S b B m p from⟨_,_,_,_,H9.out,by have:=HL6.out;have:=HL5.out;have:=HL4.out;have:=HL3.out;have:=HL2.out;have:=HLE.out;have:=HL1.out;show q6.length≤_;omega⟩)
    case measure=>
     rw [HLF.out,H9.out.on.at_.leftOf];have:=HL6.out;have:=HL5.out;have:=HL4.out;have:=HL3.out;have:=HL2.out;have:=HLE.out;show q6.length < _;omega
   have HM:=Zh (Zbc true w6);go_wp2_with fail;refine HM.out.mono ?_;rintro e w7 ⟨rfl,⟨_,rfl⟩ | ⟨h,_⟩⟩
   case inr=>cases h
   have HB:=Zh (show 0≤z→(n:Int)≤z from fun h=>by omega);clear HM;obtain⟨ie,z0,hie,hz,hsz1,hby1,hzs⟩:=bnd_parts;have HIE:=Zh (show Tryz.prog.info? 242=some ie∧ie.zero=some z0∧ie.size=262 from⟨hie,hz,hsz1⟩);clear hie hz hsz1 hby1 hzs;have hbA:=Zab w7 (.cells nc 242);have H7:=Zh (H6.out.later hbA);have HX1:=Zh (show(w7.alloc (.cells nc 242)).heap[w7.heap.size]? =some (.cells nc 242 (0,0)) from Zae w7 _);have HS1:=Zh (show w.heap.size+2≤w7.heap.size from by have:=Zaa H6.out.r0;omega);have HNG:=Zh (gset_times 8 n z (.slice (some ⟨w7.heap.size,0,none⟩) 1 1) rfl [x]);have HND:=Zh (Zci _ b _ _ H7.out.on.at_ HNG.out.size HNG.out.one H7.out.on.pt);clear hbA
   go_wp2_with (first
    | (refine wpList_load_row rfl 242 _ (by with_reducible rfl) w.heap.size rfl 242 nc (0,0) _ H6.out.x0 Tryz.underlying242 rfl (Zar H6.out.g.size) ?_)
    | (refine Fil.wpList_row_one rfl 209 242 _ rfl nc rfl ie z0 Tryz.underlying209 HIE.out.1 HIE.out.2.1 (by rw [H6.out.g.size,HIE.out.2.2]) (by rw [HIE.out.2.2];omega) (by rw [HIE.out.2.2];omega) ?_))
   refine HND.out.mono ?_;clear HND;generalize ((((Tryz.zeroCells242.setIfInBounds 0 (.int .i64 8)).setIfInBounds 259 (.int .i64 (n:Int))).setIfInBounds 260 (.int .i64 z)).setIfInBounds 261 (.slice (some ⟨w7.heap.size,0,none⟩) 1 1))=nc2 at *;rintro e w8 ⟨hk3,rfl | ⟨rfl,hp3,hpt⟩⟩
   ·unfold died
    go_wp2_with fail;exact⟨rfl,.inl ⟨rfl,H7.out.on.keep.trans hk3 (fun i _ e=> .inl e)⟩⟩
   have H8:=Zh (H7.out.on_ hk3 hp3 rfl H7.out.on.gr hpt);have HX3:=Zh (show w8.heap[w7.heap.size]? =some (.cells nc 242 (0,0)) from(hk3.block _ (Zaa HX1.out) (fun e=>Zax H7.out.on.at_ ⟨_,_,HX1.out⟩ e.symm)).trans HX1.out);have H9:=Zh (H8.out.store (x2:= .mk 8 0 (fun _=>false) 0 n z [x]) HNG.out (ok_times H8.out.ok n z HN1.out ⟨HZ.out.1,HZ2.out⟩ HB.out) (tree_one (fun e=>by unfold S3b at e;have h1:=HS1.out;rcases e with e | e | e;have h2:=HS.out _ e;omega;omega;omega) HX3.out H8.out.g.is H8.out.tr));clear hk3 hp3 hpt;go_wp2_with (refine wpList_store_row rfl 242 _ _ (by with_reducible rfl) w.heap.size nc2 rfl rfl 242 nc H8.out.x0 (Zar HNG.out.size) (by rw [H8.out.g.size,HNG.out.size]) HNG.out.one ?_);simp only [Act.put];go_roundw
   case rel=>exact Zh (show TmSome w _ S b B m p from⟨_,_,_,_,H9.out,by have:=HL6.out;have:=HL5.out;have:=HL4.out;have:=HL3.out;have:=HL2.out;have:=HLE.out;have:=HL1.out;show q6.length≤_;omega⟩)
   case measure=>
    rw [HLF.out,H9.out.on.at_.leftOf];have:=HL6.out;have:=HL5.out;have:=HL4.out;have:=HL3.out;have:=HL2.out;have:=HLE.out;show q6.length < _;omega
end Go.Proofs.YtndjgbehbgcpkaaGreatDoor
