/- The reference's reader of patterns: a row of parts. -/
import Derived.Test.YtndjgbehbgcpkaaGreatDoorPrm
set_option linter.unusedVariables false
set_option linter.unusedSimpArgs false
set_option maxRecDepth 100000
set_option maxHeartbeats 4000000
namespace Go.Proofs.YtndjgbehbgcpkaaGreatDoor
open Go Go.Proofs Go.RowKit Go.Ink Go.Sort
theorem wpList_append_nd {w:World}{B:Nat}{v:Value}{l:List (Array Value×Value)}{ops:Array Oper}{rest:List Oper}{o:Oper}{a:Act}{Q:Exit→Act→World→Prop}(hgd:o.guard=none)(s x:Operand)
 (ho:o.op= .call { callee:= .builtin .append,args:=#[s,x],argTypes:=#[141,141] })
 (hs:a.eval s=v) (hown:NodesOwn w B v l) (hB:B≤w.heap.size) (b:Nat) (hx:a.eval x= .slice (some ⟨b,0,none⟩) 1 1) (nc:Array Value) (kid:Value) (T:TypeId) (hb:w.heap[b]? =some (.cells nc T (0,0))) (hn:NdC nc kid) (ht:Tree w (fun j=>j < B∨v.ownBlock=some j) kid) (hl:l.length≤1000000)
 (h:∀g cap w',NodesOwn w' B (.slice (some ⟨g,0,none⟩) (l.length+1) cap) (l++[(nc,kid)])→w.grownBy w' v.ownBlock→(v.ownBlock=some g∨g=w.heap.size)→g < w'.heap.size→wpList Tryz.prog ops Q rest (a.put o.dst (.slice (some ⟨g,0,none⟩) (l.length+1) cap)) w'):
 wpList Tryz.prog ops Q (o::rest) a w:=by
 obtain⟨i0,z,hi,hz0,hz1,hz2,hzs⟩:=nod_parts;refine wpList_append_lies w hgd s x 141 ho B 193 i0 z 262 320 Tryz.underlying141 hi hz0 hz1 hz2 hzs (by decide) v l.length (l.flatMap fun x=>x.1.toList) hs hown.row ⟨b,0,none⟩ 1 1 nc.toList hx (by simpa using hn.size) ?_ ?_ (by omega) (by unfold maxLen;omega) (by omega) hB _ rfl ?_
 ·exact fun j u hj=>World.news_of_block hb j u (by simpa using hj)
 ·intro u hu
  exact Array.all_eq_true_iff_forall_mem.1 hn.one u (by simpa using hu)
 ·intro g cap w' k1 k2 k3 k4
  refine h g cap w' ⟨?_,?_⟩ k2 k3 k4
  ·rw [List.length_append,List.flatMap_append,List.flatMap_singleton]
   exact k1
  ·have hk:=Zdb k2
   have hgo:∀j,j < w.heap.size→(j < B∨j=g∨v.ownBlock=some j)→(j < B∨v.ownBlock=some j):=by
    intro j hj e;rcases e with e | e | e
    ·exact .inl e
    ·subst e
     rcases k3 with k3 | k3
     ·exact .inr k3
     ·omega
    ·exact .inr e
   have step:∀y,Tree w (fun j=>j < B∨v.ownBlock=some j) y→Tree w' (fun j=>j < B∨(Value.slice (some ⟨g,0,none⟩) (l.length+1) cap).ownBlock=some j) y:=fun y hy=>
    ((hy.mono (S':=fun j=>j < B∨j=g∨v.ownBlock=some j) hgo).kept hk (fun j e=> .inr (.inr e))).mono (fun j _ e=>by
      rcases e with e | e
      ·exact .inl e
      ·simp only [Value.ownBlock,Option.some.injEq]at e
       exact .inr (.inl e.symm))
   intro y hy;rcases List.mem_append.1 hy with hy | hy
   ·exact⟨(hown.ok y hy).1,step _ (hown.ok y hy).2⟩
   ·obtain rfl:=List.mem_singleton.1 hy
    exact⟨hn,step _ ht⟩
structure RwM (w:World) (b:Nat) (s:List UInt8) (st0:Out9) (bg:Bool) (wr:World) (lv:Value) (l:List (Array Value×Value)) (a1 gr mn:Nat) (rf:Bool×(Nat→Bool)) (bd:Bool):Prop where
 own:NodesOwn wr w.heap.size lv l
 r:RdAt wr b s a1 gr mn rf bd
 k:KeepT (fun j=>j=b) w wr
 ge:st0.a≤a1
 le:a1≤s.length
 g:gr≤900
 m:mn≤a1
 n1:bd=false→l.length≤a1
 n2:l.length≤a1+1
 go:∀k r,R9 s (.row (l.length==0) bg ⟨a1,gr,mn,bd,rf.2⟩) k r→R9 s (.row true false st0) 0 r
theorem RwM.drewN {w:World}{b:Nat}{s:List UInt8}{st0:Out9}{bg:Bool}{wr:World}{lv:Value}{l:List (Array Value×Value)}{a1 gr mn:Nat}{rf:Bool×(Nat→Bool)}{bd:Bool}(h:RwM w b s st0 bg wr lv l a1 gr mn rf bd)(n:Nat):RwM w b s st0 bg (wr.drewN n) lv l a1 gr mn rf bd:=
 ⟨h.own.kept ((KeepT.refl (fun _=>False) wr).drewN n) (fun _ e=>e.elim),h.r.drewN n,h.k.drewN n,h.ge,h.le,h.g,h.m,h.n1,h.n2,h.go⟩
def OneM (b:Nat)(s:List UInt8)(X:Nat)(S:Nat→Prop)(wc:World)(a1 a2 gr:Nat)(rf:Bool×(Nat→Bool))(Q:Nat×Nat×Bool→Prop)(wx:World):Prop:=
 ∃nc kid a3 mn bd,wx.heap[X]? =some (.cells nc 193 (0,0))∧NdC nc kid∧Tree wx S kid∧RdAt wx b s a3 gr mn rf bd∧a2≤a3∧a3≤s.length∧mn≤a3∧(bd=false→a1 < a3)∧KeepT (fun j=>j=b∨j=X) wc wx∧Q (a3,mn,bd)
def EndQ (s:List UInt8)(k a2 mn2:Nat)(bd2:Bool)(x:Nat×Nat×Bool):Prop:=((bd2=true∨k=4∨k=5)∧x=(a2,mn2,bd2))∨(¬(bd2=true∨k=4∨k=5)∧Times9 s a2 mn2 x)
theorem R9.row0 {s:List UInt8}{f g:Bool}{st:Out9}{k:Nat}{o:Out9}(h:R9 s (.row f g st) k o):R9 s (.row f g st) 0 o:=by
 cases h with
 | stop _ _ _ h=>exact .stop _ _ _ h
 | step _ _ _ _ _ _ _ h1 h2 h3 h4=>exact .step _ _ _ _ _ _ _ h1 h2 h3 h4
 | times _ _ _ _ _ _ _ _ h1 h2 h3 h4 h5=>exact .times _ _ _ _ _ _ _ _ h1 h2 h3 h4 h5
theorem kcls4 (kd:Int):(kcls kd==4)=(kd==4):=by
 unfold kcls
 by_cases h:kd=4
 ·subst h;rfl
 ·rw [if_neg h,show(kd==4)=false from by rw [beq_eq_false_iff_ne];exact h]
  split <;> rfl
theorem refRowStep {b:Nat}{s:List UInt8}{a:Nat}(ih:∀a',a < a'→RowC b s a')(hs:s.length≤100000):RowC b s a:=by
 intro w gr mn rf h hg hm ha;have hsz:=size_mk s;have HBL:=Zh h.lt;have HIH:=Zh ih;have HLS:=Zh hs;obtain⟨st0,hst0⟩:∃st0:Out9,st0=⟨a,gr,mn,false,rf.2⟩:=⟨_,rfl⟩;have HST:=Zh (show st0.a=a by rw [hst0]);have HM0:=Zh (show∃l a1 gr mn rf bd,RwM w b s st0 false w (.slice none 0 0) l a1 gr mn rf bd from⟨[],a,gr,mn,rf,false,NodesOwn.nil _ _,h,KeepT.refl _ _,Nat.le_of_eq HST.out,ha,hg,hm,fun _=>Nat.zero_le _,Nat.zero_le _,fun k r hr=>by rw [hst0];exact hr.row0⟩);rw [← hst0];clear hst0;go_enter Tryz.func142,Tryz.ntmps142;clear h hg hm ha ih hs gr mn rf;go_wp2_with fail
 go_loopw [3,4,5] (fun lv bv _ wr=>∃bg:Bool,bv= .bool bg∧Hid (∃l a1 gr mn rf bd,RwM w b s st0 bg wr lv l a1 gr mn rf bd)) (fun _ _ _ wr=>2 * (s.length - rdPos wr b)+rdBad wr b)
 case atStart=>exact⟨false,rfl,HM0⟩
 case round=>
  clear HM0;obtain⟨bg,rfl,HX⟩:=hrel;obtain⟨l,a1,gr,mn,rf,bd,hr⟩:=HX.out;have HR:=Zh hr;have HPO:=Zh hr.r.pos;obtain⟨ao,cap,hlv⟩:=hr.own.shape;subst hlv;clear hr HX;go_upto_region 3 with fail
  go_cut [34] from 6 to 35 (fun v wx=>v= .bool (goB s ⟨a1,gr,mn,bd,rf.2⟩)∧Hid (∃n,wx=wr.drewN n))
  case first=>
   have q0:=HR.out.r.c0;have q1:=HR.out.r.c1;have q2:=HR.out.r.c2;have q5:=HR.out.r.cB;cases bd
   case true=>
    have HGO:=Zh (show goB s ⟨a1,gr,mn,true,rf.2⟩=false by unfold goB;simp)
    go_quiet (fail)
    go_wp2_with fail;go_meet
    case rel=>exact⟨by rw [HGO.out],Zh ⟨nq,rfl⟩⟩
   by_cases hlt:a1 < s.length
   case neg=>
    have hltb:decide ((a1:Int) < (s.length:Int))=false:=decide_eq_false (by omega);have hltc:decide (a1 < s.length)=false:=decide_eq_false hlt;have HGO:=Zh (show goB s ⟨a1,gr,mn,false,rf.2⟩=false by unfold goB;simp [hlt]);clear hlt
    go_quiet (fail)
    go_wp2_with fail;go_meet
    case rel=>exact⟨by rw [HGO.out],Zh ⟨nq,rfl⟩⟩
   have hltb:decide ((a1:Int) < (s.length:Int))=true:=decide_eq_true (by omega);have hltc:decide (a1 < s.length)=true:=decide_eq_true hlt;have HLT:=Zh hlt;clear hlt;have HIS:=Zh (fun n=>show Calls Tryz.prog 169 #[.pointer (some ⟨b,0,none⟩),.string ⟨#[92,41]⟩] (wr.drewN n) fun e w'=>e= .returned (.bool (isB s a1 [92,41]))∧∃m,w'=wr.drewN m from(refIsQ [92,41] (wr.drewN n) (HR.out.r.drewN n) HR.out.le HLS.out (by decide)).mono (fun _ _ ⟨h1,m,h2⟩=>⟨h1,n+m,by rw [h2,World.drewN_drewN]⟩));obtain⟨ib,hib⟩:∃ib,isB s a1 [92,41]=ib:=⟨_,rfl⟩;rw [hib]at HIS;have HIB:=Zh hib;clear hib;cases ib
   case true=>
    have HGO:=Zh (show goB s ⟨a1,gr,mn,false,rf.2⟩=false by unfold goB;simp [HIB.out])
    go_quiet ((go_at_call 169;exact HIS.out _))
    go_wp2_with fail;go_meet
    case rel=>exact⟨by rw [HGO.out],Zh ⟨nq,rfl⟩⟩
   by_cases hg:gr < 900
   case neg=>
    have hgb:decide ((gr:Int) < 900)=false:=decide_eq_false (by omega);have hgc:decide (gr < 900)=false:=decide_eq_false hg;have HGO:=Zh (show goB s ⟨a1,gr,mn,false,rf.2⟩=false by unfold goB;simp [hg]);clear hg
    go_quiet ((go_at_call 169;exact HIS.out _))
    go_wp2_with fail;go_meet
    case rel=>exact⟨by rw [HGO.out],Zh ⟨nq,rfl⟩⟩
   have hgb:decide ((gr:Int) < 900)=true:=decide_eq_true (by omega);have hgc:decide (gr < 900)=true:=decide_eq_true hg;have HGO:=Zh (show goB s ⟨a1,gr,mn,false,rf.2⟩=true by unfold goB;simp [HIB.out,HLT.out,hg]);clear hg
   go_quiet ((go_at_call 169;exact HIS.out _))
   go_wp2_with fail;go_meet
   case rel=>exact⟨by rw [HGO.out],Zh ⟨nq,rfl⟩⟩
  case rest=>
   obtain⟨h34,HW⟩:=hcut;subst h34;obtain⟨x,hx0⟩:∃x,goB s ⟨a1,gr,mn,bd,rf.2⟩=x:=⟨_,rfl⟩;have HGO:=Zh hx0;rw [hx0];have hx:x=true→bd=false∧a1 < s.length∧gr < 900:=fun e=>by
    rw [e]at hx0;unfold goB at hx0;simp only [Bool.and_eq_true,Bool.not_eq_true',decide_eq_true_eq]at hx0;exact⟨hx0.1.1.1,hx0.1.1.2,hx0.2⟩
   clear hx0;obtain⟨nq,hnq⟩:=HW.out;have HRC:=Zh (show RwM w b s st0 bg wc (.slice ao l.length cap) l a1 gr mn rf bd by rw [hnq];exact HR.out.drewN nq);have HBD:=Zh (show rdBad wc b=rdBad wr b by rw [hnq];rfl);clear HW hnq HR;obtain⟨w0,hw0⟩:∃w0,w0=wc:=⟨_,rfl⟩;subst hw0;cases x
   case false=>
    clear hx;go_wp2_with fail;go_returns;exact⟨ao,l.length,cap,a1,gr,mn,rf,bd,rfl,HRC.out.own.tree,HRC.out.r,HRC.out.ge,HRC.out.le,HRC.out.g,HRC.out.m,HRC.out.k,HRC.out.go 0 _ (.stop _ _ _ HGO.out)⟩
   obtain⟨hbd,hlt,hg9⟩:=hx rfl;subst hbd;have HB1:=Zh (show rdBad wr b=1 by rw [← HBD.out];exact HRC.out.r.bad1);have HLT:=Zh hlt;have HG9:=Zh hg9;clear hx hlt hg9 HBD;obtain⟨ln,hln⟩:∃ln,l.length=ln:=⟨_,rfl⟩;have HLN:=Zh hln;rw [hln]at HRC ⊢;clear hln;have HPA:=Zh (fun(f g:Bool)=>refPart9 (refSlash (HIH.out (a1+2) (by have:=HRC.out.ge;have:=HST.out;omega)) HLS.out) f g w0 HRC.out.r HG9.out HRC.out.m HLT.out HLS.out);go_wp2_with fail;refine(HPA.out _ _).mono ?_;rintro e w5 ⟨nc,kid,a2,gr2,mn2,rf2,bd2,rfl,hn,ht,hr5,ha2,ha3,hg2,hm2,hx2,hk5,kd,hkd,hpart⟩;have HKD:=Zh hkd;have HPT:=Zh (show R9 s (.part (l.length==0) bg ⟨a1,gr,mn,false,rf.2⟩) (kcls kd) ⟨a2,gr2,mn2,bd2,rf2.2⟩ from by
    rw [show(l.length==0)=((ln:Int)==0) from by rw [HLN.out];cases ln <;> rfl];exact hpart)
   clear hkd hpart;have HN2:=Zh hn;have HA2:=Zh (show a1≤a2∧a2≤s.length∧mn2≤a2∧(bd2=false→a1 < a2) from⟨ha2,ha3,hm2,hx2⟩);have HG2:=Zh hg2;have HT5:=Zh ht;have HR5:=Zh hr5;have HK5:=Zh hk5;clear hn ht hr5 ha2 ha3 hg2 hm2 hx2 hk5 HPA;go_upto_region 5 with(refine wpList_store_row rfl 193 _ _ (by with_reducible rfl) _ nc rfl rfl 193 ndZ (Zae _ _) (by rw [HN2.out.size];exact Zbs) (by rw [HN2.out.size,Zbq.size]) HN2.out.one ?_);have hbN:=Zab w5 (.cells ndZ 193);have hkk:KeepT (fun j=>j=w5.heap.size) (w5.alloc (.cells ndZ 193)) ((w5.alloc (.cells ndZ 193)).setRow w5.heap.size nc):=⟨rfl,rfl,rfl,by simp,fun i hi hn=>setRow_other _ _ i nc (fun e=>hn e)⟩;have HWS:=Zh (show w.heap.size≤w0.heap.size∧w0.heap.size≤w5.heap.size from⟨HRC.out.k.size,HK5.out.size⟩);have HXX:=Zh (setRow_heap _ _ _ nc _ _ (Zae w5 (.cells ndZ 193)));have HRX:=Zh ((HR5.out.later hbN).kept hkk (fun e=>by have e':b=w5.heap.size:=e;have:=HWS.out;have:=HBL.out;omega));have HKX:=Zh ((HK5.out.then_below hbN).trans hkk (fun i hi e=>by have e':i=w5.heap.size:=e;have:=HWS.out;omega));have HTX:=Zh (((HT5.out.mono (S':=fun j=>j < w0.heap.size∨j=w5.heap.size) (fun j hj e=>by rcases e with e | e;exact e;omega)).later hbN).kept hkk (fun j e=> .inr e));clear hbN hkk HR5 HK5 HT5;change Code.wp _ _ _ _ ((w5.alloc (.cells ndZ 193)).setRow w5.heap.size nc);generalize (w5.alloc (.cells ndZ 193)).setRow w5.heap.size nc=wX at *;obtain⟨X,hX⟩:∃X,w5.heap.size=X:=⟨_,rfl⟩;rw [hX]at HXX HWS HTX ⊢;clear hX;have hkd:=HKD.out;have q0:wX.cell? ⟨X,0,none⟩=some (.int .i64 kd):=by rw [Lib.cell_of_heap HXX.out];exact hkd
   clear hkd;go_upto_region 6 with fail;obtain⟨e4,he4⟩:∃e4,(kd==4)=e4:=⟨_,rfl⟩;have HE4:=Zh (show(kcls kd==4)=e4 by rw [kcls4];exact he4);rw [he4];clear he4
   go_cut [58] from 44 to 59 (fun v wx=>(∃x:Bool,v= .bool x∧(x=true→¬(bd2=true∨kcls kd=4∨kcls kd=5))∧(x=false→(bd2=true∨kcls kd=4∨kcls kd=5)))∧wx=wX)
   case first=>
    have q5:=HRX.out.cB;cases bd2
    case true=>
     go_wp2_with fail;go_meet
     case rel=>exact⟨⟨false,rfl,fun h=>Bool.noConfusion h,fun _=> .inl (by first | rfl | trivial)⟩,rfl⟩
    by_cases h4:kd=4
    case pos=>
     have h4b:(kd==4)=true:=Zt h4;have h4c:(kd !=4)=false:=by rw [h4];rfl
     have HKC:=Zh (show false=true∨kcls kd=4∨kcls kd=5 from .inr (.inl (by rw [h4];rfl)));clear h4;go_wp2_with fail;go_meet
     case rel=>exact⟨⟨false,rfl,fun h=>Bool.noConfusion h,fun _=>by simpa using HKC.out⟩,rfl⟩
    have h4b:(kd==4)=false:=Zf h4;have h4c:(kd !=4)=true:=bne_iff_ne.2 h4
    by_cases h5:kd=5
    case pos=>
     have h5b:(kd==5)=true:=Zt h5;have h5c:(kd !=5)=false:=by rw [h5];rfl
     have HKC:=Zh (show false=true∨kcls kd=4∨kcls kd=5 from .inr (.inr (by rw [h5];rfl)));clear h5;go_wp2_with fail;go_meet
     case rel=>exact⟨⟨false,rfl,fun h=>Bool.noConfusion h,fun _=>by simpa using HKC.out⟩,rfl⟩
    have h5b:(kd==5)=false:=Zf h5;have h5c:(kd !=5)=true:=bne_iff_ne.2 h5;have HKC:=Zh (show¬(kcls kd=4∨kcls kd=5) from by unfold kcls;rw [if_neg h4,if_neg h5];omega);go_wp2_with fail;go_meet
    case rel=>exact⟨⟨true,rfl,fun _ e=>by rcases e with e | e;exact Bool.noConfusion e;exact HKC.out e,fun h=>Bool.noConfusion h⟩,rfl⟩
   case rest=>
    obtain⟨⟨x,rfl,hx,hxn⟩,hw⟩:=hcut;subst hw;clear q0;have HXB:=Zh hx;have HXN:=Zh hxn;clear hx hxn
    go_upto_if 58 with fail
    go_cut [] from 59 to 62 (fun wx=>Hid (OneM b s X (fun j=>j < w0.heap.size∨j=X) w0 a1 a2 gr2 rf2 (EndQ s (kcls kd) a2 mn2 bd2) wx))
    case first=>
     cases x
     case false=>
      go_wp2_with fail;go_meet
      case rel=>exact Zh ⟨nc,kid,a2,mn2,bd2,HXX.out,HN2.out,HTX.out,HRX.out,Nat.le_refl _,HA2.out.2.1,HA2.out.2.2.1,HA2.out.2.2.2,HKX.out.mono (fun _ _ e=> .inl e),.inl ⟨HXN.out (by first | rfl | trivial),rfl⟩⟩
     have HNK:=Zh (HXB.out (by first | rfl | trivial));have hb2f:bd2=false:=by
      cases hb:bd2 with
      | false=>rfl
      | true=>exact absurd (.inl hb) HNK.out
     have HAL:=Zh (HA2.out.2.2.2 hb2f);have HRX0:=Zh (show RdAt wc b s a2 gr2 mn2 rf2 false by rw [← hb2f];exact HRX.out);clear hb2f;have HTM:=Zh (refTimes (S:=fun j=>j < w0.heap.size∨j=X) nc kid wc HRX0.out HN2.out HTX.out (.inl (Nat.lt_of_lt_of_le HBL.out HWS.out.1)) (fun j e=>by have:=HWS.out;have:=Zaa HXX.out;rcases e with e | e <;> omega) HA2.out.2.1 HA2.out.2.2.1 HLS.out);have HSX:Hid ((Tryz.prog.info? 193).map (·.size)=some nc.size):=Zh (by rw [HN2.out.size];exact Zbs);go_wp2_with (refine wpList_load_row rfl 193 _ (by with_reducible rfl) X rfl 193 nc (0,0) _ HXX.out Tryz.underlying193 rfl HSX.out ?_);refine HTM.out.mono ?_;rintro e w7 ⟨nc3,kid3,a3,mn3,bd3,rfl,hn3,ht3,hr3,ha3,ha4,hm3,ht9,hk3⟩;have HX7:=Zh ((hk3.block _ (Zaa HXX.out) (fun e=>by have e':X=b:=e;have:=HWS.out;have:=HBL.out;omega)).trans HXX.out);have hkk:KeepT (fun j=>j=X) w7 (w7.setRow X nc3):=⟨rfl,rfl,rfl,by simp,fun i hi hn=>setRow_other _ _ i nc3 (fun e=>hn e)⟩;have HO:=Zh (show OneM b s X (fun j=>j < w0.heap.size∨j=X) w0 a1 a2 gr2 rf2 (EndQ s (kcls kd) a2 mn2 bd2) (w7.setRow X nc3) from⟨nc3,kid3,a3,mn3,bd3,setRow_heap _ _ _ nc3 _ _ HX7.out,hn3,ht3.kept hkk (fun j e=> .inr e),hr3.kept hkk (fun e=>by have e':b=X:=e;have:=HWS.out;have:=HBL.out;omega),ha3,ha4,hm3,fun _=>by have:=HAL.out;omega,((HKX.out.trans hk3 (fun _ _ e=>e)).mono (S':=fun j=>j=b∨j=X) (fun _ _ e=> .inl e)).trans hkk (fun _ _ e=> .inr e),.inr ⟨HNK.out,ht9⟩⟩);have HN3:=Zh hn3;have HSX3:Hid ((Tryz.prog.info? 193).map (·.size)=some nc3.size):=Zh (by rw [HN3.out.size];exact Zbs);have HSS:=Zh (show nc.size=nc3.size by rw [HN3.out.size,HN2.out.size]);clear hn3 ht3 hr3 ha3 ha4 hm3 ht9 hk3 hkk HTM;go_wp2_with (refine wpList_store_row rfl 193 _ _ (by with_reducible rfl) X nc3 rfl rfl 193 nc HX7.out HSX3.out HSS.out HN3.out.one ?_);simp only [Act.put];go_meet
     case rel=>exact HO
    case rest=>
     obtain⟨nc3,kid3,a3,mn3,bd3,hx3,hn3,ht3,hr3,ha3,ha4,hm3,hp3,hk3,hq3⟩:=hcut.out;have HQ3:=Zh hq3;clear hq3;have hXw:w0.heap.size≤X:=HWS.out.2;have HKZ:=Zh (hk3.mono (S':=fun j=>j=b) (fun i hi e=>by rcases e with e | e;exact e;omega));have HXZ:=Zh hx3;have HN3:=Zh hn3;have HTZ:=Zh ht3;have HRZ:=Zh hr3;have HAZ:=Zh (show a2≤a3∧a3≤s.length∧mn3≤a3∧(bd3=false→a1 < a3) from⟨ha3,ha4,hm3,hp3⟩);clear hx3 hn3 ht3 hr3 ha3 ha4 hm3 hp3 hk3 hXw hcut HXX HTX HRX HKX;have hbA:=Zab wc (.cells nc3 193);have HOW:=Zh ((HRC.out.own.kept HKZ.out (fun j e=>by have e':j=b:=e;have:=HBL.out;omega)).later hbA);have HRA:=Zh (HRZ.out.later hbA);have HKA:=Zh ((HRC.out.k.trans HKZ.out (fun _ _ e=>e)).then_below hbA);have HTA:=Zh ((HTZ.out.later hbA).mono (S':=fun j=>j < w.heap.size∨(Value.slice ao ln cap).ownBlock=some j) (fun j _ e=>by
      rcases e with e | e
      ·have:=HWS.out;exact .inl (by omega)
      ·exact .inl (HRC.out.own.row.lt j e).2))
     have HNA:=Zh (Zae wc (.cells nc3 193));have HBA:=Zh (show w.heap.size≤(wc.alloc (.cells nc3 193)).heap.size from HKA.out.size);have HLL:=Zh (show l.length≤1000000 by have:=HRC.out.n2;have:=HRC.out.le;have:=HLS.out;have:=HLN.out;omega);obtain⟨ie,z,hie,hz,hsz1,hby1,hzs⟩:=nod_parts;have HIE:=Zh (show Tryz.prog.info? 193=some ie∧ie.zero=some z∧ie.size=262 from⟨hie,hz,hsz1⟩);have HSX3:Hid ((Tryz.prog.info? 193).map (·.size)=some nc3.size):=Zh (by rw [HN3.out.size];exact Zbs);clear hie hz hsz1 hby1 hzs hbA
     go_wp2_with (first
      | (refine wpList_load_row rfl 193 _ (by with_reducible rfl) X rfl 193 nc3 (0,0) _ HXZ.out Tryz.underlying193 rfl HSX3.out ?_)
      | (refine Fil.wpList_row_one rfl 141 193 _ rfl nc3 rfl ie z Tryz.underlying141 HIE.out.1 HIE.out.2.1 (by rw [HN3.out.size,HIE.out.2.2]) (by rw [HIE.out.2.2];omega) (by rw [HIE.out.2.2];omega) ?_)
      | (at_builtin;refine wpList_append_nd rfl _ _ rfl rfl HOW.out HBA.out _ rfl nc3 kid3 _ HNA.out HN3.out HTA.out HLL.out ?_;rintro g cap2 w9 ho hgr hat hlt
         have HO9:=Zh ho;have HK9:=Zh (show KeepT (fun j=>(Value.slice ao ln cap).ownBlock=some j) (wc.alloc (.cells nc3 193)) w9 from Zdb hgr);clear ho hgr hat hlt))
     have hob:∀j,(Value.slice ao ln cap).ownBlock=some j→w.heap.size≤j:=fun j e=>(HRC.out.own.row.lt j e).1;have HR9:=Zh (HRA.out.kept HK9.out (fun e=>by have:=hob b e;have:=HBL.out;omega));have HKQ:=Zh (HKA.out.trans HK9.out (fun i hi e=>by have:=hob i e;omega));have HE9:=Zh (show∃l' a1 gr mn rf bd,RwM w b s st0 e4 w9 (.slice (some ⟨g,0,none⟩) (l.length+1) cap2) l' a1 gr mn rf bd from⟨l++[(nc3,kid3)],a3,gr2,mn3,rf2,bd3,HO9.out,HR9.out,HKQ.out,by have:=HRC.out.ge;have:=HA2.out.1;have:=HAZ.out.1;omega,HAZ.out.2.1,HG2.out,HAZ.out.2.2.1,fun e=>by
      have h1:=HAZ.out.2.2.2 e;have h2:=HRC.out.n1 rfl;rw [List.length_append]
      show l.length+1≤a3
      omega,by
      have h1:=HRC.out.n2;have h2:=HRC.out.n1 rfl;have h3:=HAZ.out.1;have h4:=HA2.out.1;rw [List.length_append]
      show l.length+1≤a3+1
      omega,fun k r hr=>by
      rw [show((l++[(nc3,kid3)]).length==0)=false from by rw [List.length_append];rfl,← HE4.out]at hr;refine HRC.out.go 0 r ?_;rcases HQ3.out with⟨h1,h2⟩ | ⟨h1,h2⟩
      ·simp only [Prod.mk.injEq]at h2
       obtain⟨rfl,rfl,rfl⟩:=h2;exact .step _ _ _ _ _ (kcls kd) k HGO.out HPT.out h1 hr
      ·exact .times _ _ _ ⟨a2,gr2,mn2,bd2,rf2.2⟩ _ (kcls kd) k (a3,mn3,bd3) HGO.out HPT.out h1 h2 hr⟩)
     clear hob;go_roundw
     case rel=>exact⟨e4,rfl,HE9⟩
     case measure=>
      rw [HPO.out,HB1.out,HR9.out.pos];have h1:=HAZ.out;have h2:=HLT.out;have h3:=HA2.out.1;cases bd3
      case true=>
       rw [HR9.out.bad0];omega
      case false=>
       rw [HR9.out.bad1];have:=h1.2.2.2 rfl;omega
theorem refRow {b:Nat}{s:List UInt8}(hs:s.length≤100000):∀a,RowC b s a:=by
 have:∀m a,s.length - a≤m→RowC b s a:=by
  intro m
  induction m with
  | zero=>
    intro a hm;exact refRowStep (fun a' ha' w gr mn rf _ _ _ hle=>absurd hle (by omega)) hs
  | succ m ih=>
    intro a hm;exact refRowStep (fun a' ha'=>ih a' (by omega)) hs
 exact fun a=>this _ a (Nat.le_refl _)
open Go Go.Proofs Go.RowKit Go.Ink Go.Sort
def st9:Out9:=⟨0,0,0,false,fun _=>false⟩
def errOf (s:List UInt8)(o:Out9):Int:=if o.bd=true∨¬o.a=s.length∨9 < o.gr∨200 < o.mn then 90 else 0
def Err9 (s:List UInt8)(er:Int):Prop:=∃o,R9 s (.row true false st9) 0 o∧er=errOf s o
theorem Err9.det {s:List UInt8}{e e':Int}(h:Err9 s e)(h':Err9 s e'):e=e':=by
 obtain⟨o,h1,rfl⟩:=h;obtain⟨o',h2,rfl⟩:=h';rw [(h1.det h2).2]
def ReAt (w:World)(p:Option Addr):Prop:=∃g ao n cap,∃(gr mn:Int) (rf:Bool),p=some ⟨g,0,none⟩∧w.heap[g]? =some (.cells #[.slice ao n cap,.int .i64 gr,.int .i64 mn,.bool rf] 143 (0,0))∧Tree w (fun _=>False) (.slice ao n cap)
def P09E (w:World)(s:List UInt8)(e:Ending)(w':World):Prop:=∃(p:Option Addr) (er:Int),e= .returned (.tuple #[.pointer p,.int .i64 er])∧Err9 s er∧(er=0→ReAt w' p)∧Below w.heap.size w w'
theorem rdZ_eq:Tryz.zeroCells190=([Value.string ⟨#[]⟩,Value.int .i64 0,Value.int .i64 0,Value.int .i64 0]++List.replicate 1000 (Value.bool false)++[Value.bool false,Value.bool false]).toArray:=by kernel_rfl
theorem mid_at (A B:List Value)(n j:Nat)(v:Value)(hj:j < n):(A++List.replicate n v++B).toArray[A.length+j]? =some v:=by
 rw [List.getElem?_toArray,List.append_assoc,List.getElem?_append_right (by omega),Nat.add_sub_cancel_left,List.getElem?_append_left (by rw [List.length_replicate];exact hj),List.getElem?_replicate,if_pos hj]
theorem rdZ_at {w:World}{b:Nat}(s:List UInt8)(h:w.heap[b]? =some (.cells (Tryz.zeroCells190.setIfInBounds 0 (.string ⟨s.toArray⟩)) 190 (0,0))):RdAt w b s 0 0 0 (false,fun _=>false) false:=by
 have hz:Tryz.zeroCells190.size=1006:=by kernel_rfl
 refine⟨_,h,by simp [hz],by rw [Array.getElem?_setIfInBounds,if_pos rfl,if_pos (by omega)],?_,?_,?_,fun j hj=>?_,?_,?_⟩ <;> rw [Array.getElem?_setIfInBounds_ne (by omega)]
 ·kernel_rfl
 ·kernel_rfl
 ·kernel_rfl
 ·rw [rdZ_eq]
  exact mid_at [Value.string ⟨#[]⟩,Value.int .i64 0,Value.int .i64 0,Value.int .i64 0] [Value.bool false,Value.bool false] 1000 j (Value.bool false) hj
 ·kernel_rfl
 ·kernel_rfl
theorem refParse9 (s:List UInt8)(w:World)(hs:s.length≤100000):
 Calls Tryz.prog 89 #[.string ⟨s.toArray⟩] w fun e w'=>P09E w s e w':=by
 have hsz:=size_mk s;have HLS:=Zh hs;go_enter Tryz.func89,Tryz.ntmps89;go_upto_region 2 with fail;generalize hwA:w.alloc _=wA;have hbA:Below w.heap.size w wA:=hwA▸Zab w _;have HRA:=Zh (rdZ_at (w:=wA) (b:=w.heap.size) s (hwA▸Zae w _));have HBA:=Zh hbA;have hasz:wA.heap.size=w.heap.size+1:=by rw [← hwA];simp
 have HSZ:=Zh hasz;clear hwA hbA hasz;have HRW:=Zh (refRow hs 0 wA 0 0 (false,fun _=>false) HRA.out (by omega) (Nat.le_refl _) (Nat.zero_le _));go_wp2_with fail;refine HRW.out.mono ?_;rintro e w2 ⟨ao,n,cap,a2,gr,mn,rf,bd,rfl,ht,hr,ha,ha2,hg,hm,hk,h9⟩;have HR:=Zh hr;have HT:=Zh (ht.mono (S':=fun j=>False) (fun _ _ e=>e.elim));have HB:=Zh (HBA.out.trans (hk.below (B:=w.heap.size) HBA.out.size (fun i e=>Nat.le_of_eq (Eq.symm e))));have H9:=Zh (show R9 s (.row true false st9) 0 ⟨a2,gr,mn,bd,rf.2⟩ from h9);have HNX:=Zh (show errOf s ⟨a2,gr,mn,bd,rf.2⟩=90→P09E w s (.returned (.tuple #[.pointer none,.int .i64 90])) w2 from fun h=>⟨none,90,rfl,⟨_,H9.out,h.symm⟩,fun e=>(by cases e),HB.out⟩);have HLE:=Zh (show a2≤s.length∧gr≤900∧mn≤a2 from⟨ha2,hg,hm⟩);have q1:=hr.c1;have q2:=hr.c2;have q3:=hr.c3;have q5:=hr.cB;clear ht hr ha ha2 hg hm hk h9 HRW HRA;cases bd
 case true=>
  have HNO:=Zh (HNX.out (by unfold errOf;rw [if_pos (.inl rfl)]));go_wp2_with fail;go_returns;exact HNO.out
 by_cases hl:(a2:Int)=(s.length:Int)
 case neg=>
  have hlb:((a2:Int)==(s.length:Int))=false:=Zf hl;have hlc:((a2:Int) !=(s.length:Int))=true:=bne_iff_ne.2 hl;have HNO:=Zh (HNX.out (by unfold errOf;rw [if_pos (.inr (.inl (by show¬a2=s.length;omega)))]));go_wp2_with fail;go_returns;exact HNO.out
 have hlb:((a2:Int)==(s.length:Int))=true:=Zt hl;have hlc:((a2:Int) !=(s.length:Int))=false:=by rw [hl];simp
 by_cases h9:9 < (gr:Int)
 case pos=>
  have HNO:=Zh (HNX.out (by unfold errOf;rw [if_pos (.inr (.inr (.inl (by show 9 < gr;omega))))]));clear hl;go_wp2_with fail;go_returns;exact HNO.out
 by_cases h200:200 < (mn:Int)
 case pos=>
  have HNO:=Zh (HNX.out (by unfold errOf;rw [if_pos (.inr (.inr (.inr (by show 200 < mn;omega))))]));clear hl;go_wp2_with fail;go_returns;exact HNO.out
 have HE0:=Zh (show errOf s ⟨a2,gr,mn,false,rf.2⟩=0 from by
  unfold errOf;rw [if_neg];rintro(e | e | e | e)
  ·cases e
  ·exact e (by show a2=s.length;omega)
  ·exact absurd e (by show¬9 < gr;omega)
  ·exact absurd e (by show¬200 < mn;omega))
 have hbX:=Zab w2.drew (.cells #[.slice ao n cap,.int .i64 (gr:Int),.int .i64 (mn:Int),.bool rf.1] 143)
 have HFIN:=Zh (show P09E w s (.returned (.tuple #[.pointer (some ⟨w2.heap.size,0,none⟩),.int .i64 0])) (w2.drew.alloc (.cells #[.slice ao n cap,.int .i64 (gr:Int),.int .i64 (mn:Int),.bool rf.1] 143)) from
  ⟨_,0,rfl,⟨_,H9.out,HE0.out.symm⟩,fun _=>⟨w2.heap.size,ao,n,cap,gr,mn,rf.1,rfl,Zae w2.drew _,(HT.out.kept (S:=fun _=>False) (Z:=fun _=>False) (w':=w2.drew) ((KeepT.refl _ _).drew) (fun _ h=>h)).later hbX⟩,(HB.out.drew).trans (hbX.mono HB.out.size)⟩)
 have HS:=Zh (show w2.drew.cell? ⟨w.heap.size,2,none⟩=some (.int .i64 (gr:Int))∧w2.drew.cell? ⟨w.heap.size,3,none⟩=some (.int .i64 (mn:Int))∧w2.drew.cell? ⟨w.heap.size,1004,none⟩=some (.bool rf.1) from⟨HR.out.c2,HR.out.c3,HR.out.cF⟩);clear hl hbX;go_upto_region 5 with fail;clear q1 q2 q3 q5;refine wp_region_noPanic ?_;refine wp_region_any (by kernel_rfl) ?_;change wpAny _ _ _ _ _ _ _ w2.drew;refine Zba 14 14 (Array.replicate 17 false) (fun X=>X.cell? ⟨w.heap.size,2,none⟩=some (.int .i64 (gr:Int))∧X.cell? ⟨w.heap.size,3,none⟩=some (.int .i64 (mn:Int))∧X.cell? ⟨w.heap.size,1004,none⟩=some (.bool rf.1)) (by kernel_rfl) HS.out (fun hHeld=>?_);simp only [List.take_succ_cons,List.take_zero,List.drop_succ_cons,List.drop_zero];refine Zad (i:=0) (v:=?_) rfl (by kernel_rfl) (by kernel_rfl) (by kernel_rfl) (fun _ _ _ h=>h) (.inl ⟨by rfl,?_⟩) (by assumption) ?_;rotate_left
 ·intro w hSw
  (try dsimp only at hSw)
  go_simp
  (try with_reducible rfl)
 (try simp only [Act.put,Zs1,Zs2,Zs3])
 refine Zad (i:=1) (v:=?_) rfl (by kernel_rfl) (by kernel_rfl) (by kernel_rfl) (fun _ _ _ h=>h) (.inl ⟨by rfl,?_⟩) (by assumption) ?_;rotate_left
 ·intro w hSw
  (try dsimp only at hSw)
  go_simp
  (try with_reducible rfl)
 (try simp only [Act.put,Zs1,Zs2,Zs3])
 refine Zad (i:=2) (v:=?_) rfl (by kernel_rfl) (by kernel_rfl) (by kernel_rfl) (fun _ _ _ h=>h) (.inl ⟨by rfl,?_⟩) (by assumption) ?_;rotate_left
 ·intro w hSw
  (try dsimp only at hSw)
  go_simp
  (try with_reducible rfl)
 (try simp only [Act.put,Zs1,Zs2,Zs3])
 refine Zad (i:=3) (v:=?_) rfl (by kernel_rfl) (by kernel_rfl) (by kernel_rfl) (fun _ _ _ h=>h) (.inl ⟨by rfl,?_⟩) (by assumption) ?_;rotate_left
 ·intro w hSw
  (try dsimp only at hSw)
  go_simp
  (try with_reducible rfl)
 (try simp only [Act.put,Zs1,Zs2,Zs3])
 refine Zad (i:=4) (v:=?_) rfl (by kernel_rfl) (by kernel_rfl) (by kernel_rfl) (fun _ _ _ h=>h) (.inl ⟨by rfl,?_⟩) (by assumption) ?_;rotate_left
 ·intro w hSw
  (try dsimp only at hSw)
  go_simp
  (try with_reducible rfl)
 (try simp only [Act.put,Zs1,Zs2,Zs3])
 refine Zad (i:=5) (v:=?_) rfl (by kernel_rfl) (by kernel_rfl) (by kernel_rfl) (fun _ _ _ h=>h) (.inl ⟨by rfl,?_⟩) (by assumption) ?_;rotate_left
 ·intro w hSw
  (try dsimp only at hSw)
  go_simp
  (try with_reducible rfl)
 (try simp only [Act.put,Zs1,Zs2,Zs3])
 refine Zad (i:=6) (v:=?_) rfl (by kernel_rfl) (by kernel_rfl) (by kernel_rfl) (fun _ _ _ h=>h) (.inl ⟨by rfl,?_⟩) (by assumption) ?_;rotate_left
 ·intro w hSw
  (try dsimp only at hSw)
  go_simp
  (try with_reducible rfl)
 (try simp only [Act.put,Zs1,Zs2,Zs3])
 refine Zad (i:=7) (v:=?_) rfl (by kernel_rfl) (by kernel_rfl) (by kernel_rfl) (fun _ _ _ h=>h) (.inl ⟨by rfl,?_⟩) (by assumption) ?_;rotate_left
 ·intro w hSw
  (try dsimp only at hSw)
  go_simp
  (try with_reducible rfl)
 (try simp only [Act.put,Zs1,Zs2,Zs3])
 refine Zad (i:=8) (v:=?_) rfl (by kernel_rfl) (by kernel_rfl) (by kernel_rfl) (fun _ _ _ h=>h) (.inl ⟨by rfl,?_⟩) (by assumption) ?_;rotate_left
 ·intro w hSw
  (try dsimp only at hSw)
  go_simp
  (try with_reducible rfl)
 (try simp only [Act.put,Zs1,Zs2,Zs3])
 refine Zad (i:=9) (v:=?_) rfl (by kernel_rfl) (by kernel_rfl) (by kernel_rfl) (fun _ _ _ h=>h) (.inl ⟨by rfl,?_⟩) (by assumption) ?_;rotate_left
 ·intro w hSw
  (try dsimp only at hSw)
  go_simp
  (try with_reducible rfl)
 (try simp only [Act.put,Zs1,Zs2,Zs3])
 refine Zad (i:=10) (v:=?_) rfl (by kernel_rfl) (by kernel_rfl) (by kernel_rfl) (fun _ _ _ h=>h) (.inl ⟨by rfl,?_⟩) (by assumption) ?_;rotate_left
 ·intro w hSw
  (try dsimp only at hSw)
  go_simp
  (try with_reducible rfl)
 (try simp only [Act.put,Zs1,Zs2,Zs3])
 refine Zad (i:=11) (v:=?_) rfl (by kernel_rfl) (by kernel_rfl) (by kernel_rfl) (fun _ _ _ h=>h) (.inl ⟨by rfl,?_⟩) (by assumption) ?_;rotate_left
 ·intro w hSw
  (try dsimp only at hSw)
  go_simp
  (try with_reducible rfl)
 (try simp only [Act.put,Zs1,Zs2,Zs3])
 refine Zad (i:=12) (v:=?_) rfl (by kernel_rfl) (by kernel_rfl) (by kernel_rfl) (fun _ _ _ h=>h) (.inl ⟨by rfl,?_⟩) (by assumption) ?_;rotate_left
 ·intro w hSw
  (try dsimp only at hSw)
  go_simp
  (try with_reducible rfl)
 (try simp only [Act.put,Zs1,Zs2,Zs3])
 refine Zad (i:=13) (v:=_) rfl (by kernel_rfl) (by kernel_rfl) (by kernel_rfl) (fun _ _ _ h=>h) (Fil.yieldsIf_build (by rfl) 143 _ rfl [(0,.slice ao n cap),(1,.int .i64 (gr:Int)),(2,.int .i64 (mn:Int)),(3,.bool rf.1)] (by kernel_rfl) #[.slice ao n cap,.int .i64 (gr:Int),.int .i64 (mn:Int),.bool rf.1] (by kernel_rfl)) (by assumption) ?_
 (try simp only [Act.put,Zs1,Zs2,Zs3])
 refine wpAnyH_done (by kernel_rfl) ?_ _;change wpList _ _ _ _ _ _;go_wp2_with fail;refine NoPanic.normal ?_;go_wp2_with fail;go_returns;exact HFIN.out
end Go.Proofs.YtndjgbehbgcpkaaGreatDoor
