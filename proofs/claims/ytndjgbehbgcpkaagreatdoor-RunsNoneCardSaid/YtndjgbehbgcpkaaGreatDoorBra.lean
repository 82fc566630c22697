/- The program's reader of patterns: a row of parts. -/
import Derived.Test.YtndjgbehbgcpkaaGreatDoorBr8
import Derived.Recover
import Derived.Defers
import Derived.Test.YtndjgbehbgcpkaaGreatDoorCa5
import Derived.Test.YtndjgbehbgcpkaaGreatDoorBr0
set_option linter.unusedVariables false
set_option linter.unusedSimpArgs false
set_option maxRecDepth 100000
set_option maxHeartbeats 4000000
namespace Go.Proofs.YtndjgbehbgcpkaaGreatDoor
open Go Go.Proofs Go.RowKit Go.Ink Go.Sort
theorem TreeOf.newRow {w:World}{S:Nat→Prop}{v:Value}{l:List Nd}(h:TreeOf w S v l){o:Obj}(nc:Array Value):TreeOf ((w.alloc o).setRow w.heap.size nc) (fun j=>S j∨j=w.heap.size) v l:=
 ((h.mono (S':=fun j=>S j∨j=w.heap.size) (fun j hj e=>by rcases e with e | e;exact e;omega)).later (Zab w o)).kept (Zaw nc) (fun j e=> .inl (.inr e))
def OldRows (n:Nat)(v:Value):Prop:=∀g,v.ownBlock=some g→g < n
theorem NdsOwn.oldRows {w:World}{B:Nat}{v:Value}{L:List (Array Value×Nd×Value)}(h:NdsOwn w B v L):OldRows w.heap.size v:=fun g hg=>(h.row.lt g hg).2
theorem OnR.nds {w0 w1 w2:World}{b B m:Nat}{p p1:Ps}{v:Value}{L:List (Array Value×Nd×Value)}(h:OnR w0 w1 b B m p p1)(hn:NdsOwn w1 w0.heap.size v L)(hk:KeepT (fun j=>v.ownBlock=some j) w1 w2):OnR w0 w2 b B m p p1:=by
 have hz:∀j,v.ownBlock=some j→w0.heap.size≤j∧∃cs fr,w1.heap[j]? =some (.cells cs 242 fr):=by
  intro j hj;rcases hn.row.2 with⟨rfl,_⟩ | ⟨g,cap,cur,rfl,hb2,hh,_⟩
  ·cases hj
  ·simp only [Value.ownBlock,Option.some.injEq]at hj
   subst hj;exact⟨hb2,_,_,hh⟩
 exact⟨h.at_.kept hk (fun e=>Zax h.at_ (hz b e).2 rfl),h.own.kept hk (fun g hg e=>Zcu h.own (hz g e).2 hg),h.gr,h.pt,h.opn,h.keep.trans hk (fun i hi e=>by have:=(hz i e).1;omega),h.mx.kept hk (fun e=>by have h1:=(hz _ e).1;have h2:=h.lo;omega),h.lo⟩
def RowSome (w wr:World)(b B m:Nat)(p:Ps)(lv:Value):Prop:=∃L p1,NdsOwn wr w.heap.size lv L∧OnR w wr b B m p p1∧L.length+p1.left.length≤p.left.length
def OneSome (wr wx:World)(b B m:Nat)(p1:Ps)(l:List UInt8)(g:Nat):Prop:=∃nc x kid p2,wx.heap[g]? =some (.cells nc 242 (0,0))∧NdG nc x kid∧NdOk x∧TreeOf wx (fun j=>j < wr.heap.size∨j=g) kid x.kids∧OnR wr wx b B m p1 p2∧p2.left.length≤l.length∧wr.heap.size≤g
theorem breRowAt (HC:ClsP)(b B N:Nat)(HR:∀n,n < N→RowsTo b B n):RowsTo b B N:=by
 intro p m w hp hm hB h;have HH:=Zh h;have HRR:=Zh HR;have HPL:=Zh hp;have HML:=Zh hm;have HBW:=Zh hB;have HCP:=Zh HC;clear h HR hp hm hB HC;go_enter Tryz.func149,Tryz.ntmps149;go_wp2_with fail
 go_loopw [3,4,5] (fun lv _ _ wr=>Hid (RowSome w wr b B m p lv)) (fun _ _ _ wr=>leftOf wr b)
 case atStart=>exact Zh (show RowSome w w b B m p (.slice none 0 0) from⟨[],p,NdsOwn.nil _ _,HH.out,by simp⟩)
 case round=>
  obtain⟨L,p1,hn,ho,hle⟩:=hrel.out;obtain⟨ao,cap,rfl⟩:=hn.shape;have HN:=Zh hn;have HO:=Zh ho;have HLT:=Zh hle;have HLE:=Zh (show p1.left.length≤p.left.length by omega);have HLN:=Zh (show p1.left.length≤N by have:=HPL.out;omega);have HLF:=Zh ho.at_.leftOf;have c0:=ho.at_.c0;have hLm:L.length≤100000:=by have:=HML.out;omega
  clear hn ho hle hrel;cases hl:p1.left
  case nil=>
   rw [hl]at c0;go_wp2_with fail;go_returns;exact .inr ⟨.slice ao L.length cap,L.map (·.2.1),p1,rfl,HN.out.tree,fun y hy=>by
    obtain⟨z,hz,rfl⟩:=List.mem_map.1 hy;exact(HN.out.ok z hz).2.1,HO.out,HLE.out⟩
  case cons c l=>
  rw [hl]at c0;have HLL:=Zh (show p1.left.length=l.length+1 by rw [hl];rfl);have hne:((c::l) !=[])=true:=by rw [bne_iff_ne];exact List.cons_ne_nil _ _
  have hne2:((c::l)==[])=false:=rfl;have HHP:=Zh (strHas (c::l) [92,41] wr);cases hv:hasP (c::l) [92,41]
  case true=>
   rw [hv]at HHP;clear hv;go_wp2_with fail;refine HHP.out.mono ?_;rintro e w1 ⟨rfl,rfl⟩;clear HHP;go_wp2_with fail;go_returns;exact .inr ⟨.slice ao L.length cap,L.map (·.2.1),p1,rfl,HN.out.tree,fun y hy=>by
    obtain⟨z,hz,rfl⟩:=List.mem_map.1 hy;exact(HN.out.ok z hz).2.1,HO.out,HLE.out⟩
  rw [hv]at HHP;clear hv;go_wp2_with fail;refine HHP.out.mono ?_;rintro e wr ⟨rfl,rfl⟩;clear HHP c0;go_upto_region 4 with fail
  go_cut [5] from 21 to 36 (fun bv wx=>∃g,bv= .pointer (some ⟨g,0,none⟩)∧Hid (OneSome wr wx b B m p1 l g))
  case first=>
   by_cases hL:L=[]
   case pos=>
    have hj0b:((L.length:Int)==0)=true:=by rw [hL];rfl
    have hj1:¬(0:Int) < (L.length:Int):=by rw [hL];decide
    clear hL;have HPT:=Zh (brePart HCP.out b B (N - 1) (HRR.out (N - 1) (by have h1:=HLN.out;have h2:=HLL.out;omega)) p1 m wr true false c l hl (by have h1:=HLN.out;have h2:=HLL.out;omega) (by have h1:=HML.out;have h2:=HLE.out;omega) (Nat.le_trans HBW.out HO.out.lt) HO.out.re);go_wp2_with fail;refine HPT.out.mono ?_;clear HPT;rintro e w2 (⟨rfl,hk⟩ | ⟨nc,x,kid,p2,rfl,hns,hi,hok,htr,hon,hle2⟩)
    ·unfold died
     go_wp2_with fail;exact⟨rfl,.inl ⟨rfl,HO.out.died_of hk⟩⟩
    have HG:=Zh (show NdG nc x kid from⟨hns,hi,hi.one hns htr.one⟩);have hb2:=Zab w2 (.cells Tryz.zeroCells242 242);have HX2:=Zh (show(w2.alloc (.cells Tryz.zeroCells242 242)).heap[w2.heap.size]? =some (.cells bndZ 242 (0,0)) from Zae w2 _);have HQ:=Zh (show OneSome wr ((w2.alloc (.cells Tryz.zeroCells242 242)).setRow w2.heap.size nc) b B m p1 l w2.heap.size from⟨nc,x,kid,p2,setRow_heap _ _ _ _ _ _ HX2.out,HG.out,hok,TreeOf.newRow htr nc,(hon.later hb2).row (Zaw (r:=w2.heap.size) nc) hon.lt ⟨_,_,HX2.out⟩,hle2,hon.lt⟩);clear hns hi hok htr hon hle2 hb2;go_wp2_with (refine wpList_store_row rfl 242 _ _ (by with_reducible rfl) w2.heap.size nc rfl rfl 242 bndZ HX2.out (Zar HG.out.size) (by rw [Zap,HG.out.size]) HG.out.one ?_);simp only [Act.put];go_meet
    case rel=>exact⟨w2.heap.size,rfl,HQ⟩
   case neg=>
    have hj:0 < L.length:=List.length_pos_iff.2 hL;obtain⟨z,hz⟩:∃z,L[L.length - 1]? =some z:=⟨_,Zg (by omega)⟩;obtain⟨gl,cp,hv2,hkc⟩:=HN.out.kindAt hz;simp only [Value.slice.injEq]at hv2;obtain⟨ha1,-,ha2⟩:=hv2;have hj0:¬(L.length:Int)=0:=by omega
    have hj1:(0:Int) < (L.length:Int):=by omega
    have hj3:(L.length:Int) - 1 < (L.length:Int):=by omega
    have hj4:(0:Int)≤(L.length:Int) - 1:=by omega
    have hj0b:((L.length:Int)==0)=false:=Zf hj0;obtain⟨bg,hbg⟩:∃bg,(z.2.1.k==4)=bg:=⟨_,rfl⟩;clear hL hz hj;subst ha1;subst ha2;have HPT:=Zh (brePart HCP.out b B (N - 1) (HRR.out (N - 1) (by have h1:=HLN.out;have h2:=HLL.out;omega)) p1 m wr false bg c l hl (by have h1:=HLN.out;have h2:=HLL.out;omega) (by have h1:=HML.out;have h2:=HLE.out;omega) (Nat.le_trans HBW.out HO.out.lt) HO.out.re);go_wp2_with fail;refine HPT.out.mono ?_;clear HPT;rintro e w2 (⟨rfl,hk⟩ | ⟨nc,x,kid,p2,rfl,hns,hi,hok,htr,hon,hle2⟩)
    ·unfold died
     go_wp2_with fail;exact⟨rfl,.inl ⟨rfl,HO.out.died_of hk⟩⟩
    have HG:=Zh (show NdG nc x kid from⟨hns,hi,hi.one hns htr.one⟩);have hb2:=Zab w2 (.cells Tryz.zeroCells242 242);have HX2:=Zh (show(w2.alloc (.cells Tryz.zeroCells242 242)).heap[w2.heap.size]? =some (.cells bndZ 242 (0,0)) from Zae w2 _);have HQ:=Zh (show OneSome wr ((w2.alloc (.cells Tryz.zeroCells242 242)).setRow w2.heap.size nc) b B m p1 l w2.heap.size from⟨nc,x,kid,p2,setRow_heap _ _ _ _ _ _ HX2.out,HG.out,hok,TreeOf.newRow htr nc,(hon.later hb2).row (Zaw (r:=w2.heap.size) nc) hon.lt ⟨_,_,HX2.out⟩,hle2,hon.lt⟩);clear hns hi hok htr hon hle2 hb2;go_wp2_with (refine wpList_store_row rfl 242 _ _ (by with_reducible rfl) w2.heap.size nc rfl rfl 242 bndZ HX2.out (Zar HG.out.size) (by rw [Zap,HG.out.size]) HG.out.one ?_);simp only [Act.put];go_meet
    case rel=>exact⟨w2.heap.size,rfl,HQ⟩
  case rest=>
   obtain⟨g,rfl,HX⟩:=hcut;obtain⟨nc,x,kid,p2,hx,hg,hok,htr,hon,hle2,hge⟩:=HX.out;have HX2:=Zh hx;have HG:=Zh hg;have HK:=Zh hok;have HT:=Zh htr;have H2:=Zh hon;have HL2:=Zh hle2;have HGE:=Zh hge;have q0:wc.cell? ⟨g,0,none⟩=some (.int .i64 x.k):=by rw [Lib.cell_of_heap hx];simpa using hg.is.k
   clear hx hg hok htr hon hle2 hge
   go_upto_block 2 with fail
   go_cut [41] from 38 to 44 (fun _ wx=>Hid (OneSome wr wx b B m p1 l g))
   case first=>
    by_cases h4:x.k=4
    case pos=>
     go_wp2_with fail;go_meet
     case rel=>exact HX
    have h4b:(x.k==4)=false:=Zf h4;clear h4
    by_cases h5:x.k=5
    case pos=>
     go_wp2_with fail;go_meet
     case rel=>exact HX
    have h5b:(x.k==5)=false:=Zf h5;clear h5;have HTM:=Zh (breTimes p2 b B m (fun j=>j < wr.heap.size∨j=g) nc x kid wc H2.out.re HG.out HK.out HT.out (fun j e=>by have h1:=Zaa HX2.out;have h2:=HGE.out;rcases e with e | e <;> omega) (by have h1:=HL2.out;have h2:=HLL.out;have h3:=HLE.out;have h4:=HML.out;omega));go_wp2_with (refine wpList_load_row rfl 242 _ (by with_reducible rfl) g rfl 242 nc (0,0) _ HX2.out Tryz.underlying242 rfl (Zar HG.out.size) ?_);refine HTM.out.mono ?_;clear HTM;rintro e w5 (⟨rfl,hk⟩ | ⟨nc5,x5,kid5,p5,rfl,hg5,hok5,htr5,hon5,hle5⟩)
    ·unfold died
     go_wp2_with fail;exact⟨rfl,.inl ⟨rfl,(HO.out.trans H2.out).died_of hk⟩⟩
    have HG5:=Zh hg5;have HX5:=Zh ((hon5.keep.block _ (Zaa HX2.out) (fun e=>by
     rcases e with e | e
     ·exact Zax H2.out.at_ ⟨_,_,HX2.out⟩ e.symm
     ·exact Zcu H2.out.own ⟨_,_,HX2.out⟩ e)).trans HX2.out)
    have HQ:=Zh (show OneSome wr (w5.setRow g nc5) b B m p1 l g from⟨nc5,x5,kid5,p5,setRow_heap _ _ _ _ _ _ HX5.out,hg5,hok5,htr5.kept (Zaw nc5) (fun j e=> .inl (.inr e)),(H2.out.trans hon5).row (Zaw nc5) HGE.out ⟨_,_,HX5.out⟩,by have h1:=HL2.out;omega,HGE.out⟩);clear hg5 hok5 htr5 hon5 hle5;go_wp2_with (refine wpList_store_row rfl 242 _ _ (by with_reducible rfl) g nc5 rfl rfl 242 nc HX5.out (Zar HG5.out.size) (by rw [HG.out.size,HG5.out.size]) HG5.out.one ?_);simp only [Act.put];go_meet
    case rel=>exact HQ
   case rest=>
    clear HX HX2 HG HK HT H2 HL2 q0;obtain⟨nc,x,kid,p2,hx,hg,hok,htr,hon,hle2,hge2⟩:=hcut.out;have HX2:=Zh hx;have HG:=Zh hg;have HK:=Zh hok;have HL2:=Zh hle2;have H2:=Zh (HO.out.trans hon);have HND:=Zh (show NdsOwn wc w.heap.size (.slice ao L.length cap) L from HN.out.kept hon.keep (fun j e=> .inr (fun cs fr hh=>by
     rcases e with rfl | e
     ·exact HO.out.at_.noNode cs fr hh
     ·exact HO.out.own.noNode j e cs fr hh)))
    have HT:=Zh (show TreeOf wc (fun j=>j < w.heap.size∨(Value.slice ao L.length cap).ownBlock=some j) kid x.kids from htr.mono (fun j _ e=>by
     rcases e with e | e
     ·exact .inl (Nat.lt_of_lt_of_le e HO.out.lt)
     ·exact .inl (HN.out.oldRows j e)))
    have hbA:=Zab wc (.cells nc 242);have HN6:=Zh (HND.out.later hbA);have HT6:=Zh (HT.out.later hbA);have H6:=Zh (H2.out.later hbA);have HX6:=Zh (show(wc.alloc (.cells nc 242)).heap[wc.heap.size]? =some (.cells nc 242 (0,0)) from Zae wc _);have HB6:=Zh (show w.heap.size≤(wc.alloc (.cells nc 242)).heap.size from Nat.le_trans H2.out.lt hbA.size);have HLM:=Zh (show L.length≤1000000 by omega);obtain⟨ie,z0,hie,hz,hsz1,hby1,hzs⟩:=bnd_parts;have HIE:=Zh (show Tryz.prog.info? 242=some ie∧ie.zero=some z0∧ie.size=262 from⟨hie,hz,hsz1⟩);clear hie hz hsz1 hby1 hzs hx hg hok htr hon hle2 hge2 hbA hcut
    go_wp2_with (first
     | (refine wpList_load_row rfl 242 _ (by with_reducible rfl) g rfl 242 nc (0,0) _ HX2.out Tryz.underlying242 rfl (Zar HG.out.size) ?_)
     | (refine Fil.wpList_row_one rfl 209 242 _ rfl nc rfl ie z0 Tryz.underlying209 HIE.out.1 HIE.out.2.1 (by rw [HG.out.size,HIE.out.2.2]) (by rw [HIE.out.2.2];omega) (by rw [HIE.out.2.2];omega) ?_)
     | (at_builtin
        refine wpList_append_node (B:=w.heap.size) (L:=L) rfl _ _ rfl rfl HN6.out HB6.out wc.heap.size rfl nc x kid 242 HX6.out HG.out HK.out HT6.out HLM.out ?_;rintro g1 cap1 w7 ho hgr hat hlt;have HQ:=Zh (show RowSome w w7 b B m p (.slice (some ⟨g1,0,none⟩) (L.length+1) cap1) from⟨L++[(nc,x,kid)],p2,ho,H6.out.nds HN6.out (Zcw hgr),by rw [List.length_append,List.length_singleton];have h1:=HL2.out;have h2:=HLL.out;have h3:=HLT.out;omega⟩);have HLW:=Zh (show leftOf w7 b=p2.left.length from(H6.out.nds HN6.out (Zcw hgr)).at_.leftOf);clear ho hgr hat hlt))
    (try simp only [Act.put])
    go_roundw
    case rel=>exact HQ
    case measure=>
     rw [HLW.out,HLF.out];have h1:=HL2.out;have h2:=HLL.out;omega
open Go Go.Proofs Go.RowKit Go.Ink Go.Sort
theorem breRows (HC:ClsP)(b B:Nat):∀N,RowsTo b B N:=by
 intro N
 induction N using Nat.strongRecOn with
 | _ N ih=>exact breRowAt HC b B N ih
theorem catchIdle (a1 a2:Addr)(w:World):
 CallsD Tryz.prog 148 #[.pointer (some a1),.pointer (some a2)] .returning w fun e u' w'=>e= .returned (.tuple #[])∧u'= .returning∧w'=w:=by
 refine callsD_of_wpS Tryz.func148 rfl fun c₀ cs hu=>?_;simp only [Tryz.ntmps148,List.size_toArray,List.length_cons,List.length_nil,Nat.reduceAdd,Nat.reduceSub,Array.replicate_succ,Array.replicate_zero,List.push_toArray,List.append_toArray,List.nil_append,List.cons_append];refine wpS_seq (wpS_region ?_);have hr:recoverD (c₀::cs)=none:=by simp [recoverD,hu]
 simp [wpOpsS,List.range_succ,Region.wanted,go_sem,hr,Exit.thenS,Act.put];refine wpS_of_wp ?_;go_wp2_with fail;refine⟨rfl,.returning,?_,.tuple #[],results_none rfl _ _ _,rfl,rfl,rfl⟩;rw [← hu]
theorem catchDied (g1 g2:Nat)(v1 v2:Value)(w:World)(h1:w.heap[g1]? =some (.cells #[v1] 161 (0,0)))(h2:w.heap[g2]? =some (.cells #[v2] 36 (0,0)))(h12:g1≠g2):
 CallsD Tryz.prog 148 #[.pointer (some ⟨g1,0,none⟩),.pointer (some ⟨g2,0,none⟩)] (.panicking [{ v:= .iface 207 (.agg #[]),recovered:=false }]) w fun e u' w'=>e= .returned (.tuple #[])∧u'= .panicking [{ v:= .iface 207 (.agg #[]),recovered:=true }]∧w'=((w.alloc (.cells #[] 207)).setCell ⟨g1,0,none⟩ (.pointer none)).setCell ⟨g2,0,none⟩ (.int .i64 90):=by
 have hb:=Zab w (.cells #[] 207);have k1:=(hb.block _ (Zaa h1)).trans h1;have k2:=(hb.block _ (Zaa h2)).trans h2;have c1:(w.alloc (.cells #[] 207)).cell? ⟨g1,0,none⟩=some v1:=by rw [Lib.cell_of_heap k1];rfl
 have f1:(w.alloc (.cells #[] 207)).frozen? ⟨g1,0,none⟩=false:=Lib.frozen_of_heap k1 0;have k3:((w.alloc (.cells #[] 207)).setCell ⟨g1,0,none⟩ (.pointer none)).heap[g2]? =_:=(Below.heap_setCell _ _ _ _ (show g2≠g1 from fun e=>h12 e.symm)).trans k2;have c2:((w.alloc (.cells #[] 207)).setCell ⟨g1,0,none⟩ (.pointer none)).cell? ⟨g2,0,none⟩=some v2:=by rw [Lib.cell_of_heap k3];rfl
 have f2:((w.alloc (.cells #[] 207)).setCell ⟨g1,0,none⟩ (.pointer none)).frozen? ⟨g2,0,none⟩=false:=Lib.frozen_of_heap k3 0;clear hb k1 k2 k3;have hta:∀(xT:TypeId) (W:World),(Instr.typeAssert (.iface 207 (.agg #[])) xT 207 true).run Tryz.prog W= .ok (.tuple #[.agg #[],.bool true]) W:=fun xT W=>by
  simp [Instr.typeAssert,run_underlying Tryz.underlying207,go_sem,Result.andThen]
 refine callsD_of_wpS Tryz.func148 rfl fun c₀ cs hu=>?_;simp only [Tryz.ntmps148,List.size_toArray,List.length_cons,List.length_nil,Nat.reduceAdd,Nat.reduceSub,Array.replicate_succ,Array.replicate_zero,List.push_toArray,List.append_toArray,List.nil_append,List.cons_append];refine wpS_seq (wpS_region ?_);have hr:recoverD (c₀::cs)=some (.iface 207 (.agg #[]),{ c₀ with mode:= .panicking [{ v:= .iface 207 (.agg #[]),recovered:=true }] }::cs):=by simp [recoverD,hu]
 simp [wpOpsS,List.range_succ,Region.wanted,go_sem,hr,Exit.thenS,Act.put];refine wpS_of_wp ?_;go_wp2_with fail;refine⟨rfl,.panicking [{ v:= .iface 207 (.agg #[]),recovered:=true }],rfl,.tuple #[],results_none rfl _ _ _,rfl,rfl,rfl⟩
def ReAtb (w:World)(lo:Nat)(b:Nat)(l:List Nd):Prop:=∃p,PsAt w b p∧TreeOf w (fun j=>j < lo) p.tr l∧(∀y∈l,NdOk y)∧p.gr≤9
def ReE (w:World)(e:Ending)(w':World):Prop:=e= .returned (.tuple #[.pointer none,.int .i64 90])∨∃b l,e= .returned (.tuple #[.pointer (some ⟨b,1,none⟩),.int .i64 0])∧ReAtb w' w.heap.size b l∧w.heap.size≤b
theorem breParse (HC:ClsP)(s:List UInt8)(w:World)(hs:s.length≤100000)(hx:MaxW w):
 Calls Tryz.prog 101 #[.string ⟨s.toArray⟩] w fun e w'=>ReE w e w'∧Below w.heap.size w w':=by
 have hmf:∀(fn:Fn) (first cap:Array Value) (w:World),(Instr.makeFunc fn first cap).run Tryz.prog w= .ok (.func fn first cap) w:=fun _ _ _ _=>rfl;obtain⟨wA,hwA⟩:∃wA,((w.alloc (.cells #[.pointer none] 161)).alloc (.cells #[.int .i64 0] 36)).alloc (.cells (psC ⟨s,.slice none 0 0,0,0,false,.slice none 0 0⟩) 214)=wA:=⟨_,rfl⟩;have hb1:=Zab w (.cells #[.pointer none] 161);have hb2:=Zab (w.alloc (.cells #[.pointer none] 161)) (.cells #[.int .i64 0] 36);have hb3:=Zab ((w.alloc (.cells #[.pointer none] 161)).alloc (.cells #[.int .i64 0] 36)) (.cells (psC ⟨s,.slice none 0 0,0,0,false,.slice none 0 0⟩) 214);have h2:=heap_alloc2_old w (.cells #[.pointer none] 161) (.cells #[.int .i64 0] 36);have h3:=heap_alloc2_new w (.cells #[.pointer none] 161) (.cells #[.int .i64 0] 36);have HR2:=Zh (show wA.heap[w.heap.size]? =some (.cells #[.pointer none] 161 (0,0)) from hwA▸(hb3.block _ (Zaa h2)).trans h2);have HR3:=Zh (show wA.heap[w.heap.size+1]? =some (.cells #[.int .i64 0] 36 (0,0)) from hwA▸(hb3.block _ (Zaa h3)).trans h3);have hp:=Zae ((w.alloc (.cells #[.pointer none] 161)).alloc (.cells #[.int .i64 0] 36)) (.cells (psC ⟨s,.slice none 0 0,0,0,false,.slice none 0 0⟩) 214);have hsz2:((w.alloc (.cells #[.pointer none] 161)).alloc (.cells #[.int .i64 0] 36)).heap.size=w.heap.size+1+1:=by simp
 rw [hsz2]at hp;have HB:=Zh (show Below w.heap.size w wA from hwA▸hb1.trans ((hb2.mono hb1.size).trans (hb3.mono (by rw [hsz2];omega))));have H0:=Zh (show OnR wA wA (w.heap.size+1+1) w.heap.size 0 ⟨s,.slice none 0 0,0,0,false,.slice none 0 0⟩ ⟨s,.slice none 0 0,0,0,false,.slice none 0 0⟩ from OnR.refl (hwA▸hp) (Zbm.nil _ _) (by show 0≤9;omega) (by show 0≤200;omega) (hx.later HB.out) (by obtain⟨_,hx⟩:=hx;exact Zbt hx) (by have:=HB.out.size;omega));have HSA:=Zh (show w.heap.size+3≤wA.heap.size from by have:=Zaa (show wA.heap[w.heap.size+1+1]? =_ from hwA▸hp);omega);have HRW:=Zh (breRows HC (w.heap.size+1+1) w.heap.size s.length ⟨s,.slice none 0 0,0,0,false,.slice none 0 0⟩ 0 wA (Nat.le_refl _) (by show 0+s.length≤100000;omega) (by have:=HSA.out;omega) H0.out);clear hb1 hb2 hb3 h2 h3 hp hsz2
 go_enter_defers Tryz.func101,Tryz.ntmps101
 go_upto_region 3 with fail;change Code.wp _ _ _ _ (((w.alloc (.cells #[.pointer none] 161)).alloc (.cells #[.int .i64 0] 36)).alloc (.cells (psC ⟨s,.slice none 0 0,0,0,false,.slice none 0 0⟩) 214));rw [hwA];clear hwA;go_wp2_with fail;refine HRW.out.mono ?_;clear HRW;obtain⟨b,hb⟩:∃b,w.heap.size+1+1=b:=⟨_,rfl⟩;have HBB:=Zh (show w.heap.size+2=b from hb);rw [hb]at H0;rw [hb];clear hb;have HFAR:=Zh (fun(r:Nat) (hr:r=w.heap.size∨r=w.heap.size+1) (e:Tn b ⟨s,.slice none 0 0,0,0,false,.slice none 0 0⟩ r)=>(show False from by
  have h1:=HBB.out;rcases e with e | e
  ·omega
  ·cases e))
 have DIE:=Zh (fun(W:World) (hk:KeepT (Tn b ⟨s,.slice none 0 0,0,0,false,.slice none 0 0⟩) wA W)=>(show CallsD Tryz.prog 148 #[.pointer (some ⟨w.heap.size,0,none⟩),.pointer (some ⟨w.heap.size+1,0,none⟩)] (.panicking [{ v:= .iface 207 (.agg #[]),recovered:=false }]) W fun e u' w'=>e= .returned (.tuple #[])∧u'= .panicking [{ v:= .iface 207 (.agg #[]),recovered:=true }]∧w'.cell? ⟨w.heap.size,0,none⟩=some (.pointer none)∧w'.cell? ⟨w.heap.size+1,0,none⟩=some (.int .i64 90)∧Below w.heap.size w w' from by
  have k2:=(hk.block _ (Zaa HR2.out) (fun e=>HFAR.out _ (.inl rfl) e)).trans HR2.out;have k3:=(hk.block _ (Zaa HR3.out) (fun e=>HFAR.out _ (.inr rfl) e)).trans HR3.out;refine(catchDied w.heap.size (w.heap.size+1) _ _ W k2 k3 (by omega)).mono ?_;rintro e u' w'' ⟨rfl,rfl,rfl⟩;have hb:=Zab W (.cells #[] 207);have m2:=(hb.block _ (Zaa k2)).trans k2;have m3:=(hb.block _ (Zaa k3)).trans k3;have n2:=Zay (j:=0) m2 (.pointer none);have n3:=(Below.heap_setCell (W.alloc (.cells #[] 207)) ⟨w.heap.size,0,none⟩ (.pointer none) (w.heap.size+1) (show w.heap.size+1≠w.heap.size by omega)).trans m3;have o3:=Zay (j:=0) n3 (.int .i64 90);have o2:=(Below.heap_setCell ((W.alloc (.cells #[] 207)).setCell ⟨w.heap.size,0,none⟩ (.pointer none)) ⟨w.heap.size+1,0,none⟩ (.int .i64 90) w.heap.size (show w.heap.size≠w.heap.size+1 by omega)).trans n2;refine⟨rfl,rfl,by rw [Lib.cell_of_heap o2];rfl,by rw [Lib.cell_of_heap o3];rfl,?_⟩;have hbw:Below w.heap.size w W:=HB.out.trans (hk.below HB.out.size (fun i hi=>by have h1:=HBB.out;rcases hi with e | e;omega;cases e));exact((hbw.trans (hb.mono hbw.size)).setCell (p:=⟨w.heap.size,0,none⟩) (Nat.le_refl _) _).setCell (p:=⟨w.heap.size+1,0,none⟩) (Nat.le_succ _) _))
 rintro e w1 (⟨rfl,hk⟩ | ⟨v,l,p1,rfl,htr,hok,hon,hle⟩)
 ·unfold died
  go_wp2_with fail;refine leaves_cons (f:=148) (args:=#[.pointer (some ⟨w.heap.size,0,none⟩),.pointer (some ⟨w.heap.size+1,0,none⟩)]) (by simp) (by simp [go_sem]) ?_;refine(DIE.out w1 hk).mono ?_;rintro e u' w2 ⟨rfl,rfl,c2,c3,hbw⟩;simp [Leaves,settle,results,Tryz.results101,go_sem,c2,c3];exact⟨.inl rfl,hbw⟩
 obtain⟨av,nv,cv,rfl⟩:∃av nv cv,v= .slice av nv cv:=by cases htr <;> exact⟨_,_,_,rfl⟩
 have HOK:=Zh hok;have u1:w1.cell? ⟨b,1,none⟩=some p1.tr:=hon.at_.cel 1 rfl;have f1:=hon.at_.fz 1;have HP2:=Zh (hon.at_.setN 1 (.slice av nv cv) { p1 with tr:= .slice av nv cv } rfl);have hk2:=(KeepT.refl (fun j=>j=b) w1).setCell (p:=⟨b,1,none⟩) (.inl rfl) (.slice av nv cv);have HT2:=Zh (htr.kept hk2 (fun j e=> .inr (fun cs fr hh=>by subst e;exact hon.at_.noNode cs fr hh)));have HK2:=Zh (hon.keep.trans hk2 (fun i _ e=> .inl e));have HGR:=Zh hon.gr;clear htr hok hon hle hk2;go_upto_region 4 with fail;clear u1 f1;generalize w1.setCell _ _=w2 at *;have c0:=HP2.out.c0;dsimp only at c0;have HB2:=Zh (show Below w.heap.size w w2 from HB.out.trans (HK2.out.below HB.out.size (fun i hi=>by have h1:=HBB.out;rcases hi with e | e;omega;cases e)));cases hl:p1.left
 case cons c l'=>
  rw [hl]at c0;have hne:((c::l')==[])=false:=rfl;have HM:=Zh (Zbc false w2);go_wp2_with fail;refine HM.out.mono ?_;rintro e w3 ⟨rfl,⟨h,_⟩ | ⟨_,rfl⟩⟩
  ·cases h
  unfold died;go_wp2_with fail;refine leaves_cons (f:=148) (args:=#[.pointer (some ⟨w.heap.size,0,none⟩),.pointer (some ⟨w.heap.size+1,0,none⟩)]) (by simp) (by simp [go_sem]) ?_;refine(DIE.out w3 HK2.out).mono ?_;rintro e u' w4 ⟨rfl,rfl,c2,c3,hbw⟩;simp [Leaves,settle,results,Tryz.results101,go_sem,c2,c3];exact⟨.inl rfl,hbw⟩
 case nil=>
  rw [hl]at c0;have HM:=Zh (Zbc true w2);have k2:=(HK2.out.block _ (Zaa HR2.out) (fun e=>HFAR.out _ (.inl rfl) e)).trans HR2.out;have k3:=(HK2.out.block _ (Zaa HR3.out) (fun e=>HFAR.out _ (.inr rfl) e)).trans HR3.out;have n2:=Zay (j:=0) k2 (.pointer (some ⟨b,1,none⟩));have n3:=(Below.heap_setCell w2 ⟨w.heap.size,0,none⟩ (.pointer (some ⟨b,1,none⟩)) (w.heap.size+1) (show w.heap.size+1≠w.heap.size by omega)).trans k3;have o3:=Zay (j:=0) n3 (.int .i64 0);have o2:=(Below.heap_setCell (w2.setCell ⟨w.heap.size,0,none⟩ (.pointer (some ⟨b,1,none⟩))) ⟨w.heap.size+1,0,none⟩ (.int .i64 0) w.heap.size (show w.heap.size≠w.heap.size+1 by omega)).trans n2;have u2:w2.cell? ⟨w.heap.size,0,none⟩=some (.pointer none):=by rw [Lib.cell_of_heap k2];rfl
  have g2:w2.frozen? ⟨w.heap.size,0,none⟩=false:=Lib.frozen_of_heap k2 0;have u3:(w2.setCell ⟨w.heap.size,0,none⟩ (.pointer (some ⟨b,1,none⟩))).cell? ⟨w.heap.size+1,0,none⟩=some (.int .i64 0):=by rw [Lib.cell_of_heap n3];rfl
  have g3:(w2.setCell ⟨w.heap.size,0,none⟩ (.pointer (some ⟨b,1,none⟩))).frozen? ⟨w.heap.size+1,0,none⟩=false:=Lib.frozen_of_heap n3 0;have C2:=Zh (show((w2.setCell ⟨w.heap.size,0,none⟩ (.pointer (some ⟨b,1,none⟩))).setCell ⟨w.heap.size+1,0,none⟩ (.int .i64 0)).cell? ⟨w.heap.size,0,none⟩=some (.pointer (some ⟨b,1,none⟩)) by rw [Lib.cell_of_heap o2];rfl);have C3:=Zh (show((w2.setCell ⟨w.heap.size,0,none⟩ (.pointer (some ⟨b,1,none⟩))).setCell ⟨w.heap.size+1,0,none⟩ (.int .i64 0)).cell? ⟨w.heap.size+1,0,none⟩=some (.int .i64 0) by rw [Lib.cell_of_heap o3];rfl);have HKF:=Zh (((KeepT.refl (fun j=>j=w.heap.size∨j=w.heap.size+1) w2).setCell (p:=⟨w.heap.size,0,none⟩) (.inl (.inl rfl)) (.pointer (some ⟨b,1,none⟩))).setCell (p:=⟨w.heap.size+1,0,none⟩) (.inl (.inr rfl)) (.int .i64 0));have HBF:=Zh ((HB2.out.setCell (p:=⟨w.heap.size,0,none⟩) (Nat.le_refl _) (.pointer (some ⟨b,1,none⟩))).setCell (p:=⟨w.heap.size+1,0,none⟩) (Nat.le_succ _) (.int .i64 0));have HN2:=Zh (fun j (hj:j=w.heap.size∨j=w.heap.size+1) cs fr (hh:w2.heap[j]? =some (.cells cs 242 fr))=>(show False from by
   rcases hj with rfl | rfl
   ·rw [k2]at hh
    simp only [Option.some.injEq,Obj.cells.injEq]at hh;exact absurd hh.2.1 (by decide)
   ·rw [k3]at hh
    simp only [Option.some.injEq,Obj.cells.injEq]at hh;exact absurd hh.2.1 (by decide)))
  clear k2 k3 n2 n3 o3 o2;go_wp2_with fail;refine HM.out.mono ?_;rintro e w3 ⟨rfl,⟨_,rfl⟩ | ⟨h,_⟩⟩
  case inr=>cases h
  go_wp2_with fail;refine leaves_cons (f:=148) (args:=#[.pointer (some ⟨w.heap.size,0,none⟩),.pointer (some ⟨w.heap.size+1,0,none⟩)]) (by simp) (by simp [go_sem]) ?_;refine(catchIdle _ _ _).mono ?_;rintro e u' w4 ⟨rfl,rfl,rfl⟩;have c2:=C2.out;have c3:=C3.out;simp [Leaves,settle,results,Tryz.results101,go_sem,c2,c3];refine⟨.inr ⟨b,l,rfl,⟨_,HP2.out.kept HKF.out (fun e=>by have h1:=HBB.out;omega),(HT2.out.mono (S':=fun j=>j < w.heap.size) (fun j _ e=>by have h1:=HSA.out;omega)).kept HKF.out (fun j e=> .inr (fun cs fr hh=>HN2.out j e cs fr hh)),HOK.out,HGR.out⟩,by have h1:=HBB.out;omega⟩,HBF.out⟩
open Go Go.Proofs Go.RowKit Go.Ink Go.Sort
inductive IsV (w:World):Value→Prop
 | span (b1 b2:Nat) (x y:UInt8) (h1:w.heap[b1]? =some (.cells #[.int .u8 (x.toNat:Int)] 5 (0,0))) (h2:w.heap[b2]? =some (.cells #[.int .u8 (y.toNat:Int)] 5 (0,0))):IsV w (.func (.func 276) #[] #[.pointer (some ⟨b1,0,none⟩),.pointer (some ⟨b2,0,none⟩)])
 | some_ (b g n cap:Nat) (cs:Array Value) (T:TypeId) (fr:Nat×Nat) (vs:Nat→Value) (hb:w.heap[b]? =some (.cells #[.slice (some ⟨g,0,none⟩) n cap] 370 (0,0))) (hn:n≤100) (hg:w.heap[g]? =some (.cells cs T fr)) (hc:∀i,i < n→cs[i]? =some (vs i)) (hv:∀i,i < n→IsV w (vs i)):IsV w (.func (.func 283) #[] #[.pointer (some ⟨b,0,none⟩)])
 | punct (b1 b2:Nat) (v1 v2:Value) (h1:w.heap[b1]? =some (.cells #[v1] 305 (0,0))) (h2:w.heap[b2]? =some (.cells #[v2] 305 (0,0))) (hv1:IsV w v1) (hv2:IsV w v2):IsV w (.func (.func 275) #[] #[.pointer (some ⟨b1,0,none⟩),.pointer (some ⟨b2,0,none⟩)])
theorem IsV.kept {w w':World}{v:Value}{Z:Nat→Prop}(h:IsV w v)(hk:KeepT Z w w')(hz:∀j,Z j→∀cs T fr,w.heap[j]?≠some (.cells cs T fr)):IsV w' v:=by
 have key:∀{j:Nat} {cs:Array Value} {T:TypeId} {fr:Nat×Nat},w.heap[j]? =some (.cells cs T fr)→w'.heap[j]? =some (.cells cs T fr):=fun {j cs T fr} hh=>(hk.block j (Zaa hh) (fun e=>hz j e _ _ _ hh)).trans hh
 induction h with
 | span b1 b2 x y h1 h2=>exact .span b1 b2 x y (key h1) (key h2)
 | some_ b g n cap cs T fr vs hb hn hg hc hv ih=>exact .some_ b g n cap cs T fr vs (key hb) hn (key hg) hc ih
 | punct b1 b2 v1 v2 h1 h2 hv1 hv2 ih1 ih2=>exact .punct b1 b2 v1 v2 (key h1) (key h2) ih1 ih2
theorem IsV.later {w w':World}{v:Value}(h:IsV w v)(hb:Below w.heap.size w w'):IsV w' v:=h.kept (KeepT.of_below (S:=fun _=>False) hb) (fun _ h=>h.elim)
theorem enterF {f:FuncId}{fn:Func}{c:Code}(hf:Tryz.prog.funcs[f]? =some fn)(hn:(fn.name=="runtime.NumGoroutine")=false)(hb:fn.body=some c)(args:Array Value)(w:World):(callFunc f args).run Tryz.prog w= .ok (.enter f args) w:=by
 simp only [callFunc,Sem.run_bind,run_program,Result.andThen_ok,hf,hn,hb,Option.isNone_some,Bool.false_eq_true,if_false,Sem.run_pure]
def Says (w:World)(v:Value):Prop:=∃(f:FuncId) (cap:Array Value),v= .func (.func f) #[] cap∧(∀args W,(callFunc f args).run Tryz.prog W= .ok (.enter f args) W)∧∀c:UInt8,Calls Tryz.prog f (#[.int .u8 (c.toNat:Int)]++cap) w fun e w'=>BoE e∧w'=w
theorem IsV.says {w:World}{v:Value}(h:IsV w v):Says w v:=by
 induction h with
 | span b1 b2 x y h1 h2=>
   refine⟨_,_,rfl,enterF Tryz.func276 (by kernel_rfl) (c:=(Tryz.f276.body).getD .skip) (by kernel_rfl),fun c=>?_⟩;have c1:w.cell? ⟨b1,0,none⟩=some (.int .u8 (x.toNat:Int)):=by rw [Lib.cell_of_heap h1];rfl
   have c2:w.cell? ⟨b2,0,none⟩=some (.int .u8 (y.toNat:Int)):=by rw [Lib.cell_of_heap h2];rfl
   change Calls Tryz.prog 276 #[.int .u8 (c.toNat:Int),.pointer (some ⟨b1,0,none⟩),.pointer (some ⟨b2,0,none⟩)] w _;clear h1 h2
   by_cases hle:(x.toNat:Int)≤(c.toNat:Int)
   ·go_enter Tryz.func276,Tryz.ntmps276
    go_wp2_with fail;go_returns;exact⟨⟨_,rfl⟩,rfl⟩
   ·go_enter Tryz.func276,Tryz.ntmps276
    go_wp2_with fail;go_returns;exact⟨⟨_,rfl⟩,rfl⟩
 | some_ b g n cap cs T fr vs hb hn hg hc hv ih=>
   refine⟨_,_,rfl,enterF Tryz.func283 (by kernel_rfl) (c:=(Tryz.f283.body).getD .skip) (by kernel_rfl),fun c=>?_⟩;have c1:w.cell? ⟨b,0,none⟩=some (.slice (some ⟨g,0,none⟩) n cap):=by rw [Lib.cell_of_heap hb];rfl
   have HG:=Zh (fun i (hi:i < n)=>(show w.cell? ⟨g,i,none⟩=some (vs i) by rw [Lib.cell_of_heap hg];exact hc i hi));have HI:=Zh ih;change Calls Tryz.prog 283 #[.int .u8 (c.toNat:Int),.pointer (some ⟨b,0,none⟩)] w _;clear hb hg hc hv ih;go_enter Tryz.func283,Tryz.ntmps283;go_wp2_with fail
   go_loop [5,8] (fun _ iv=>∃i:Nat,iv= .int .i64 (i:Int)∧i≤n) (fun _ iv=>n - (intOf iv).toNat)
   case atStart=>exact⟨0,rfl,Nat.zero_le _⟩
   case round=>
    obtain⟨i,rfl,hi⟩:=hrel
    by_cases hlt:i < n
    case neg=>
     have hki:¬(i:Int) < (n:Int):=by omega
     clear hlt;go_wp2_with fail;go_returns;exact⟨⟨_,rfl⟩,rfl⟩
    have hki:(i:Int) < (n:Int):=by omega
    have qi:=HG.out i hlt;obtain⟨f,cap2,hfv,hen,hcl⟩:=HI.out i hlt;rw [hfv]at qi;have HCL:=Zh (hcl c);have HLT:=Zh hlt;clear hfv hcl hlt;go_wp2_with fail;refine HCL.out.mono ?_;rintro e w2 ⟨⟨bb,rfl⟩,rfl⟩;cases bb
    ·go_wp2_with fail
     go_round
     case rel=>exact⟨i+1,by go_num,HLT.out⟩
     case measure=>have:=HLT.out;simp [intOf] <;> omega
    ·go_wp2_with fail
     go_returns;exact⟨⟨_,rfl⟩,rfl⟩
 | punct b1 b2 v1 v2 h1 h2 hv1 hv2 ih1 ih2=>
   refine⟨_,_,rfl,enterF Tryz.func275 (by kernel_rfl) (c:=(Tryz.f275.body).getD .skip) (by kernel_rfl),fun c=>?_⟩;obtain⟨f1,cap1,rfl,en1,k1⟩:=ih1;obtain⟨f2,cap2,rfl,en2,k2⟩:=ih2;have c1:w.cell? ⟨b1,0,none⟩=some (.func (.func f1) #[] cap1):=by rw [Lib.cell_of_heap h1];rfl
   have c2:w.cell? ⟨b2,0,none⟩=some (.func (.func f2) #[] cap2):=by rw [Lib.cell_of_heap h2];rfl
   have K1:=Zh (k1 c);have K2:=Zh (k2 c);change Calls Tryz.prog 275 #[.int .u8 (c.toNat:Int),.pointer (some ⟨b1,0,none⟩),.pointer (some ⟨b2,0,none⟩)] w _;clear h1 h2 hv1 hv2 k1 k2;go_enter Tryz.func275,Tryz.ntmps275;go_wp2_with fail;refine K1.out.mono ?_;rintro e w2 ⟨⟨bb,rfl⟩,rfl⟩;cases bb
   ·go_wp2_with fail
    go_returns;exact⟨⟨_,rfl⟩,rfl⟩
   go_wp2_with fail;refine K2.out.mono ?_;rintro e w2 ⟨⟨bb,rfl⟩,rfl⟩;go_wp2_with fail;go_returns;exact⟨⟨_,rfl⟩,rfl⟩
end Go.Proofs.YtndjgbehbgcpkaaGreatDoor
