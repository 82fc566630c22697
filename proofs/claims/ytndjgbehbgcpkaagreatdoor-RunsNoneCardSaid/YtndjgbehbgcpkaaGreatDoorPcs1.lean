/- Rows of pieces in memory; the walks of piece.cut, Table.Len, pieces.of and pieces.New. -/
import Derived.Test.YtndjgbehbgcpkaaGreatDoorKeep
import Derived.Test.YtndjgbehbgcpkaaGreatDoorBase
import Derived.Lib.IndexBytes
import Derived.Lib.IndexAny
import Derived.WalkSmall
import Derived.Deep.QuietTactic
import Derived.BigQuiet
set_option linter.unusedVariables false
set_option linter.unusedSimpArgs false
set_option maxRecDepth 100000
set_option maxHeartbeats 4000000
namespace Go.Proofs.YtndjgbehbgcpkaaGreatDoor
open Go Go.Proofs Go.RowKit Go.Ink
theorem pc_info:(Tryz.prog.info? 132).map (fun i=>(i.zero,i.size,i.bytes))=some (some (.slice none 0 0),1,24):=by kernel_rfl
def SlA (S:Nat→Prop)(w:World)(ao:Option Addr)(cap:Nat)(l:List Line):Prop:=SlOf IsStr w ao cap l∧(l≠[]→∀ad,ao=some ad→¬S ad.block)
theorem SlA.later {S:Nat→Prop}{w w':World}{ao:Option Addr}{cap:Nat}{l:List Line}(h:SlA S w ao cap l)(hb:Below w.heap.size w w'):SlA S w' ao cap l:=⟨h.1.later lasts_str hb,h.2⟩
def IsPc (S:Nat→Prop)(w:World)(u:Value)(l:List Line):Prop:=∃ao cap,u= .slice ao l.length cap∧SlA S w ao cap l
theorem lasts_pc {S:Nat→Prop}:Lasts (IsPc S):=fun _ _ _ _ hb ⟨ao,cap,hu,h⟩=>⟨ao,cap,hu,h.later hb⟩
theorem own_slA {S:Nat→Prop}{w:World}{B n c:Nat}{a:Option Addr}{l:List Line}(hn:l.length=n)(h:OwnStrs w B (.slice a n c) l)(hS:∀k,S k→k < B):SlA S w a c l:=by
 refine⟨own_slOfV hn h,fun _ ad ha hs=>?_⟩;subst ha;rcases h.2 with⟨h1,_⟩ | ⟨g,cap,cur,h1,hg,_⟩
 ·cases h1
 ·simp only [Value.slice.injEq,Option.some.injEq]at h1
  obtain⟨rfl,_⟩:=h1;have:=hS _ hs;simp only at this;omega
def Zcr (S:Nat→Prop)(w0:World)(B:Nat)(w:World)(v:Value)(ps:List (List Line)):Prop:=
 ∃vs:List Value,w.ownsRow B 132 1 v ps.length vs∧∀(k:Nat) x,ps[k]? =some x→∃u,vs[k]? =some u∧(IsPc S) w0 u x
theorem Zcr.slOf {S:Nat→Prop}{w0 w:World}{B:Nat}{v:Value}{ps:List (List Line)}(h:Zcr S w0 B w v ps)(hb:Below w0.heap.size w0 w):∃ao cap,v= .slice ao ps.length cap∧SlOf (IsPc S) w ao cap ps:=by
 obtain⟨vs,hr,he⟩:=h;rcases hr.2 with⟨rfl,h0⟩ | ⟨g,cap,cur,rfl,hg,hh,hle,hm,_,_⟩
 ·have:ps=[]:=List.eq_nil_of_length_eq_zero h0
  subst this;exact⟨none,0,rfl,by simp,by unfold maxLen;omega,fun _=>rfl,by simp⟩
 ·refine⟨_,cap,rfl,hle,hm,by simp,fun k x hk=>?_⟩
  obtain⟨u,hu,hx⟩:=he k x hk;refine⟨g,0,u,rfl,?_,lasts_pc _ _ _ _ hb hx⟩;rw [Nat.zero_add,World.ownsRow.cellAt hr k (by have:=(List.getElem?_eq_some_iff.1 hk).1;omega)];exact hu
theorem Zcr.shape {S:Nat→Prop}{w0 w:World}{B:Nat}{v:Value}{ps:List (List Line)}(h:Zcr S w0 B w v ps):∃ao cap,v= .slice ao ps.length cap:=by
 obtain⟨vs,hr,_⟩:=h;exact Zdv hr
theorem Zcr.slOfV {S:Nat→Prop}{w0 w:World}{B n c:Nat}{a:Option Addr}{ps:List (List Line)}(hn:ps.length=n)(h:Zcr S w0 B w (.slice a n c) ps)(hb:Below w0.heap.size w0 w):SlOf (IsPc S) w a c ps:=by
 subst hn;obtain⟨ao,cap,e,h⟩:=h.slOf hb;simp only [Value.slice.injEq]at e;obtain⟨rfl,_,rfl⟩:=e;exact h
theorem Zcr.away {S:Nat→Prop}{w0 w:World}{B n c:Nat}{a:Option Addr}{ps:List (List Line)}(h:Zcr S w0 B w (.slice a n c) ps)(hS:∀k,S k→k < B):∀ad,a=some ad→¬S ad.block:=by
 intro ad ha hs;subst ha;obtain⟨vs,hr,_⟩:=h;rcases hr.2 with⟨h1,_⟩ | ⟨g,cap,cur,h1,hg,_⟩
 ·cases h1
 ·simp only [Value.slice.injEq,Option.some.injEq]at h1
  obtain⟨rfl,_⟩:=h1;have:=hS _ hs;simp only at this;omega
theorem Zcr.nil {S:Nat→Prop}(w0:World)(B:Nat)(w:World):Zcr S w0 B w (.slice none 0 0) []:=⟨[],World.ownsRow_nil _ _ _ _,by simp⟩
theorem Zcr.later {S:Nat→Prop}{w0 w w':World}{B:Nat}{v:Value}{ps:List (List Line)}(h:Zcr S w0 B w v ps)(hb:Below w.heap.size w w'):Zcr S w0 B w' v ps:=by
 obtain⟨vs,hr,he⟩:=h;exact⟨vs,Zdc hr hb,he⟩
theorem Zcr.set {S:Nat→Prop}{w0 w:World}{B:Nat}{v:Value}{ps:List (List Line)}(h:Zcr S w0 B w v ps){a:Addr}(ha:a.block < B)(u:Value):Zcr S w0 B (w.setCell a u) v ps:=by
 obtain⟨vs,hr,he⟩:=h;exact⟨vs,ownsRow_setCell_below hr ha u,he⟩
def SrcPcs (S:Nat→Prop)(w0 w:World)(ao:Option Addr)(c:Nat)(qs:List (List Line)):Prop:=
 qs.length≤c∧(ao=none→c=0)∧∀k x,qs[k]? =some x→∃b off u,ao=some ⟨b,off,none⟩∧w.cell? ⟨b,off+k,none⟩=some u∧(IsPc S) w0 u x
theorem SrcPcs.one {S:Nat→Prop}{w0 w:World}{b:Nat}{p:List Line}{a:Option Addr}{c:Nat}{T:TypeId}{fr:Nat×Nat}(h:w.heap[b]? =some (.cells #[.slice a p.length c] T fr))(hp:SlA S w0 a c p):SrcPcs S w0 w (some ⟨b,0,none⟩) 1 [p]:=by
 refine⟨by simp,by simp,fun k x hk=>?_⟩;have hk0:k=0:=by have:=(List.getElem?_eq_some_iff.1 hk).1;simp at this;exact this
 subst hk0;simp only [List.getElem?_cons_zero,Option.some.injEq]at hk;subst hk;exact⟨b,0,_,rfl,by rw [Lib.cell_of_heap h];rfl,_,_,rfl,hp⟩
theorem SrcPcs.news {S:Nat→Prop}{w0 w:World}{ad:Addr}{c:Nat}{qs:List (List Line)}(h:SrcPcs S w0 w (some ad) c qs):∃news:List Value,news.length=qs.length∧(∀j u,news[j]? =some u→w.cell? (ad.add j)=some u)∧(∀u∈news,u.oneCell'=true)∧∀(k:Nat) x,qs[k]? =some x→∃u,news[k]? =some u∧(IsPc S) w0 u x:=by
 have key:∀k,k < qs.length→∃u x,qs[k]? =some x∧w.cell? (ad.add k)=some u∧(IsPc S) w0 u x:=fun k hk=>by
  obtain⟨b,off,u,ha,hc,hr⟩:=h.2.2 k _ (Zg hk)
  injection ha with ha
  subst ha;exact⟨u,_,Zg hk,by rw [add_none];exact hc,hr⟩
 refine⟨(List.range qs.length).map fun k=>(w.cell? (ad.add k)).getD undef,by simp,?_,?_,?_⟩
 ·intro j u hj
  have hk:j < qs.length:=by have:=(List.getElem?_eq_some_iff.1 hj).1;simpa using this
  obtain⟨u',x,_,hc,_⟩:=key j hk;simp [List.getElem?_map,List.getElem?_range hk,hc]at hj;rw [hc,hj]
 ·intro u hu
  simp only [List.mem_map,List.mem_range]at hu;obtain⟨k,hk,rfl⟩:=hu;obtain⟨u',x,_,hc,a,c,rfl,_⟩:=key k hk;rw [hc];rfl
 ·intro k x hk
  have hkl:=(List.getElem?_eq_some_iff.1 hk).1;obtain⟨u',x',hx,hc,hr⟩:=key k hkl;rw [hk]at hx
  injection hx with hx
  subst hx;exact⟨u',by simp [List.getElem?_map,List.getElem?_range hkl,hc],hr⟩
theorem wpList_append_pcs {S:Nat→Prop}{w0 w:World}{ops:Array Oper}{rest:List Oper}{o:Oper}{a:Act}{Q:Exit→Act→World→Prop}(hgd:o.guard=none)(s x:Operand)
 (ho:o.op= .call { callee:= .builtin .append,args:=#[s,x],argTypes:=#[127,127] })
 (B:Nat) (v:Value) (ps:List (List Line)) (hs:a.eval s=v) (hown:Zcr S w0 B w v ps) (ao:Option Addr) (n c:Nat) (qs:List (List Line)) (hn:qs.length=n) (hx:a.eval x= .slice ao n c) (hq:SrcPcs S w0 w ao c qs)
 (hb:B≤w.heap.size) (hsz:ps.length+qs.length≤1000000)
 (h:∀v' w',Zcr S w0 B w' v' (ps++qs)→Below B w w'→(∀k,k < w.heap.size→v.ownBlock≠some k→w'.heap[k]? =w.heap[k]?)→w.heap.size≤w'.heap.size→wpList Tryz.prog ops Q rest (a.put o.dst v') w'):wpList Tryz.prog ops Q (o::rest) a w:=by
 subst hn;obtain⟨i0,hi,hz0,hz1,hz2⟩:=info_parts pc_info;have hown0:=hown;obtain⟨vs,hr,he⟩:=hown;cases ao with
 | none=>
   have hc:c=0:=hq.2.1 rfl;have h0:qs=[]:=List.eq_nil_of_length_eq_zero (by have:=hq.1;omega);subst hc h0;exact wpList_append_own_none hgd s x 127 ho B 132 i0 1 Tryz.underlying127 hi v _ _ hs hr hx (h v w (by rw [List.append_nil];exact hown0) (Below.refl _ _) (fun _ _ _=>rfl) (Nat.le_refl _))
 | some ad=>
   obtain⟨news,n1,n2,n3,n4⟩:=hq.news;refine wpList_append_own _ hgd s x 127 ho B 132 i0 _ 1 24 Tryz.underlying127 hi hz0 hz1 hz2 rfl (by decide) v _ _ hs hr ad qs.length c news hx (by omega) n2 n3 (by unfold maxLen;omega) (by omega) hb ?_;intro v' w' h2 h3 _;refine h v' w' ⟨vs++news,by rw [List.length_append];exact h2,fun k y hk=>?_⟩ ((Below.refl _ _).grown h3 hb (fun k hk=>(hr.lt k hk).1)) (fun k hk hne=>h3.block k hk (fun e=>hne e.symm)) h3.size;have hvl:vs.length=ps.length:=by have:=hr.1;omega
   rcases Nat.lt_or_ge k ps.length with hk1 | hk1
   ·rw [List.getElem?_append_left hk1]at hk
    obtain⟨u,hu,hx⟩:=he k y hk;exact⟨u,by rw [List.getElem?_append_left (by omega)];exact hu,hx⟩
   ·rw [List.getElem?_append_right hk1]at hk
    obtain⟨u,hu,hx⟩:=n4 _ y hk;exact⟨u,by rw [List.getElem?_append_right (by omega),hvl];exact hu,hx⟩
def TabOf (S:Nat→Prop)(w:World)(b:Nat)(ps:List (List Line)):Prop:=
 ∃ao cap fr,w.heap[b]? =some (.cells #[.slice ao ps.length cap,.int .i64 (manyS ps)] 130 fr)∧SlOf (IsPc S) w ao cap ps∧¬S b∧(ps≠[]→∀ad,ao=some ad→¬S ad.block)
theorem TabOf.later {S:Nat→Prop}{w w':World}{b:Nat}{ps:List (List Line)}(h:TabOf S w b ps)(hb:Below w.heap.size w w'):TabOf S w' b ps:=by
 obtain⟨ao,cap,fr,hh,hs,hn⟩:=h;exact⟨ao,cap,fr,(hb.block b (Zaa hh)).trans hh,hs.later lasts_pc hb,hn⟩
theorem ofS_snoc (l:List (List Line))(p:List Line):ofS (l++[p])=ofS l++(if 0 < p.length then [p] else []):=by
 unfold ofS;rw [List.filter_append,List.filter_cons,List.filter_nil]
 by_cases h:0 < p.length <;> simp [h]
theorem ofS_take {l:List (List Line)}{k:Nat}{p:List Line}(h:l[k]? =some p):ofS (l.take (k+1))=ofS (l.take k)++(if 0 < p.length then [p] else []):=by
 obtain⟨hk,rfl⟩:=List.getElem?_eq_some_iff.1 h;rw [List.take_succ_eq_append_getElem hk,ofS_snoc]
theorem Zen:∀(a b:List (List Line)),manyS (a++b)=manyS a+manyS b
 | [],b=>by simp [manyS]
 | p::a,b=>by simp only [List.cons_append,manyS,Zen a b];omega
theorem ofS_len (l:List (List Line)):(ofS l).length≤l.length:=List.length_filter_le _ _
theorem slOf_keptN {α:Type}{R:World→Value→α→Prop}{S:Nat→Prop}{w w':World}{ao:Option Addr}{cap:Nat}{xs:List α}(hk:KeepT S w w')(h:SlOf R w ao cap xs)(hn:xs≠[]→∀ad,ao=some ad→¬S ad.block)(hR:∀u x,R w u x→R w' u x):SlOf R w' ao cap xs:=by
 match xs,h,hn with
 | [],h,hn=>exact⟨h.1,h.2.1,h.2.2.1,by simp⟩
 | x::r,h,hn=>exact h.kept hk (fun b off ha=>hn (by simp) _ ha) hR
theorem SlA.kept {S:Nat→Prop}{w w':World}{ao:Option Addr}{cap:Nat}{l:List Line}(h:SlA S w ao cap l)(hk:KeepT S w w'):SlA S w' ao cap l:=⟨slOf_keptN hk h.1 h.2 (fun _ _ hu=>hu),h.2⟩
theorem TabOf.kept {S:Nat→Prop}{w w':World}{b:Nat}{ps:List (List Line)}(h:TabOf S w b ps)(hk:KeepT S w w'):TabOf S w' b ps:=by
 obtain⟨ao,cap,fr,hh,hs,hb,hn⟩:=h;refine⟨ao,cap,fr,(hk.block b (Zaa hh) hb).trans hh,slOf_keptN hk hs hn ?_,hb,hn⟩;rintro u x ⟨a2,c2,hu,h1⟩;exact⟨a2,c2,hu,h1.kept hk⟩
theorem slOf_old {α:Type}{R:World→Value→α→Prop}{w:World}{ao:Option Addr}{cap:Nat}{xs:List α}(h:SlOf R w ao cap xs)(h0:xs≠[]):∀ad,ao=some ad→ad.block < w.heap.size:=by
 intro ad ha
 match xs,h,h0 with
 | x::r,h,_=>
 obtain⟨b3,o3,u3,ha3,hc3,_⟩:=h.2.2.2 0 x rfl;rw [ha]at ha3
 injection ha3 with ha3
 subst ha3;exact Zbt hc3
theorem SlA.apart {S S':Nat→Prop}{w:World}{ao:Option Addr}{cap:Nat}{l:List Line}(h:SlA S w ao cap l)(hS:∀k,S' k→S k∨w.heap.size≤k):SlA S' w ao cap l:=
 ⟨h.1,fun h0 ad ha hs=>by
   rcases hS _ hs with h' | h'
   ·exact h.2 h0 ad ha h'
   ·have:=slOf_old h.1 h0 ad ha
    omega⟩
theorem TabOf.apart {S S':Nat→Prop}{w:World}{b:Nat}{ps:List (List Line)}(h:TabOf S w b ps)(hS:∀k,S' k→S k∨w.heap.size≤k):TabOf S' w b ps:=by
 obtain⟨ao,cap,fr,hh,hs,hb,hn⟩:=h;have hbl:=Zaa hh;refine⟨ao,cap,fr,hh,⟨hs.1,hs.2.1,hs.2.2.1,fun k x hx=>?_⟩,fun h'=>?_,fun h0 ad had hS'=>?_⟩
 ·obtain⟨b',off,u,ha,hc,a2,c2,hu,h1⟩:=hs.2.2.2 k x hx
  exact⟨b',off,u,ha,hc,a2,c2,hu,h1.apart hS⟩
 ·rcases hS _ h' with h | h
  ·exact hb h
  ·omega
 ·rcases hS _ hS' with h | h
  ·exact hn h0 _ had h
  ·have:=slOf_old hs h0 ad had
   omega
open Go Go.Proofs Go.RowKit Go.Ink
theorem tabLen_any {S:Nat→Prop}(b:Nat)(ps:List (List Line))(w:World)(ht:TabOf S w b ps):
 Calls Tryz.prog 41 #[.pointer (some ⟨b,0,none⟩)] w fun e w'=>e= .returned (.int .i64 (manyS ps))∧w=w':=by
 obtain⟨ao,cap,fr,hh,_⟩:=ht;have c1:w.cell? ⟨b,1,none⟩=some (.int .i64 (manyS ps)):=by rw [Lib.cell_of_heap hh];rfl
 clear hh;go_enter Tryz.func41,Tryz.ntmps41;go_wp2_with fail;go_returns;exact⟨rfl,rfl⟩
theorem manyS_ofS (l:List (List Line)):manyS (ofS l)=manyS l:=by rw [manyS_flat,ofS_flat,← manyS_flat]
theorem manyS_take (l:List (List Line))(k:Nat):manyS (l.take k)≤manyS l:=by
 have h:=Zen (l.take k) (l.drop k);rw [List.take_append_drop]at h;omega
def TabWay (S:Nat→Prop)(w0 wr:World)(v:Value)(ps:List (List Line)):Prop:=
 wr.heap[w0.heap.size]? =some (.cells #[v,.int .i64 (manyS ps)] 130 (0,0))∧Zcr S w0 (w0.heap.size+1) wr v ps
theorem Zcr.ne {S:Nat→Prop}{w0 w:World}{B:Nat}{v:Value}{ps:List (List Line)}(h:Zcr S w0 B w v ps){b:Nat}(hb:b < B):v.ownBlock≠some b:=by
 obtain⟨vs,hr,_⟩:=h;exact ownsRow_ne hr hb
theorem of_any {S:Nat→Prop}(ls:List (List Line))(ao:Option Addr)(cap:Nat)(w:World)(hs:SlOf (IsPc S) w ao cap ls)(hl:ls.length≤100000)(hm:manyS ls≤1000000)(hS:∀k,S k→k < w.heap.size):
 Calls Tryz.prog 72 #[.slice ao ls.length cap] w fun e w'=>∃b,e= .returned (.pointer (some ⟨b,0,none⟩))∧TabOf S w' b (ofS ls)∧Below w.heap.size w w':=by
 have HS:=Zh hs;have hc:ls.length≤9223372036854775807:=Nat.le_trans hs.1 hs.2.1;have HSS:=Zh hS;clear hs hS;have HT0:=Zh (show TabWay S w (w.alloc (.cells #[.slice none 0 0,.int .i64 0] 130 (0,0))) (.slice none 0 0) [] from⟨Zae w _,Zcr.nil _ _ _⟩);have HB0:=Zh (Zab w (.cells #[.slice none 0 0,.int .i64 0] 130 (0,0)));go_enter Tryz.func72,Tryz.ntmps72;go_wp2_with fail
 go_loopw [10] (fun i wr=>∃(k:Nat) (v:Value),i= .int .i64 k∧k≤ls.length∧Hid (TabWay S w wr v (ofS (ls.take k)))∧Hid (Below w.heap.size w wr)) (fun i _=>ls.length - (intOf i).toNat)
 case atStart=>exact⟨0,_,rfl,by omega,HT0,HB0⟩
 case round=>
  obtain⟨k,v,rfl,hk,HT,HB⟩:=hrel
  by_cases hlt:k < ls.length
  ·obtain⟨p,hkp⟩:∃p,ls[k]? =some p:=⟨_,Zg hlt⟩
   obtain⟨b,off,u,hao,hcell,a2,c2,hu,hrow⟩:=HS.out.2.2.2 k p hkp;subst hao hu;have hcell':=((HB.out.cell (p:=⟨b,off+k,none⟩) (Zbt hcell))).trans hcell;have HR:=Zh hrow;have hmk:=manyS_take ls (k+1);have hnx:=ofS_take hkp;have hm2:manyS (ofS (ls.take (k+1)))≤1000000:=by rw [manyS_ofS];omega
   have hl2:(ofS (ls.take k)).length≤100000:=Nat.le_trans (ofS_len _) (by rw [List.length_take];omega);clear hcell hrow hkp hmk
   by_cases hp:0 < p.length
   ·rw [if_pos hp]at hnx
    have HNX:=Zh hnx;rw [hnx,Zen]at hm2;simp only [manyS,Nat.add_zero]at hm2;clear hnx;generalize ofS (ls.take k)=P at *;obtain⟨ap,cp,rfl⟩:=HT.out.2.shape;have d0:=Lib.cell_of_heap HT.out.1 0;have d1:=Lib.cell_of_heap HT.out.1 1;have f0:=Lib.frozen_of_heap HT.out.1 0;have f1:=Lib.frozen_of_heap HT.out.1 1;simp only [List.getElem?_toArray,List.getElem?_cons_succ,List.getElem?_cons_zero]at d0 d1;have HZ:=Zh (Zaa HT.out.1);have HA:=Zh (Zab wr (.cells #[.slice a2 p.length c2] 132 (0,0)));have HQ:=Zh (SrcPcs.one (Zae wr (.cells #[.slice a2 p.length c2] 132 (0,0))) HR.out);go_wp2_with (at_builtin;refine wpList_append_pcs (w0:=w) rfl _ _ rfl (w.heap.size+1) _ P rfl (HT.out.2.later HA.out) (some ⟨wr.heap.size,0,none⟩) 1 1 [p] rfl rfl HQ.out (by have:=HZ.out;simp;omega) (by simp;omega) ?_);intro v' w5 ho5 hb5 hbl5 hz5;have HG5:=Zh ((hbl5 w.heap.size (by have:=HZ.out;omega) (HT.out.2.ne (Nat.lt_succ_self _))).trans ((Below.heap_alloc wr _ _ HZ.out).trans HT.out.1));have HO5:=Zh ho5;have HB5:=Zh (HB.out.trans ((HA.out.mono HB.out.size).trans (hb5.mono (Nat.le_succ _))));obtain⟨a',c',hv'⟩:=ho5.shape;rw [show(P++[p]).length=P.length+1 by simp]at hv';subst hv';clear hbl5 hz5 hb5 ho5 d0 d1 f0 f1 HA HQ HT;have d0:=Lib.cell_of_heap HG5.out 0;have d1:=Lib.cell_of_heap HG5.out 1;have f0:=Lib.frozen_of_heap HG5.out 0;have f1:=Lib.frozen_of_heap HG5.out 1;simp only [List.getElem?_toArray,List.getElem?_cons_succ,List.getElem?_cons_zero]at d0 d1;have s1:=Zay (j:=0) HG5.out (.slice a' (P.length+1) c');have s2:=Zay (j:=1) s1 (.int .i64 ((manyS P:Int)+(p.length:Int)));have HN:Hid (TabWay S w ((w5.setCell ⟨w.heap.size,0,none⟩ (.slice a' (P.length+1) c')).setCell ⟨w.heap.size,1,none⟩ (.int .i64 ((manyS P:Int)+(p.length:Int)))) (.slice a' (P.length+1) c') (P++[p])):=Zh ⟨by
     rw [s2,Zen];simp [manyS],(HO5.out.set (Nat.lt_succ_self _) _).set (Nat.lt_succ_self _) _⟩
    have HBN:Hid (Below w.heap.size w ((w5.setCell ⟨w.heap.size,0,none⟩ (.slice a' (P.length+1) c')).setCell ⟨w.heap.size,1,none⟩ (.int .i64 ((manyS P:Int)+(p.length:Int))))):=Zh ((HB5.out.setCell (Nat.le_refl _) _).setCell (Nat.le_refl _) _);have e1:(w5.setCell ⟨w.heap.size,0,none⟩ (.slice a' (P.length+1) c')).cell? ⟨w.heap.size,1,none⟩=some (.int .i64 (manyS P)):=by rw [Lib.cell_of_heap s1];rfl
    have g1:=Lib.frozen_of_heap s1 1;clear s1 s2 HB5 HO5 HG5;go_wp2_with fail;go_roundw
    case rel=>exact⟨k+1,_,by go_num,by omega,by rw [HNX.out];exact HN,HBN⟩
    case measure=>simp [intOf];omega
   ·rw [if_neg hp,List.append_nil]at hnx
    have HNX:=Zh hnx;clear hnx;have hp0:¬0 < (p.length:Int):=by omega
    go_wp2_with fail;go_roundw
    case rel=>exact⟨k+1,v,by go_num,by omega,by rw [HNX.out];exact HT,HB⟩
    case measure=>simp [intOf];omega
  ·have hkl:k=ls.length:=by omega
   subst hkl;rw [List.take_length]at HT;obtain⟨ap,cp,hv⟩:=HT.out.2.shape;subst hv;have HTT:=Zh (show TabOf S wr w.heap.size (ofS ls) from⟨ap,cp,_,HT.out.1,HT.out.2.slOfV rfl HB.out,fun h=>by have:=HSS.out _ h;omega,fun _=>HT.out.2.away (fun k h=>by have:=HSS.out _ h;omega)⟩);go_wp2_with fail;go_returns;exact⟨_,rfl,HTT.out,HB.out⟩
open Go Go.Proofs Go.RowKit Go.Ink
def idxI (o:Option Nat):Int:=match o with | some i=>i | none=>-1
theorem findIdx_at {α:Type}{p:α→Bool}{l:List α}{k:Nat}{x:α}(hk:l[k]? =some x)(hx:p x=true)(hno:∀(j:Nat) y,j < k→l[j]? =some y→p y=false):l.findIdx? p=some k:=by
 rw [List.findIdx?_eq_some_iff_getElem];obtain⟨hlt,he⟩:=List.getElem?_eq_some_iff.1 hk;refine⟨hlt,by rw [he];exact hx,fun j hj=>?_⟩;simp [hno j _ hj (Zg (by omega))]
theorem findIdx_no {α:Type}{p:α→Bool}{l:List α}{k:Nat}(hk:l.length≤k)(hno:∀(j:Nat) y,j < k→l[j]? =some y→p y=false):l.findIdx? p=none:=by
 rw [List.findIdx?_eq_none_iff];intro x hx;obtain⟨i,hi,rfl⟩:=List.mem_iff_getElem.1 hx;exact hno i _ (by omega) (Zg hi)
def Hno {α:Type}(p:α→Bool)(l:List α)(k:Nat):Prop:=∀(j:Nat) y,j < k→l[j]? =some y→p y=false
theorem Hno.next {α:Type}{p:α→Bool}{l:List α}{k:Nat}{x:α}(h:Hno p l k)(hk:l[k]? =some x)(hx:p x=false):Hno p l (k+1):=by
 intro j y hj hy
 by_cases e:j=k
 ·subst e;rw [hk]at hy;cases hy;exact hx
 ·exact h j y (by omega) hy
theorem idxI_any {α:Type}(p:α→Bool)(l:List α):decide (0≤idxI (l.findIdx? p))=l.any p:=by
 cases h:l.findIdx? p with
 | none=>rw [List.findIdx?_eq_none_iff]at h;simp only [idxI];symm;simp;intro x hx;simpa using h x hx
 | some i=>
   rw [List.findIdx?_eq_some_iff_getElem]at h;obtain⟨hi,hp,_⟩:=h;simp only [idxI]
   symm
   simp only [Int.natCast_nonneg,decide_true,List.any_eq_true];exact⟨_,List.getElem_mem hi,hp⟩
open Go Go.Proofs Go.RowKit Go.Ink
def hasNL (t:List UInt8):Bool:=t.contains 10
def greatB (t:List UInt8):Bool:=decide (1000 < t.length)
theorem contains_end (t:List UInt8):decide (0≤Lib.indexByte t 10)=hasNL t:=by
 unfold hasNL;rw [Lib.contains_iff_indexByte]
theorem ended_any (t:List UInt8)(w:World):
 Calls Tryz.prog 76 #[.string ⟨t.toArray⟩] w fun e w'=>e= .returned (.bool (hasNL t))∧w'=w:=by
 have HC:=Zh (contains_end t);go_enter Tryz.func76,Tryz.ntmps76;go_wp2_with fail;refine(Tryz.strings_Contains_one ⟨t.toArray⟩ 10 _).mono ?_;rintro e w1 ⟨rfl,rfl⟩;go_wp2_with fail
 go_ret
 exact⟨by rw [← HC.out];rfl,rfl⟩
theorem long_any (t:List UInt8)(w:World):
 Calls Tryz.prog 78 #[.string ⟨t.toArray⟩] w fun e w'=>e= .returned (.bool (greatB t))∧w'=w:=by
 have hg:greatB t=decide ((1000:Int) < (t.length:Int)):=by unfold greatB;rw [decide_eq_decide];omega
 have HG:=Zh hg;clear hg;go_enter Tryz.func78,Tryz.ntmps78;go_wp2_with fail
 go_ret
 exact⟨by rw [HG.out];rfl,rfl⟩
theorem indexEnded_any (ao:Option Addr)(cap:Nat)(l:List (List UInt8))(w:World)(hs:SlOf IsStr w ao cap l):
 Calls Tryz.prog 133 #[.slice ao l.length cap,.func (.func 76) #[] #[]] w fun e w'=>e= .returned (.int .i64 (idxI (l.findIdx? hasNL)))∧w'=w:=by
 obtain⟨h1,h2,h3,h4⟩:=hs;unfold maxLen at h2;have HS:=Zh h4;clear h4 h3;generalize hr:idxI (l.findIdx? hasNL)=r;have HR:=Zh hr;clear hr;go_enter Tryz.func133,Tryz.ntmps133;go_wp2_with fail
 go_loop [8] (fun i=>∃k:Nat,i= .int .i64 k∧k≤l.length∧Hno hasNL l k) (fun i=>l.length - (intOf i).toNat)
 case atStart=>exact⟨0,rfl,by omega,fun j y hj=>by omega⟩
 case round=>
  obtain⟨k,rfl,hk,hno⟩:=hrel
  by_cases hlt:k < l.length
  ·obtain⟨c,hkc⟩:∃c,l[k]? =some c:=⟨_,Zg hlt⟩
   obtain⟨b,off,u,rfl,hcell,hu⟩:=HS.out k c hkc;have hu':u= .string ⟨c.toArray⟩:=hu;subst hu';have HK:=Zh hkc;clear hkc hu;cases hb:hasNL c
   ·have HB:=Zh hb;clear hb
    go_wp2_with fail;refine(ended_any c _).mono ?_;rintro e w1 ⟨rfl,rfl⟩;rw [HB.out];go_wp2_with fail;go_round
    case rel=>exact⟨k+1,by go_num,by omega,hno.next HK.out HB.out⟩
    case measure=>simp [intOf];omega
   ·have HB:=Zh hb;clear hb
    go_wp2_with fail;refine(ended_any c _).mono ?_;rintro e w1 ⟨rfl,rfl⟩;rw [HB.out];go_wp2_with fail
    go_ret
    rw [← HR.out,findIdx_at HK.out HB.out hno];exact⟨rfl,rfl⟩
  ·go_wp2_with fail
   go_ret
   rw [← HR.out,findIdx_no (by omega) hno];exact⟨rfl,rfl⟩
theorem Zdi (ao:Option Addr)(cap:Nat)(l:List (List UInt8))(w:World)(hs:SlOf IsStr w ao cap l):
 Calls Tryz.prog 79 #[.slice ao l.length cap,.func (.func 76) #[] #[]] w fun e w'=>e= .returned (.bool (l.any hasNL))∧w'=w:=by
 have HI:=Zh (idxI_any hasNL l);have HS:=Zh hs;clear hs;go_enter Tryz.func79,Tryz.ntmps79;go_wp2_with fail;refine(indexEnded_any _ _ _ _ HS.out ).mono ?_;rintro e w1 ⟨rfl,rfl⟩;go_wp2_with fail
 go_ret
 rw [← HI.out];exact⟨rfl,rfl⟩
theorem indexLong_any (ao:Option Addr)(cap:Nat)(l:List (List UInt8))(w:World)(hs:SlOf IsStr w ao cap l):
 Calls Tryz.prog 133 #[.slice ao l.length cap,.func (.func 78) #[] #[]] w fun e w'=>e= .returned (.int .i64 (idxI (l.findIdx? greatB)))∧w'=w:=by
 obtain⟨h1,h2,h3,h4⟩:=hs;unfold maxLen at h2;have HS:=Zh h4;clear h4 h3;generalize hr:idxI (l.findIdx? greatB)=r;have HR:=Zh hr;clear hr;go_enter Tryz.func133,Tryz.ntmps133;go_wp2_with fail
 go_loop [8] (fun i=>∃k:Nat,i= .int .i64 k∧k≤l.length∧Hno greatB l k) (fun i=>l.length - (intOf i).toNat)
 case atStart=>exact⟨0,rfl,by omega,fun j y hj=>by omega⟩
 case round=>
  obtain⟨k,rfl,hk,hno⟩:=hrel
  by_cases hlt:k < l.length
  ·obtain⟨c,hkc⟩:∃c,l[k]? =some c:=⟨_,Zg hlt⟩
   obtain⟨b,off,u,rfl,hcell,hu⟩:=HS.out k c hkc;have hu':u= .string ⟨c.toArray⟩:=hu;subst hu';have HK:=Zh hkc;clear hkc hu;cases hb:greatB c
   ·have HB:=Zh hb;clear hb
    go_wp2_with fail;refine(long_any c _).mono ?_;rintro e w1 ⟨rfl,rfl⟩;rw [HB.out];go_wp2_with fail;go_round
    case rel=>exact⟨k+1,by go_num,by omega,hno.next HK.out HB.out⟩
    case measure=>simp [intOf];omega
   ·have HB:=Zh hb;clear hb
    go_wp2_with fail;refine(long_any c _).mono ?_;rintro e w1 ⟨rfl,rfl⟩;rw [HB.out];go_wp2_with fail
    go_ret
    rw [← HR.out,findIdx_at HK.out HB.out hno];exact⟨rfl,rfl⟩
  ·go_wp2_with fail
   go_ret
   rw [← HR.out,findIdx_no (by omega) hno];exact⟨rfl,rfl⟩
theorem containsLong_any (ao:Option Addr)(cap:Nat)(l:List (List UInt8))(w:World)(hs:SlOf IsStr w ao cap l):
 Calls Tryz.prog 79 #[.slice ao l.length cap,.func (.func 78) #[] #[]] w fun e w'=>e= .returned (.bool (l.any greatB))∧w'=w:=by
 have HI:=Zh (idxI_any greatB l);have HS:=Zh hs;clear hs;go_enter Tryz.func79,Tryz.ntmps79;go_wp2_with fail;refine(indexLong_any _ _ _ _ HS.out ).mono ?_;rintro e w1 ⟨rfl,rfl⟩;go_wp2_with fail
 go_ret
 rw [← HI.out];exact⟨rfl,rfl⟩
theorem checkL_eq (l:List (List UInt8)):checkL l=if l.any hasNL=true then 2 else if 2000 < l.length then 3 else if l.any greatB=true then 3 else 0:=by
 unfold checkL hasNL greatB
 split
 ·rfl
 ·split
  ·rename_i h
   split
   ·rfl
   ·rename_i h2;rw [if_pos (h.resolve_left h2)]
  ·rename_i h
   rw [not_or]at h;rw [if_neg h.1,if_neg h.2]
theorem check_any (ao:Option Addr)(cap:Nat)(l:List (List UInt8))(w:World)(hs:SlOf IsStr w ao cap l):
 Calls Tryz.prog 43 #[.slice ao l.length cap] w fun e w'=>e= .returned (.int .i64 (checkL l))∧w'=w:=by
 have hc:l.length≤9223372036854775807:=Nat.le_trans hs.1 hs.2.1;have HC:=Zh (checkL_eq l);have HS:=Zh hs;clear hs;cases he:l.any hasNL with
 | true=>
   have HE:=Zh he;clear he;go_enter Tryz.func43,Tryz.ntmps43;go_wp2_with fail;refine(Zdi _ _ _ _ HS.out ).mono ?_;rintro e w1 ⟨rfl,rfl⟩;rw [HE.out];go_wp2_with fail
   go_ret
   exact⟨by rw [HC.out,HE.out];rfl,rfl⟩
 | false=>
   have HE:=Zh he;clear he
   by_cases hl:2000 < l.length
   ·have HV:=Zh (show checkL l=3 by rw [HC.out,HE.out,if_neg (by simp),if_pos hl])
    go_enter Tryz.func43,Tryz.ntmps43;go_wp2_with fail;refine(Zdi _ _ _ _ HS.out ).mono ?_;rintro e w1 ⟨rfl,rfl⟩;rw [HE.out];go_wp2_with fail
    go_ret
    exact⟨by rw [HV.out];rfl,rfl⟩
   ·cases hg:l.any greatB
    all_goals
     have HG:=Zh hg;clear hg;have HV:=Zh (HC.out);rw [HE.out,if_neg (by simp),if_neg hl,HG.out]at HV;go_enter Tryz.func43,Tryz.ntmps43;go_wp2_with fail;refine(Zdi _ _ _ _ HS.out ).mono ?_;rintro e w1 ⟨rfl,rfl⟩;rw [HE.out];go_wp2_with fail;refine(containsLong_any _ _ _ _ HS.out ).mono ?_;rintro e w1 ⟨rfl,rfl⟩;rw [HG.out];go_wp2_with fail
     go_ret
     exact⟨by rw [HV.out];rfl,rfl⟩
open Go Go.Proofs Go.RowKit Go.Ink
def NewTab (S:Nat→Prop)(w:World)(l:List Line)(e:Ending)(w':World):Prop:=
 if checkL l=0 then∃b,e= .returned (.pointer (some ⟨b,0,none⟩))∧TabOf S w' b (ofS [l])∧Below w.heap.size w w' else e= .returned (.pointer none)∧w=w'
theorem tabNew_any {S:Nat→Prop}(l:List Line)(ao:Option Addr)(cap:Nat)(w:World)(hl:SlOf IsStr w ao cap l)(hlen:l.length≤100000)(hS:∀k,S k→k < w.heap.size):
 Calls Tryz.prog 36 #[.slice ao l.length cap] w (NewTab S w l):=by
 have HL:=Zh hl;clear hl;have HSS:=Zh hS;clear hS
 by_cases h:checkL l=0
 ·have HC:=Zh h;clear h
  go_enter Tryz.func36,Tryz.ntmps36;go_wp2_with fail;refine(check_any _ _ l _ HL.out).mono ?_;rintro e w1 ⟨rfl,rfl⟩;rw [HC.out];go_wp2_with fail;refine(clone_any l _ _ _ HL.out (by omega)).mono ?_;rintro e w2 ⟨v,rfl,ho,hb⟩;obtain⟨a2,k2,hv⟩:=Zdv ho;subst hv;have HB:=Zh hb;have HA:=Zh (Zab w2 (.cells #[.slice a2 l.length k2] 132 (0,0)));have hone:SlOf (IsPc S) (w2.alloc (.cells #[.slice a2 l.length k2] 132 (0,0))) (some ⟨w2.heap.size,0,none⟩) 1 [l]:=by
   refine⟨by simp,by unfold maxLen;omega,by simp,fun k x hk=>?_⟩;have hk0:k=0:=by have:=(List.getElem?_eq_some_iff.1 hk).1;simp at this;exact this
   subst hk0;simp only [List.getElem?_cons_zero,Option.some.injEq]at hk;subst hk;exact⟨w2.heap.size,0,_,rfl,by rw [Lib.cell_of_heap (Zae w2 _)];rfl,_,_,rfl,(own_slA rfl ho HSS.out).later HA.out⟩
  have HO:=Zh hone;clear ho hb hone;have HOF:=Zh (of_any [l] _ 1 _ HO.out (by simp) (by simp [manyS];omega) (fun k h=>by have:=HSS.out _ h;have:=HB.out.size;simp;omega));simp only [List.length_cons,List.length_nil,Nat.zero_add]at HOF;go_wp2_with fail;refine HOF.out.mono ?_;rintro e w3 ⟨b,rfl,ht,hb⟩;have HTB:=Zh ht;have HB3:=Zh (HB.out.trans ((HA.out.trans (hb.mono HA.out.size)).mono HB.out.size));clear ht hb;go_wp2_with fail;go_returns;unfold NewTab;rw [if_pos HC.out];exact⟨b,rfl,HTB.out,HB3.out⟩
 ·have hq:(checkL l==0)=false:=by simpa using h
  have HC:=Zh h;clear h;go_enter Tryz.func36,Tryz.ntmps36;go_wp2_with fail;refine(check_any _ _ l _ HL.out).mono ?_;rintro e w1 ⟨rfl,rfl⟩;go_wp2_with fail;go_returns;unfold NewTab;rw [if_neg HC.out];exact⟨rfl,rfl⟩
open Go Go.Proofs Go.RowKit Go.Ink
open Go Go.Proofs Go.RowKit Go.Ink Go.Sort
open Go Go.Proofs Go.RowKit Go.Ink Go.Sort
structure CoreOf (S:Nat→Prop) (w:World) (c t:Nat) (cur:Int) (ps:List (List Line)):Prop where
 ptr:w.cell? ⟨c,0,none⟩=some (.pointer (some ⟨t,0,none⟩))
 now:w.cell? ⟨c,1,none⟩=some (.int .i64 cur)
 tab:TabOf S w t ps
 few:ps.length≤100000
 many:manyS ps≤1000000
theorem coreNone_of {S:Nat→Prop}{w:World}{c t:Nat}{cur:Int}{ps:List (List Line)}(h:CoreOf S w c t cur ps):Calls Tryz.prog 38 #[.pointer (some ⟨c,0,none⟩)] w fun e w'=>e= .returned (.bool false)∧w'=w:=by
 have h0:=h.ptr;clear h;go_enter Tryz.func38,Tryz.ntmps38;go_wp2_with fail;go_returns;exact⟨rfl,rfl⟩
theorem coreN_of {S:Nat→Prop}{w:World}{c t:Nat}{cur:Int}{ps:List (List Line)}(h:CoreOf S w c t cur ps):Calls Tryz.prog 12 #[.pointer (some ⟨c,0,none⟩)] w fun e w'=>e= .returned (.int .i64 (manyS ps))∧w'=w:=by
 have HN:=Zh (coreNone_of h);have HT:=Zh (tabLen_any t ps w h.tab);have h0:=h.ptr;clear h;go_enter Tryz.func12,Tryz.ntmps12;go_wp2_with fail;refine HN.out.mono ?_;rintro e w1 ⟨rfl,rfl⟩;go_wp2_with fail;refine HT.out.mono ?_;rintro e w2 ⟨rfl,rfl⟩;go_wp2_with fail;go_returns;exact⟨rfl,rfl⟩
end Go.Proofs.YtndjgbehbgcpkaaGreatDoor
