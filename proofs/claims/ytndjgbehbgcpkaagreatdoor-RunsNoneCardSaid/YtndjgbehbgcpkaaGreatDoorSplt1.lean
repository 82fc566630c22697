/- A text's lines, one by one: plain. No program in sight. -/
import Derived.Lib.Bytealg
import Derived.Test.YtndjgbehbgcpkaaGreatDoorEvZ
import Derived.Laws.AppendOwn
import Derived.Test.YtndjgbehbgcpkaaGreatDoorBase
import Derived.Test.YtndjgbehbgcpkaaGreatDoorProg
import Derived.Recover
import Derived.Defers
import Derived.Lib.TrailingZeros
set_option linter.unusedVariables false
set_option linter.unusedSimpArgs false
set_option maxRecDepth 100000
namespace Go.Ink
open Go
end Go.Ink
namespace Go.Ev
open Go Go.RowKit
section
variable {P:Program}{ξ:Nat→Value}{G:Gh}{h h':H}{w w':World}
theorem Rep.below (R:Rep P ξ G h w)(hb:Below w.heap.size w w'):Rep P ξ G h w'∧Step G h w G h w':=
 ⟨⟨R.len,fun b g hg=>Nat.lt_of_lt_of_le (R.lt b g hg) hb.size,fun b x hx=>by
   obtain⟨g,o,h1,h2,h3⟩:=R.blk b x hx;exact⟨g,o,h1,(hb.block _ (R.lt b g h1)).trans h2,h3⟩,R.inj⟩,
  ⟨hb.os,hb.tape,hb.output,hb.size,fun r hr _=>hb.block r hr,fun _ _ h=>h,fun _ _ h=>h,[],by simp⟩⟩
theorem callW_of_below (hN:Zdj P){f:FuncId}{fn:Func}{c:Code}(hf:P.funcs[f]? =some fn)(hb:fn.body=some c){args:Array Value}{v:V}{x:Value}(R:Rep P ξ G h w)(hd:Den ξ G v x)
 (hc:Calls P f args w fun e w'=>e= .returned x∧Below w.heap.size w w'):CallW P f args w (Post P ξ G h w v h):=
 Zez hN hf hb (hc.mono fun _ _ ⟨he,hbl⟩=>⟨x,he,G,hd,(R.below hbl).1,(R.below hbl).2⟩)
noncomputable def hMapCl:Hook:=fun l h=>match l with
 | [.iface t (.map b)]=>hget h b (fun x=>match x with
   | .map es c=>hnew h (some (.map es c)) (fun b h=> .ok (.iface t (.map b),h)) (.no 320)
   | _=> .no 320) (.no 320)
 | _=> .no 320
theorem mapCl_ok {f:Nat}(hE:Ext P f Extern.MapsClone.clone):Zcj P f hMapCl:=by
 intro l h v h' h0;unfold hMapCl at h0
 split at h0
 case h_2=>cases h0
 rename_i t b;obtain⟨x,hx,h1⟩:=Zcm h0
 split at h1
 case h_2=>cases h1
 rename_i es c;obtain⟨h2,h3,h4,h5,h6⟩:=hnew_ok h1;cases h3;refine⟨h5,fun ξ G args w rp hG hd=>?_⟩;simp only [DenL,Den]at hd;obtain⟨y,ys,e1,⟨z,e2,g,hg,e3⟩,e4⟩:=hd;obtain⟨g',o,k1,k2,k3⟩:=rp.blk b _ hx;rw [hg]at k1;simp at k1;subst k1;obtain⟨xs,k4,k5⟩:=k3;subst k4;have ea:args=#[.iface t (.map (some g.addr))]:=by
  apply Array.toList_inj.1
  rw [e1,e2,e3,e4]
 subst ea;obtain⟨q1,q2⟩:=rp.new (d:=w.drawn) (g:=⟨w.heap.size,0,0⟩) (o:= .map xs c) h4 h6 rfl ⟨xs,rfl,k5⟩;have hr:(Extern.MapsClone.clone #[.iface t (.map (some g.addr))]).run P w= .ok (.iface t (.map (some w.heap.size))) { w with heap:=w.heap.push (.map xs c),drawn:=w.drawn }:=by
  have hdef:Extern.MapsClone.clone #[.iface t (.map (some g.addr))]=(do
   let .map entries clock ← getObj g.addr | stuck "maps.clone: a map expected"
   pure (.iface t (.map (some (← newObj (.map entries clock)))))):=rfl
  have hget:(getObj g.addr).run P w= .ok (.map xs c) w:=by simp [getObj,Sem.run,k2]
  rw [hdef];simp [go_sem,hget]
 refine callW_ext hE hr ⟨_,?_,q1,q2⟩;simp only [Den];exact⟨_,rfl,⟨w.heap.size,0,0⟩,by rw [← rp.len];simp,rfl⟩
end
section
variable {P:Program}
theorem true_args (hN:Zdj P)(hm:P.follows .mixedOrders=true){hooks dhooks:List (Nat×Hook)}(hh:∀p∈hooks,Zcj P p.1 p.2)(hd:∀p∈dhooks,DefOk1 P p.1 p.2){cf fuel f:Nat}{l:List V}{h:H}
 (h0:Zcs (Zck P hooks dhooks cf fuel f l h)=true) (hr:RoH h) {ξ:Nat→Value} {G:Gh} {w:World} {args:Array Value} (rp:Rep P ξ G h w) (hG:Zej P G) (ha:DenL ξ G l args.toList):
 Calls P f args w fun e w'=>e= .returned (.bool true)∧Below w.heap.size w w':=by
 obtain⟨h',h1⟩:=isTrue_ok h0;refine(runTop_calls hN hm hh hd h1 _ G args w rp hG ha).mono fun e w' ⟨x,he,G',q1,q2,q3⟩=>?_;simp only [Den]at q1;subst q1;exact⟨he,q3.below hr⟩
def flat:V→Bool
 | .bool _=>true
 | .int .. =>true
 | .str .. =>true
 | _=>false
theorem flat_den {ξ ξ':Nat→Value}{G G':Gh}{v:V}{x:Value}(hf:flat v=true)(h:Den ξ G v x):Den ξ' G' v x:=by
 cases v <;> first | (simp only [Den]at h ⊢;exact h) | cases hf
theorem glob_size {ξ:Nat→Value}{G:Gh}{h:H}{w:World}(rp:Rep P ξ G h w)(hG:Zej P G){n:Nat}(hn:P.globals.size=n):n≤w.heap.size:=by
 cases n with
 | zero=>exact Nat.zero_le _
 | succ n=>
   obtain⟨c,hc⟩:=hG n (by omega);exact rp.lt n _ hc
theorem vars_repT {ξ:Nat→Value}{n:Nat}{h:H}{w:World}(hs:n≤w.heap.size)(hn:h.next=n)(hk:∀b x,h.get b=some x→b < n∧∃o,w.heap[b]? =some o∧BRep P ξ (vars n) ⟨b,0,0⟩ x o):Rep P ξ (vars n) h w:=by
 have hv:∀b (g:GB),(vars n)[b]? =some (some g)→b < n∧g=⟨b,0,0⟩:=fun b g hb=>by
  simp only [vars,List.getElem?_map,Option.map_eq_some_iff]at hb;obtain⟨a,h1,h2⟩:=hb;rw [List.getElem?_eq_some_iff]at h1;obtain⟨h1,h3⟩:=h1;simp at h1 h3 h2;subst h3 h2;exact⟨h1,rfl⟩
 refine⟨by simp [vars,hn],fun b g hb=>?_,fun b x hb=>?_,fun b b' x x' g g' _ _ h3 h4 h5=>?_⟩
 ·obtain⟨h1,rfl⟩:=hv b g hb
  show b < _
  omega
 ·obtain⟨h1,o,h2,h3⟩:=hk b x hb
  exact⟨⟨b,0,0⟩,o,by simp [vars,h1],h2,h3⟩
 ·obtain⟨_,rfl⟩:=hv b g h3
  obtain⟨_,rfl⟩:=hv b' g' h4;exact h5
def tabBlk (t:Nat)(cs:List V):Blk:= .cells cs t .ro 0
theorem row_get {n:Nat}{l:List (Option Blk)}(_:l.length≤8){b:Nat}{x:Blk}(h:(⟨n,[[l]],[]⟩:H).get b=some x):l[b]? =some (some x):=by
 have h1:((((([[l]]:List (List (List (Option Blk))))[b / 64]?).bind (·[b % 64 / 8]?)).bind (·[b % 8]?)).bind id)=some x:=h;cases h64:b / 64 with
 | succ k=>rw [h64]at h1;simp at h1
 | zero=>
   rw [h64]at h1;cases h8:b % 64 / 8 with
   | succ k=>rw [h8]at h1;simp at h1
   | zero=>
     rw [h8]at h1;simp only [List.getElem?_cons_zero,Option.bind_some]at h1;have e:b % 8=b:=by omega
     rw [e]at h1;cases hq:l[b]? with
     | none=>rw [hq]at h1;cases h1
     | some y=>rw [hq]at h1;simp at h1;rw [h1]
def OneTab (l:List (Option Blk))(g t:Nat)(cs:List V):Prop:=l.length≤8∧∀b x,l[b]? =some (some x)→b=g∧x=tabBlk t cs
theorem tab_rep {ξ:Nat→Value}{n g t:Nat}{cs:List V}{l:List (Option Blk)}{w:World}(hs:n≤w.heap.size)(hg:g < n)(hl:OneTab l g t cs)(hw:∃o,w.heap[g]? =some o∧BRep P ξ (vars n) ⟨g,0,0⟩ (tabBlk t cs) o):Rep P ξ (vars n) ⟨n,[[l]],[]⟩ w:=
 vars_repT hs rfl fun b x hb=>by
  obtain⟨rfl,rfl⟩:=hl.2 b x (row_get hl.1 hb);exact⟨hg,hw⟩
theorem tab_ro {n g t:Nat}{cs:List V}{l:List (Option Blk)}(hl:OneTab l g t cs):RoH ⟨n,[[l]],[]⟩:=fun b x hb hw=>by
 obtain⟨rfl,rfl⟩:=hl.2 b x (row_get hl.1 hb);exact hw
end
end Go.Ev
namespace Go.Proofs.YtndjgbehbgcpkaaGreatDoor
open Go Go.Proofs Go.Ev Go.RowKit
theorem no_count:Zdj Tryz.prog:=noCount_ok (by decide+kernel)
theorem mixed:Tryz.prog.follows .mixedOrders=true:=by decide+kernel
noncomputable def hRec:Hook:=fun l h=>match l with
 | [_,_]=> .ok (.tup [],h)
 | _=> .no 340
theorem rec_ok:DefOk1 Tryz.prog 148 hRec:=by
 intro l h v h' h0;unfold hRec at h0
 split at h0
 case h_2=>cases h0
 cases h0;refine⟨rfl,fun ξ G args w rp hG hd=>?_⟩;simp only [DenL]at hd;obtain⟨x,xs,e1,_,y,ys,e2,_,e3⟩:=hd;have ea:args=#[x,y]:=by
  apply Array.toList_inj.1
  rw [e1,e2,e3]
 subst ea;have hb:Tryz.f148.body=some ((Tryz.f148.body).getD .skip):=by kernel_rfl
 refine⟨callFunc_run no_count Tryz.func148 hb _ w,?_⟩;refine callsD_of_wpS Tryz.func148 rfl fun c₀ cs hu=>?_;simp only [Tryz.ntmps148,List.size_toArray,List.length_cons,List.length_nil,Nat.reduceAdd,Nat.reduceSub,Array.replicate_succ,Array.replicate_zero,List.push_toArray,List.append_toArray,List.nil_append,List.cons_append];refine wpS_seq (wpS_region ?_);have hr:recoverD (c₀::cs)=none:=by simp [recoverD,hu]
 simp [wpOpsS,List.range_succ,Region.wanted,go_sem,hr,Exit.thenS,Act.put];refine wpS_of_wp ?_;go_wp2_with fail;refine⟨rfl,.returning,?_,.tuple #[],results_none rfl _ _ _,rfl,.tuple #[],rfl,G,?_,rp,Step.refl _ _ _⟩
 ·rw [← hu]
 ·simp only [Den]
  exact⟨_,rfl,DenL.nil⟩
end Go.Proofs.YtndjgbehbgcpkaaGreatDoor
namespace Go.Ev
open Go Go.RowKit
section
variable {P:Program}
def Zcq (n:Nat)(lr:List (Option Blk))(el:Nat)(cs:List V):H:=⟨n+1,[[lr++[some (tabBlk el cs)]]],[]⟩
theorem slHeap_get {n el g t:Nat}{lr:List (Option Blk)}{cs ts:List V}(hn:lr.length=n)(h8:n < 8)(hl:OneTab lr g t ts){b:Nat}{x:Blk}(h:(Zcq n lr el cs).get b=some x):(b=g∧x=tabBlk t ts)∨(b=n∧x=tabBlk el cs):=by
 have h1:=row_get (n:=n+1) (by rw [List.length_append,hn];simp;omega) h;rw [List.getElem?_append]at h1
 split at h1
 ·exact .inl (hl.2 b x h1)
 ·rename_i hlt
  rw [List.getElem?_singleton]at h1
  split at h1
  ·rename_i h0
   refine .inr ⟨by omega,?_⟩;simp at h1;exact h1.symm
  ·cases h1
theorem slHeap_ro {n el g t:Nat}{lr:List (Option Blk)}{cs ts:List V}(hn:lr.length=n)(h8:n < 8)(hl:OneTab lr g t ts):RoH (Zcq n lr el cs):=fun b x hb hw=>by
 rcases slHeap_get hn h8 hl hb with⟨_,rfl⟩ | ⟨_,rfl⟩ <;> exact hw
theorem slHeap_rep {ξ:Nat→Value}{n el g t a:Nat}{lr:List (Option Blk)}{cs ts:List V}{w:World}(hn:lr.length=n)(h8:n < 8)(hl:OneTab lr g t ts)(hs:n≤w.heap.size)(hg:g < n)(ha:a < w.heap.size)(hga:g≠a)(hcs:cs.all flat=true)(hts:ts.all flat=true)
 (hw:∃o ξ' G',w.heap[g]? =some o∧BRep P ξ' G' ⟨g,0,0⟩ (tabBlk t ts) o) (hx:∃o ξ' G',w.heap[a]? =some o∧BRep P ξ' G' ⟨a,0,0⟩ (tabBlk el cs) o):Rep P ξ (vars n++[some ⟨a,0,0⟩]) (Zcq n lr el cs) w:=by
 have hv:∀{b:Nat},b < n→(vars n++[some (⟨a,0,0⟩:GB)])[b]? =some (some ⟨b,0,0⟩):=fun {b} hb=>by
  rw [List.getElem?_append_left (by simp [vars];exact hb)];simp [vars,hb]
 have hlast:(vars n++[some (⟨a,0,0⟩:GB)])[n]? =some (some ⟨a,0,0⟩):=by
  rw [List.getElem?_append_right (by simp [vars])];simp [vars]
 have flatB:∀{ξ':Nat→Value} {G' G:Gh} {g0:GB} {tt:Nat} {l:List V} {o:Obj},l.all flat=true→BRep P ξ' G' g0 (tabBlk tt l) o→BRep P ξ G g0 (tabBlk tt l) o:=by
  rintro ξ' G' G g0 tt l o hf ⟨arr,lo,hi,r1,r2,r3,r4⟩;refine⟨arr,lo,hi,r1,fun i u hu=>?_,r3,r4⟩;obtain⟨y,hy,hden⟩:=r2 i u hu;exact⟨y,hy,flat_den (List.all_eq_true.1 hf u (List.mem_of_getElem? hu)) hden⟩
 obtain⟨o1,ξ1,G1,w1,b1⟩:=hw;obtain⟨o2,ξ2,G2,w2,b2⟩:=hx;refine⟨by simp [vars,Zcq],fun b gb hb=>?_,fun b x hb=>?_,fun b b' x x' g1 g2 h1 h2 h3 h4 h5=>?_⟩
 ·rcases Nat.lt_or_ge b n with h | h
  ·rw [hv h]at hb
   cases hb;exact Nat.lt_of_lt_of_le h hs
  ·rcases Nat.eq_or_lt_of_le h with rfl | h
   ·rw [hlast]at hb;cases hb;exact ha
   ·rw [List.getElem?_eq_none (by simp [vars];omega)]at hb;cases hb
 ·rcases slHeap_get hn h8 hl hb with⟨rfl,rfl⟩ | ⟨rfl,rfl⟩
  ·exact⟨_,o1,hv hg,w1,flatB hts b1⟩
  ·exact⟨_,o2,hlast,w2,flatB hcs b2⟩
 ·rcases slHeap_get hn h8 hl h1 with⟨rfl,_⟩ | ⟨rfl,_⟩ <;> rcases slHeap_get hn h8 hl h2 with⟨rfl,_⟩ | ⟨rfl,_⟩
  ·rfl
  ·rw [hv hg]at h3;rw [hlast]at h4;cases h3;cases h4;exact absurd h5 hga
  ·rw [hlast]at h3;rw [hv hg]at h4;cases h3;cases h4;exact absurd h5.symm hga
  ·rfl
noncomputable def hMemoS (g t el:Nat)(ts:List V)(tbl:List (List V×List V)):Hook:=fun l h=>match l with
 | [x,y,z,.slice k 0 n m]=>hget h k (fun q=>match q with
   | .cells ds e .own _=>cond (Nat.beq e el) (cond (Nat.beq k g) (.no 333) (cond (tbl.any fun p=>cond (vEqs p.1 [x,y,z]) (cond (vEqs p.2 ds) (cond (Nat.beq n p.2.length) (Nat.beq m p.2.length) false) false) false)
     (hget h g (fun x=>match x with
       | .cells cs' t' .ro _=>cond (Nat.beq t t') (cond (vEqs ts cs') (.ok (.bool true,h)) (.no 331)) (.no 331)
       | _=> .no 331) (.no 331)) (.no 332))) (.no 334)
   | _=> .no 334) (.no 334)
 | _=> .no 335
theorem memoS_ok (hN:Zdj P)(hm:P.follows .mixedOrders=true){cf fuel f n g t el:Nat}{ts:List V}{lr:List (Option Blk)}{fn:Func}{c:Code}(hf:P.funcs[f]? =some fn)(hb:fn.body=some c)(hn:P.globals.size=n)
 (hlr:lr.length=n) (h8:n < 8) (hg:g < n) (hl:OneTab lr g t ts) (hts:ts.all flat=true) {tbl:List (List V×List V)} (ht:∀p∈tbl,∃hooks dhooks:List (Nat×Hook),(∀p∈hooks,Zcj P p.1 p.2)∧(∀p∈dhooks,DefOk1 P p.1 p.2)∧Zcs (Zck P hooks dhooks cf fuel f (p.1++[.slice n 0 p.2.length p.2.length]) (Zcq n lr el p.2))=true) (hp:∀p∈tbl,p.1.all flat=true∧p.2.all flat=true):Zcj P f (hMemoS g t el ts tbl):=by
 intro l h v h' h0;unfold hMemoS at h0
 split at h0
 case h_2=>cases h0
 rename_i x y z k n1 m1;obtain⟨q,hq,h1⟩:=Zcm (e:=334) h0
 split at h1
 case h_2=>cases h1
 rename_i ds e fz;obtain⟨e1,h2⟩:=Zan (c:=334) h1;obtain⟨e2,h3⟩:=Zcc (c:=333) h2;obtain⟨e3,h4⟩:=Zan (c:=332) h3;cases Nat.eq_of_beq_eq_true e1;obtain⟨p,hpt,e4⟩:=List.any_eq_true.1 e3;obtain⟨e5,e6⟩:=Zbf e4;obtain⟨e7,e8⟩:=Zbf e6;obtain⟨e9,e10⟩:=Zbf e8;obtain⟨p1,p2⟩:=p;simp only at e5 e7 e9 e10;cases Zeu e5;cases Zeu e7;cases Nat.eq_of_beq_eq_true e9;cases Nat.eq_of_beq_eq_true e10;obtain⟨xt,hxt,h5⟩:=Zcm (e:=331) h4
 split at h5
 case h_2=>cases h5
 rename_i cs' t' fz';obtain⟨e11,h6⟩:=Zan (c:=331) h5;obtain⟨e12,h7⟩:=Zan (c:=331) h6;cases Nat.eq_of_beq_eq_true e11;cases Zeu e12;cases h7;refine⟨rfl,fun ξ G args w rp hG hda=>?_⟩;obtain⟨gk,ok,k1,k2,arr,lo,hi,k3,k4,k5,k6,k7⟩:=rp.blk k _ hq;obtain⟨gk',ga,gc⟩:=gk;simp only at k6;subst k6;obtain⟨g0,o,r1,r2,r3⟩:=rp.blk g _ hxt;obtain⟨c0,hc0⟩:=hG g (by omega);rw [hc0]at r1;simp at r1;subst r1;have hne:g≠gk':=fun e=>by
  have:=rp.inj g k _ _ _ _ hxt hq hc0 k1 e;rw [this,Nat.beq_refl]at e2;cases e2
 have hR:Rep P (fun _=>undef) (vars n++[some ⟨gk',0,0⟩]) (Zcq n lr el ds) w:=
  slHeap_rep hlr h8 hl (glob_size rp hG hn) hg (Array.getElem?_eq_some_iff.1 k2).1 hne (hp _ hpt).2 hts ⟨o,ξ,G,r2,by
   obtain⟨a1,a2,a3,a4,a5,a6,_⟩:=r3;exact⟨a1,a2,a3,a4,a5,a6,rfl⟩⟩ ⟨ok,ξ,G,k2,arr,lo,hi,k3,k4,k5,rfl⟩
 have hGl:Zej P (vars n++[some ⟨gk',0,0⟩]):=fun b hb'=>⟨0,by
  rw [hn]at hb';rw [List.getElem?_append_left (by simp [vars];exact hb')];simp [vars,hb']⟩
 have hlast:(vars n++[some (⟨gk',0,0⟩:GB)])[n]? =some (some ⟨gk',0,0⟩):=by
  rw [List.getElem?_append_right (by simp [vars])];simp [vars]
 have hd3:DenL (fun _=>undef) (vars n++[some ⟨gk',0,0⟩]) ([x,y,z]++[.slice n 0 ds.length ds.length]) args.toList:=by
  have hfl:=(hp _ hpt).1;simp only [List.all_cons,List.all_nil,Bool.and_true,Bool.and_eq_true]at hfl;simp only [DenL]at hda;obtain⟨a0,l0,q1,q2,a1,l1,q3,q4,a2,l2,q5,q6,a3,l3,q7,q8,q9⟩:=hda;simp only [Den]at q8;obtain⟨gg,q10,q11⟩:=q8;rw [k1]at q10;cases q10;rw [q1,q3,q5,q7,q9,q11];exact DenL.cons (flat_den hfl.1 q2) (DenL.cons (flat_den hfl.2.1 q4) (DenL.cons (flat_den hfl.2.2 q6) (DenL.one (by simp only [Den];exact⟨_,hlast,rfl⟩))))
 obtain⟨hooks,dhooks,hh,hd,hrun⟩:=ht _ hpt;exact callW_of_below hN hf hb rp (by simp [Den]) (true_args hN hm hh hd hrun (slHeap_ro hlr h8 hl) hR hGl hd3)
end
section
variable {P:Program}
noncomputable def hNoZ (el:Nat):Hook:=fun l h=>match l with
 | [.int .i64 (.ofNat n)]=>cond (Nat.ble n 281474976710656) (lapp (repl n [.junk]) [] fun cs=>newG el .grow cs n 0 h fun v h=> .ok (v,h)) (.no 327)
 | _=> .no 327
theorem noz_digits:∀(n t:Nat) (acc:Array Value),(∀(i:Nat) (x:Value),acc[i]? =some x→∃(k:IntKind) (m:Int),x=Value.int k m)→(Extern.BytealgMakeNoZero.digits n t acc).size=acc.size+n∧∀(i:Nat) (x:Value),(Extern.BytealgMakeNoZero.digits n t acc)[i]? =some x→∃(k:IntKind) (m:Int),x=Value.int k m
 | 0,t,acc,h=>⟨rfl,h⟩
 | n+1,t,acc,h=>by
   obtain⟨h1,h2⟩:=noz_digits n (t / 256) (acc.push (.int .u8 (Int.ofNat (t % 256)))) (fun i x hx=>by
    rw [Array.getElem?_push]at hx
    split at hx
    ·cases hx;exact⟨_,_,rfl⟩
    ·exact h i x hx)
   refine⟨?_,h2⟩
   show(Extern.BytealgMakeNoZero.digits n (t / 256) _).size=_
   rw [h1,Array.size_push];omega
theorem noz_ok {f:Nat}{ps rs:Array TypeId}{t el:TypeId}(hE:Ext P f (Extern.BytealgMakeNoZero.makeNoZero ps rs))(hrs:rs[0]? =some t)(hu:P.underlying t=some (.slice el))(hc:P.cellsOf el=1):Zcj P f (hNoZ el):=by
 intro l h v h' h0;unfold hNoZ at h0
 split at h0
 case h_2=>cases h0
 rename_i n;obtain⟨hb,h1⟩:=Zan h0;have hn:n≤281474976710656:=Nat.le_of_ble_eq_true hb;rw [lapp_eq,List.append_nil]at h1;obtain⟨h2,h3,h4,h5,h6⟩:=hnew_ok h1;cases h3;refine⟨h5,fun ξ G args w rp hG hd=>?_⟩;simp only [DenL,Den]at hd;obtain⟨y,ys,e1,e2,e3⟩:=hd;have ea:args=#[.int .i64 (n:Int)]:=by
  apply Array.toList_inj.1
  rw [e1,e2,e3]
  rfl
 subst ea;obtain⟨cap,hcap⟩:∃cap,(Question.appendCap n 0 el).cut (w.tape w.drawn (.appendCap n 0 el))=cap:=⟨_,rfl⟩;obtain⟨bs,hbs⟩:∃bs,(Question.extern "internal/bytealg.MakeNoZero.bytes" 0).cut (w.drew.tape w.drew.drawn (.extern "internal/bytealg.MakeNoZero.bytes" 0))=bs:=⟨_,rfl⟩;have hge:n≤cap:=by rw [← hcap];simp [Question.cut]
 obtain⟨q1,q2⟩:=noz_digits cap bs #[] (fun i x hx=>by simp at hx);have hr:(Extern.BytealgMakeNoZero.makeNoZero ps rs #[.int .i64 (n:Int)]).run P w= .ok (.slice (some ⟨w.heap.size,0,none⟩) n cap) { w with heap:=w.heap.push (.cells (Extern.BytealgMakeNoZero.digits cap bs #[]) el),drawn:=w.drawn+2 }:=by
  have hdef:Extern.BytealgMakeNoZero.makeNoZero ps rs #[.int .i64 (n:Int)]=(do
   let some t:=rs[0]? | stuck "bytealg.MakeNoZero: no result type"
   let .slice elem ← underlying t | stuck "bytealg.MakeNoZero: slice type expected"
   if (n:Int) < 0 || (n:Int) > 2 ^ 48 then runtimePanic (.error "makeslice: len out of range")
   let cap ← choose (.appendCap (n:Int).toNat 0 elem)
   askRoom cap
   let bytes ← choose (.extern "internal/bytealg.MakeNoZero.bytes" 0)
   let a ← newRow elem (Extern.BytealgMakeNoZero.digits cap bytes #[])
   pure (.slice (some a) (n:Int).toNat cap)):=rfl
  have hneg:(decide ((n:Int) < 0) || decide ((n:Int) > 2 ^ 48))=false:=by
   rw [Bool.or_eq_false_iff];exact⟨decide_eq_false (by omega),decide_eq_false (by omega)⟩
  rw [hdef];simp only [hrs,Sem.run_bind,Zac hu,Result.andThen_ok,hneg,Bool.false_eq_true,if_false,Int.toNat_natCast,Sem.run_pure,run_askRoom];simp [newRow,go_sem];have hbs':(Question.extern "internal/bytealg.MakeNoZero.bytes" 0).cut (w.tape (w.drawn+1) (Question.extern "internal/bytealg.MakeNoZero.bytes" 0))=bs:=hbs;refine⟨hcap,?_⟩;rw [hcap,hbs']
  rfl
 refine callW_ext hE hr ?_;obtain⟨r1,r2⟩:=rp.new (d:=w.drawn+2) (g:=⟨w.heap.size,0,cap⟩) (o:= .cells (Extern.BytealgMakeNoZero.digits cap bs #[]) el) h4 h6 rfl (by
  refine⟨_,0,0,rfl,fun i u hu=>?_,?_,?_,.inl (Nat.zero_le _)⟩
  ·have hi:i < n:=by
    have:=(List.getElem?_eq_some_iff.1 hu).1
    rwa [repl_len]at this
   rw [repl_get,if_pos hi]at hu;cases hu;have hlt:i < (Extern.BytealgMakeNoZero.digits cap bs #[]).size:=by rw [q1];simp;omega
   refine⟨_,by rw [Nat.zero_add];exact Array.getElem?_eq_getElem hlt,?_⟩;simp only [Den];exact q2 i _ (Array.getElem?_eq_getElem hlt)
  ·show 0+(repl n [V.junk]).length≤_
   rw [repl_len,q1];simp;omega
  ·show 0+cap * P.cellsOf el≤_
   rw [hc,q1];simp)
 refine⟨_,?_,r1,r2⟩;simp only [Den];exact⟨⟨w.heap.size,0,cap⟩,by rw [← rp.len];simp,by simpa using hge,Nat.le_refl _,rfl⟩
end
end Go.Ev
namespace Go.Proofs.YtndjgbehbgcpkaaGreatDoor
open Go Go.Proofs Go.Ev Go.RowKit Go.Ink
theorem ext_index:Ext Tryz.prog 130 Extern.BytealgIndexByte.indexByte:=⟨Tryz.f130,by kernel_rfl,by kernel_rfl,by kernel_rfl,by kernel_rfl,by kernel_rfl⟩
theorem ext_count:Ext Tryz.prog 257 Extern.BytealgCount.count:=⟨Tryz.f257,by kernel_rfl,by kernel_rfl,by kernel_rfl,by kernel_rfl,by kernel_rfl⟩
theorem ext_same:Ext Tryz.prog 178 Extern.AbiNoEscape.same:=⟨Tryz.f178,by kernel_rfl,by kernel_rfl,by kernel_rfl,by kernel_rfl,by kernel_rfl⟩
theorem ext_clone:Ext Tryz.prog 129 Extern.MapsClone.clone:=⟨Tryz.f129,by kernel_rfl,by kernel_rfl,by kernel_rfl,by kernel_rfl,by kernel_rfl⟩
theorem ext_noz:Ext Tryz.prog 232 (Extern.BytealgMakeNoZero.makeNoZero Tryz.f232.params Tryz.f232.resultTypes):=⟨Tryz.f232,by kernel_rfl,by kernel_rfl,by kernel_rfl,by kernel_rfl,by kernel_rfl⟩
noncomputable def Zbd:List (Nat×Hook):=[(130,hIdx),(129,hMapCl),(178,hSame),(257,hCnt),(232,hNoZ 5)]
noncomputable def Zav:List (Nat×Hook):=[(148,hRec)]
theorem Zbj:∀p∈Zbd,Zcj Tryz.prog p.1 p.2:=by
 intro p hp;simp only [Zbd,List.mem_cons,List.not_mem_nil,or_false]at hp;rcases hp with rfl | rfl | rfl | rfl | rfl
 ·exact idx_ok ext_index
 ·exact mapCl_ok ext_clone
 ·exact same_ok ext_same
 ·exact cnt_ok ext_count
 ·exact noz_ok ext_noz (t:=81) (by kernel_rfl) Tryz.underlying81 (by kernel_rfl)
theorem Zbb:∀p∈Zav,DefOk1 Tryz.prog p.1 p.2:=by
 intro p hp;simp only [Zav,List.mem_cons,List.not_mem_nil,or_false]at hp;subst hp;exact rec_ok
def deB:List V:=[.int .u8 0,.int .u8 1,.int .u8 56,.int .u8 2,.int .u8 57,.int .u8 49,.int .u8 28,.int .u8 3,.int .u8 61,.int .u8 58,.int .u8 42,.int .u8 50,.int .u8 38,.int .u8 29,.int .u8 17,.int .u8 4,.int .u8 62,.int .u8 47,.int .u8 59,.int .u8 36,.int .u8 45,.int .u8 43,.int .u8 51,.int .u8 22,.int .u8 53,.int .u8 39,.int .u8 33,.int .u8 30,.int .u8 24,.int .u8 18,.int .u8 12,.int .u8 5,.int .u8 63,.int .u8 55,.int .u8 48,.int .u8 27,.int .u8 60,.int .u8 41,.int .u8 37,.int .u8 16,.int .u8 46,.int .u8 35,.int .u8 44,.int .u8 21,.int .u8 52,.int .u8 32,.int .u8 23,.int .u8 11,.int .u8 54,.int .u8 26,.int .u8 40,.int .u8 15,.int .u8 34,.int .u8 20,.int .u8 31,.int .u8 10,.int .u8 25,.int .u8 14,.int .u8 19,.int .u8 9,.int .u8 13,.int .u8 8,.int .u8 7,.int .u8 6]
def lr23:List (Option Blk):=[none,none,none,none,none,some (tabBlk 365 deB)]
noncomputable def heap23:H:=⟨6,[[lr23]],[]⟩
theorem one23:OneTab lr23 5 365 deB:=by
 refine⟨by decide,fun b x h=>?_⟩
 match b,h with
 | 0,h=>cases h
 | 1,h=>cases h
 | 2,h=>cases h
 | 3,h=>cases h
 | 4,h=>cases h
 | 5,h=>
   simp [lr23]at h;exact⟨rfl,h.symm⟩
 | b+6,h=>simp [lr23]at h
noncomputable def dI (n:Int):V:= .int .i64 n
noncomputable def dU (n:Int):V:= .int .u8 n
noncomputable def dF:V:= .bool false
noncomputable def dS (n c:Nat):V:= .str n c
noncomputable def dC (l:List V)(t:Nat):Option Blk:=some (.cells l t .own 0)
noncomputable def dA (a b:List V):List V:=List.append a b
noncomputable def dR (n:Nat)(v:V):List V:=List.replicate n v
open Go Go.Proofs Go.Ev Go.RowKit Go.Ink
def is0A:List V×List V:=([.str 4 1628070410,.str 6 106843253531436,.int .i64 2],[.str 4 824980080])
theorem is0_run:Zcs (Zck Tryz.prog Zbd Zav 3000 60 25 (is0A.1++[.slice 6 0 is0A.2.length is0A.2.length]) (Zcq 6 lr23 9 is0A.2))=true:=by decide+kernel
def is1A:List V×List V:=([.str 4 839475722,.str 6 106843253531436,.int .i64 2],[.str 2 12910])
theorem is1_run:Zcs (Zck Tryz.prog Zbd Zav 3000 60 25 (is1A.1++[.slice 6 0 is1A.2.length is1A.2.length]) (Zcq 6 lr23 9 is1A.2))=true:=by decide+kernel
def is2A:List V×List V:=([.str 3 6366218,.str 6 106843253531436,.int .i64 1],[.str 2 12652])
theorem is2_run:Zcs (Zck Tryz.prog Zbd Zav 3000 60 25 (is2A.1++[.slice 6 0 is2A.2.length is2A.2.length]) (Zcq 6 lr23 9 is2A.2))=true:=by decide+kernel
def is3A:List V×List V:=([.str 0 0,.str 4 1647076140,.int .i64 1],[.str 2 12644])
theorem is3_run:Zcs (Zck Tryz.prog Zbd Zav 3000 60 25 (is3A.1++[.slice 6 0 is3A.2.length is3A.2.length]) (Zcq 6 lr23 9 is3A.2))=true:=by decide+kernel
def is4A:List V×List V:=([.str 0 0,.str 6 106843253531436,.int .i64 3],[.str 2 12644,.str 1 117])
theorem is4_run:Zcs (Zck Tryz.prog Zbd Zav 3000 60 25 (is4A.1++[.slice 6 0 is4A.2.length is4A.2.length]) (Zcq 6 lr23 9 is4A.2))=true:=by decide+kernel
open Go Go.Proofs Go.Ev Go.RowKit Go.Ink
def is5A:List V×List V:=([.str 0 0,.str 5 418258903852,.int .i64 1],[.str 4 824980074])
theorem is5_run:Zcs (Zck Tryz.prog Zbd Zav 3000 60 25 (is5A.1++[.slice 6 0 is5A.2.length is5A.2.length]) (Zcq 6 lr23 9 is5A.2))=true:=by decide+kernel
def is6A:List V×List V:=([.str 0 0,.str 6 107942781935916,.int .i64 3],[.str 3 3239204])
theorem is6_run:Zcs (Zck Tryz.prog Zbd Zav 3000 60 25 (is6A.1++[.slice 6 0 is6A.2.length is6A.2.length]) (Zcq 6 lr23 9 is6A.2))=true:=by decide+kernel
def is7A:List V×List V:=([.str 0 0,.str 8 7074135957945738028,.int .i64 1],[.str 3 3306544])
theorem is7_run:Zcs (Zck Tryz.prog Zbd Zav 3000 60 25 (is7A.1++[.slice 6 0 is7A.2.length is7A.2.length]) (Zcq 6 lr23 9 is7A.2))=true:=by decide+kernel
def is9A:List V×List V:=([.str 0 0,.str 6 109042276786476,.int .i64 1],[.str 6 113452335983920])
theorem is9_run:Zcs (Zck Tryz.prog Zbd Zav 3000 60 25 (is9A.1++[.slice 6 0 is9A.2.length is9A.2.length]) (Zcq 6 lr23 9 is9A.2))=true:=by decide+kernel
end Go.Proofs.YtndjgbehbgcpkaaGreatDoor
namespace Go.Ev
open Go Go.RowKit
section
variable {P:Program}
theorem Rep.forget {ξ:Nat→Value}{G:Gh}{h h':H}{w:World}(R:Rep P ξ G h w)(hn:h'.next=h.next)(hs:∀b x,h'.get b=some x→h.get b=some x):Rep P ξ G h' w:=
 ⟨by rw [hn];exact R.len,R.lt,fun b x hb=>R.blk b x (hs b x hb),fun b b' x x' g g' h1 h2=>R.inj b b' x x' g g' (hs b x h1) (hs b' x' h2)⟩
theorem Step.forget {G G':Gh}{h h1 h':H}{w w':World}(s:Step G h w G' h1 w')(hs:∀b x,h'.get b=some x→h1.get b=some x):Step G h w G' h' w':=
 ⟨s.os,s.tape,s.output,s.size,s.keep,fun r hr ⟨b,x,g,q1,q2,q3,q4⟩=>s.wr r hr ⟨b,x,g,hs b x q1,q2,q3,q4⟩,fun r hr ⟨b,x,g,q1,q2,q3⟩=>s.kn r hr ⟨b,x,g,hs b x q1,q2,q3⟩,s.pre⟩
def kEq:BK→BK→Bool
 | .own,.own=>true
 | .grow,.grow=>true
 | .conv,.conv=>true
 | .ro,.ro=>true
 | _,_=>false
theorem kEq_eq:∀{a b:BK},kEq a b=true→a=b
 | .own,.own,_=>rfl
 | .grow,.grow,_=>rfl
 | .conv,.conv,_=>rfl
 | .ro,.ro,_=>rfl
 | .own,.grow,h | .own,.conv,h | .own,.ro,h | .grow,.own,h | .grow,.conv,h | .grow,.ro,h | .conv,.own,h | .conv,.grow,h | .conv,.ro,h | .ro,.own,h | .ro,.grow,h | .ro,.conv,h=>by cases h
noncomputable def mEq:List (V×V×Nat)→List (V×V×Nat)→Bool
 | [],[]=>true
 | (a,b,n)::l,(a',b',n')::l'=>cond (vEqs [a,b] [a',b']) (cond (Nat.beq n n') (mEq l l') false) false
 | _,_=>false
theorem mEq_eq:∀{l l':List (V×V×Nat)},mEq l l'=true→l=l'
 | [],[],_=>rfl
 | (a,b,n)::l,(a',b',n')::l',h=>by
   obtain⟨h1,h2⟩:=Zbf (show cond _ _ false=true from h);obtain⟨h3,h4⟩:=Zbf h2;cases Zeu h1;cases Nat.eq_of_beq_eq_true h3;cases mEq_eq h4
   rfl
 | [],_::_,h | _::_,[],h=>by cases h
noncomputable def oEq:Obj→Obj→Bool
 | .cells ⟨[.iface a (.agg ⟨[.pointer (some ⟨b,c,none⟩)]⟩)]⟩ t (0,0),.cells ⟨[.iface a' (.agg ⟨[.pointer (some ⟨b',c',none⟩)]⟩)]⟩ t' (0,0)=>cond (Nat.beq a a') (cond (Nat.beq b b') (cond (Nat.beq c c') (Nat.beq t t') false) false) false
 | _,_=>false
theorem oEq_eq {o o':Obj}(h:oEq o o'=true):o=o':=by
 unfold oEq at h
 split at h
 ·obtain⟨h1,h2⟩:=Zbf h
  obtain⟨h3,h4⟩:=Zbf h2;obtain⟨h5,h6⟩:=Zbf h4;cases Nat.eq_of_beq_eq_true h1;cases Nat.eq_of_beq_eq_true h3;cases Nat.eq_of_beq_eq_true h5;cases Nat.eq_of_beq_eq_true h6
  rfl
 ·cases h
noncomputable def bEq:Blk→Blk→Bool
 | .cells cs e k f,.cells cs' e' k' f'=>cond (vEqs cs cs') (cond (Nat.beq e e') (cond (kEq k k') (Nat.beq f f') false) false) false
 | .map es c,.map es' c'=>cond (mEq es es') (Nat.beq c c') false
 | .siter n c p,.siter n' c' p'=>cond (Nat.beq n n') (cond (Nat.beq c c') (Nat.beq p p') false) false
 | .known o,.known o'=>oEq o o'
 | _,_=>false
theorem bEq_eq {x y:Blk}(h:bEq x y=true):x=y:=by
 unfold bEq at h
 split at h
 ·obtain⟨h1,h2⟩:=Zbf h
  obtain⟨h3,h4⟩:=Zbf h2;obtain⟨h5,h6⟩:=Zbf h4;cases Zeu h1;cases Nat.eq_of_beq_eq_true h3;cases kEq_eq h5;cases Nat.eq_of_beq_eq_true h6
  rfl
 ·obtain⟨h1,h2⟩:=Zbf h
  cases mEq_eq h1;cases Nat.eq_of_beq_eq_true h2
  rfl
 ·obtain⟨h1,h2⟩:=Zbf h
  obtain⟨h3,h4⟩:=Zbf h2;cases Nat.eq_of_beq_eq_true h1;cases Nat.eq_of_beq_eq_true h3;cases Nat.eq_of_beq_eq_true h4
  rfl
 ·cases oEq_eq h
  rfl
 ·cases h
structure Piece where
 l:List V
 h:H
 v:V
 h':H
end
end Go.Ev
