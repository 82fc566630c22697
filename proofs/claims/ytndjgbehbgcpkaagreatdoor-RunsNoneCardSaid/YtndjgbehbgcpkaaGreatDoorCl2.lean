/- Classes of bytes: the functions that are named. -/
import Derived.Test.YtndjgbehbgcpkaaGreatDoorBra
import Derived.Test.YtndjgbehbgcpkaaGreatDoorInv
import Derived.Laws.EntriesVeiled
set_option linter.unusedVariables false
set_option linter.unusedSimpArgs false
set_option maxRecDepth 100000
set_option maxHeartbeats 4000000
namespace Go.Proofs.YtndjgbehbgcpkaaGreatDoor
open Go Go.Proofs Go.RowKit Go.Ink Go.Sort
theorem IsV.shape {w:World}{v:Value}(h:IsV w v):∃f cap,v= .func (.func f) #[] cap:=by cases h <;> exact⟨_,_,rfl⟩
def IsVs (w:World)(v:Value):Prop:=∃(g n cap:Nat) (cs:Array Value) (T:TypeId) (fr:Nat×Nat) (vs:Nat→Value),v= .slice (some ⟨g,0,none⟩) n cap∧n≤100∧w.heap[g]? =some (.cells cs T fr)∧(∀i,i < n→cs[i]? =some (vs i))∧∀i,i < n→IsV w (vs i)
def MapV (lo:Nat)(w:World)(v:Value):Prop:=∃r es c,v= .map (some r)∧w.heap[r]? =some (.map es c)∧Inv.AllE (IsV w) es∧lo≤r
theorem IsVs.kept {w w':World}{v:Value}{Z:Nat→Prop}(h:IsVs w v)(hk:KeepT Z w w')(hz:∀j,Z j→∀cs T fr,w.heap[j]?≠some (.cells cs T fr)):IsVs w' v:=by
 obtain⟨g,n,cap,cs,T,fr,vs,e,h1,h2,h3,h4⟩:=h;exact⟨g,n,cap,cs,T,fr,vs,e,h1,(hk.block g (Zaa h2) (fun e=>hz g e _ _ _ h2)).trans h2,h3,fun i hi=>(h4 i hi).kept hk hz⟩
theorem IsVs.later {w w':World}{v:Value}(h:IsVs w v)(hb:Below w.heap.size w w'):IsVs w' v:=h.kept (KeepT.of_below (S:=fun _=>False) hb) (fun _ h=>h.elim)
theorem MapV.later {lo:Nat}{w w':World}{v:Value}(h:MapV lo w v)(hb:Below w.heap.size w w'):MapV lo w' v:=by
 obtain⟨r,es,c,e,h1,h2,h3⟩:=h;exact⟨r,es,c,e,(hb.block r (Zaa h1)).trans h1,fun x hx=>⟨(h2 x hx).1,(h2 x hx).2.later hb⟩,h3⟩
theorem span_any (x y:UInt8)(w:World):Calls Tryz.prog 252 #[.int .u8 (x.toNat:Int),.int .u8 (y.toNat:Int)] w fun e w'=>∃v,e= .returned v∧IsV w' v∧Below w.heap.size w w':=by
 have hmf:∀(fn:Fn) (first cap:Array Value) (w:World),(Instr.makeFunc fn first cap).run Tryz.prog w= .ok (.func fn first cap) w:=fun _ _ _ _=>rfl;have HX:=Zh (heap_alloc2_old w (.cells #[.int .u8 (x.toNat:Int)] 5) (.cells #[.int .u8 (y.toNat:Int)] 5));have HY:=Zh (heap_alloc2_new w (.cells #[.int .u8 (x.toNat:Int)] 5) (.cells #[.int .u8 (y.toNat:Int)] 5));have HB:=Zh (show Below w.heap.size w ((w.alloc (.cells #[.int .u8 (x.toNat:Int)] 5)).alloc (.cells #[.int .u8 (y.toNat:Int)] 5)) from(Zab w _).trans ((Zab _ _).mono (Zab w _).size));go_enter Tryz.func252,Tryz.ntmps252;go_wp2_with fail;go_returns;exact⟨_,rfl,.span _ _ x y HX.out HY.out,HB.out⟩
theorem some_any {v:Value}(w:World)(h:IsVs w v):Calls Tryz.prog 274 #[v] w fun e w'=>∃u,e= .returned u∧IsV w' u∧Below w.heap.size w w':=by
 have hmf:∀(fn:Fn) (first cap:Array Value) (w:World),(Instr.makeFunc fn first cap).run Tryz.prog w= .ok (.func fn first cap) w:=fun _ _ _ _=>rfl;obtain⟨g,n,cap,cs,T,fr,vs,rfl,h1,h2,h3,h4⟩:=h;have hb:=Zab w (.cells #[.slice (some ⟨g,0,none⟩) n cap] 370);have HX:=Zh (Zae w (.cells #[.slice (some ⟨g,0,none⟩) n cap] 370));have HB:=Zh hb;have HV:=Zh (show IsV (w.alloc (.cells #[.slice (some ⟨g,0,none⟩) n cap] 370)) (.func (.func 283) #[] #[.pointer (some ⟨w.heap.size,0,none⟩)]) from .some_ _ g n cap cs T fr vs HX.out h1 ((hb.block g (Zaa h2)).trans h2) h3 (fun i hi=>(h4 i hi).later hb));clear h1 h2 h3 h4 hb;go_enter Tryz.func274,Tryz.ntmps274;go_wp2_with fail;go_returns;exact⟨_,rfl,HV.out,HB.out⟩
def dstL:List Nat:=[15,16,99,17,99,18,99,19,99,20,99,21,22,23,24,99,25,26,27,28,29,99,30,31,32,33,99,34,35,36,37,99,38,39,40,41,99,42,99,43,99,44,0]
def dstOf (i:Nat):Nat:=dstL.getD i 99
theorem dst_inj:∀i,i < 43→∀j,j < 43→dstOf i=dstOf j→dstOf i=99∨i=j:=by decide
def SlotP (lo:Nat)(w:World)(d:Nat)(v:Value):Prop:=(d=0∨d=15∨d=44→MapV lo w v)∧(d=23∨d=28∨d=32∨d=36∨d=40→IsVs w v)∧(¬(d=0∨d=15∨d=44)→¬(d=23∨d=28∨d=32∨d=36∨d=40)→IsV w v)
theorem SlotP.later {lo:Nat}{w w':World}{d:Nat}{v:Value}(h:SlotP lo w d v)(hb:Below w.heap.size w w'):SlotP lo w' d v:=⟨fun e=>(h.1 e).later hb,fun e=>(h.2.1 e).later hb,fun e1 e2=>(h.2.2 e1 e2).later hb⟩
theorem keep_map {w:World}{r:Nat}(o:Obj):KeepT (fun j=>j=r) w { w with heap:=w.heap.setIfInBounds r o }:=⟨rfl,rfl,rfl,by simp,fun i hi hn=>Array.getElem?_setIfInBounds_ne (fun e=>hn e.symm)⟩
theorem SlotP.ins {lo:Nat}{w:World}{d:Nat}{v:Value}(h:SlotP lo w d v){r:Nat}{es es':Array MapEntry}{c c':Nat}(hr:w.heap[r]? =some (.map es c))(he:Inv.AllE (IsV w) es'):SlotP lo { w with heap:=w.heap.setIfInBounds r (.map es' c') } d v:=by
 have hk:=keep_map (w:=w) (r:=r) (.map es' c');have hz:∀j,j=r→∀cs T fr,w.heap[j]?≠some (.cells cs T fr):=fun j e cs T fr hh=>by
  subst e;rw [hr]at hh;cases hh
 refine⟨fun e=>?_,fun e=>(h.2.1 e).kept hk hz,fun e1 e2=>(h.2.2 e1 e2).kept hk hz⟩;obtain⟨r2,es2,c2,e2,h1,h2,h3⟩:=h.1 e;have step:∀{x:Array MapEntry},Inv.AllE (IsV w) x→Inv.AllE (IsV { w with heap:=w.heap.setIfInBounds r (.map es' c') }) x:=fun hx e he=>⟨(hx e he).1,(hx e he).2.kept hk hz⟩
 by_cases hrr:r2=r
 ·subst hrr
  refine⟨r2,es',c',e2,?_,step he,h3⟩
  show(w.heap.setIfInBounds r2 _)[r2]? =_
  rw [Array.getElem?_setIfInBounds,if_pos rfl,if_pos (Zaa h1)]
 ·exact⟨r2,es2,c2,e2,(hk.block r2 (Zaa h1) hrr).trans h1,step h2,h3⟩
structure Base3 (w3:World) (T0:Array Value):Prop where
 v:∀s,1≤s→s≤3→IsV w3 (T0.getD s undef)
 p:∀s,s=4∨s=5→∃b v,T0.getD s undef= .pointer (some ⟨b,0,none⟩)∧w3.heap[b]? =some (.cells #[v] 305 (0,0))∧IsV w3 v
structure NI (w3:World) (T0:Array Value) (L:Array Bool) (a:Act) (w:World):Prop where
 base:Base3 w3 T0
 below:Below w3.heap.size w3 w
 defers:a.defers=[]
 size:a.tmps.size=45
 lsize:L.size=43
 old:∀s,1≤s→s≤5→a.tmps.getD s undef=T0.getD s undef
 got:∀i,L.getD i false=true→dstOf i≠99→SlotP w3.heap.size w (dstOf i) (a.tmps.getD (dstOf i) undef)
section
variable {w3 w w':World}{T0:Array Value}{L:Array Bool}{a:Act}{ops:Array Oper}{Q:Exit→Act→World→Prop}{o:Oper}{i d s j:Nat}
theorem NI.lt {L:Array Bool}(hs:L.size=43){i:Nat}(h:L.getD i false=true):i < 43:=by
 apply Nat.lt_of_not_le
 intro hn;rw [Array.getD_eq_getD_getElem?,Array.getElem?_eq_none (by omega)]at h;cases h
theorem NI.put (h:NI w3 T0 L a w)(hi:i < 43)(hd:dstOf i=d)(h45:d < 45)(h0:d=0∨5 < d)(hm:∀s x,SlotP w3.heap.size w s x→SlotP w3.heap.size w' s x)(hb:Below w3.heap.size w3 w'){v:Value}(hv:SlotP w3.heap.size w' d v):NI w3 T0 (L.setIfInBounds i true) (a.put (some d) v) w':=by
 have hne:dstOf i≠99:=by omega
 refine⟨h.base,hb,h.defers,by show(a.tmps.setIfInBounds d v).size=45;rw [Array.size_setIfInBounds];exact h.size,by rw [Array.size_setIfInBounds];exact h.lsize,fun s h1 h2=>?_,fun j hj h99=>?_⟩
 ·show(a.tmps.setIfInBounds d v).getD s undef=_
  rw [Array.getD_eq_getD_getElem?,Array.getElem?_setIfInBounds_ne (by omega),← Array.getD_eq_getD_getElem?];exact h.old s h1 h2
 ·show SlotP w3.heap.size w' (dstOf j) ((a.tmps.setIfInBounds d v).getD (dstOf j) undef)
  by_cases hij:i=j
  ·subst hij
   rw [hd,Array.getD_eq_getD_getElem?,Array.getElem?_setIfInBounds,if_pos rfl,if_pos (by rw [h.size];exact h45)];exact hv
  ·have hj2:L.getD j false=true:=by
    rw [Array.getD_eq_getD_getElem?,Array.getElem?_setIfInBounds_ne hij,← Array.getD_eq_getD_getElem?]at hj;exact hj
   have hjd:d≠dstOf j:=fun e=>by
    rcases dst_inj i hi j (NI.lt h.lsize hj2) (hd.trans e) with e2 | e2
    ·exact hne e2
    ·exact hij e2
   rw [Array.getD_eq_getD_getElem?,Array.getElem?_setIfInBounds_ne hjd,← Array.getD_eq_getD_getElem?];exact hm _ _ (h.got j hj2 h99)
theorem NI.skip (h:NI w3 T0 L a w)(hi:dstOf i=99)(hm:∀s x,SlotP w3.heap.size w s x→SlotP w3.heap.size w' s x)(hb:Below w3.heap.size w3 w'):NI w3 T0 (L.setIfInBounds i true) (a.put none undef) w':=by
 refine⟨h.base,hb,h.defers,h.size,by rw [Array.size_setIfInBounds];exact h.lsize,h.old,fun j hj h99=>hm _ _ (h.got j ?_ h99)⟩;have hij:i≠j:=fun e=>h99 (e▸hi);rw [Array.getD_eq_getD_getElem?,Array.getElem?_setIfInBounds_ne hij,← Array.getD_eq_getD_getElem?]at hj;exact hj
theorem wpOp_val {K:Act→World→Prop}(ho:ops[i]? =some o)(hg:o.guard=none){v:Value}(hr:(execOp a.eval o).run Tryz.prog w= .ok (.value v) w')(hk:K (a.put o.dst v) w'):wpOp Tryz.prog ops Q i K a w:=by
 unfold wpOp;rw [ho];simp only;rw [if_pos (by simp [Region.wanted,hg])];refine .inl ?_;unfold Oper.wp;rw [hr];exact hk
theorem wpOp_skip {K:Act→World→Prop}(ho:ops[i]? =some o)(hg:o.guard=none)(hr:(execOp a.eval o).run Tryz.prog w= .ok .skip w')(hk:K (a.put o.dst undef) w'):wpOp Tryz.prog ops Q i K a w:=by
 unfold wpOp;rw [ho];simp only;rw [if_pos (by simp [Region.wanted,hg])];refine .inl ?_;unfold Oper.wp;rw [hr];exact hk
theorem wpOp_call {K:Act→World→Prop}(ho:ops[i]? =some o)(hg:o.guard=none){f:FuncId}{args:Array Value}(hr:(execOp a.eval o).run Tryz.prog w= .ok (.enter f args) w)(hc:Calls Tryz.prog f args w fun e w'=>∃v,e= .returned v∧K (a.put o.dst v) w'):wpOp Tryz.prog ops Q i K a w:=by
 unfold wpOp;rw [ho];simp only;rw [if_pos (by simp [Region.wanted,hg])];refine .inl ?_;unfold Oper.wp;rw [hr,Oper.upon_enter];exact hc.mono fun e w' ⟨v,he,hk⟩=>by subst he;exact hk
theorem exec_call {f:FuncId}{xs:Array Operand}{ats:Array TypeId}(hop:o.op= .call { callee:= .value (.func f),args:=xs,argTypes:=ats }):execOp a.eval o=callFunc f (xs.map a.eval):=by
 have ef:a.eval (.func f)= .func (.func f) #[] #[]:=rfl;unfold execOp;simp [hop,resolve,Deferred.ofValue,invoke,ef]
theorem depOf (hr:i∈Region.ready .any ops L)(ho:ops[i]? =some o)(hj:(o.after.toList.any fun e=>Region.binds .any e && Nat.beq e.on j)=true):L.getD j false=true:=by
 obtain⟨_,o',ho',hall⟩:=mem_ready.1 hr;obtain rfl:o'=o:=Option.some.inj (ho'.symm.trans ho);obtain⟨e,he,h2⟩:=List.any_eq_true.1 hj;simp only [Bool.and_eq_true]at h2;have:=hall e (by simpa using he) h2.1
 rwa [Nat.eq_of_beq_eq_true h2.2]at this
theorem slotV {lo:Nat}{v:Value}(h:IsV w v)(h1:¬(d=0∨d=15∨d=44))(h2:¬(d=23∨d=28∨d=32∨d=36∨d=40)):SlotP lo w d v:=⟨fun e=>(h1 e).elim,fun e=>(h2 e).elim,fun _ _=>h⟩
theorem slotM {lo:Nat}{v:Value}(h:MapV lo w v)(h2:¬(d=23∨d=28∨d=32∨d=36∨d=40))(h1:d=0∨d=15∨d=44):SlotP lo w d v:=⟨fun _=>h,fun e=>(h2 e).elim,fun e _=>(e h1).elim⟩
theorem slotS {lo:Nat}{v:Value}(h:IsVs w v)(h1:¬(d=0∨d=15∨d=44))(h2:d=23∨d=28∨d=32∨d=36∨d=40):SlotP lo w d v:=⟨fun e=>(h1 e).elim,fun _=>h,fun _ e=>(e h2).elim⟩
abbrev notM (d:Nat):Prop:=¬(d=0∨d=15∨d=44)
abbrev notS (d:Nat):Prop:=¬(d=23∨d=28∨d=32∨d=36∨d=40)
abbrev Slot (i d:Nat):Prop:=i < 43∧dstOf i=d∧d < 45∧(d=0∨5 < d)
theorem NI.old_v (h:NI w3 T0 L a w)(h1:1≤s∧s≤3):IsV w (a.tmps.getD s undef):=by
 rw [h.old s h1.1 (by omega)];exact(h.base.v s h1.1 h1.2).later h.below
theorem stepMove (hI:NI w3 T0 L a w)(ho:ops[i]? =some o)(hg:o.guard=none)(hd:o.dst=some d)(hop:o.op= .move (.tmp s))(hs:Slot i d)(h1:notM d)(h2:notS d)(h3:1≤s∧s≤3):wpOp Tryz.prog ops Q i (NI w3 T0 (L.setIfInBounds i true)) a w:=by
 refine wpOp_val ho hg (v:=a.tmps.getD s undef) (w':=w) (by unfold execOp;rw [hop];rfl) ?_;rw [hd];exact hI.put hs.1 hs.2.1 hs.2.2.1 hs.2.2.2 (fun _ _ h=>h) hI.below (slotV (hI.old_v h3) h1 h2)
theorem stepMoveM (hI:NI w3 T0 L a w)(ho:ops[i]? =some o)(hg:o.guard=none)(hd:o.dst=some d)(hop:o.op= .move (.tmp s)∨o.op= .assign (.tmp s))(hs:Slot i d)(h2:notS d)(h3:d=0∨d=15∨d=44)(hj:L.getD j false=true)(hjs:dstOf j=s)(hsm:s=0∨s=15∨s=44):wpOp Tryz.prog ops Q i (NI w3 T0 (L.setIfInBounds i true)) a w:=by
 refine wpOp_val ho hg (v:=a.tmps.getD s undef) (w':=w) (by unfold execOp;rcases hop with hop | hop <;> rw [hop] <;> rfl) ?_;rw [hd];have h:=hI.got j hj (by omega);rw [hjs]at h;exact hI.put hs.1 hs.2.1 hs.2.2.1 hs.2.2.2 (fun _ _ h=>h) hI.below (slotM (h.1 hsm) h2 h3)
theorem run_load_is {b:Nat}{v:Value}(hc:w.cell? ⟨b,0,none⟩=some v):(Instr.loadAt 305 (.pointer (some ⟨b,0,none⟩))).run Tryz.prog w= .ok v w:=by
 simp [Instr.loadAt,Instr.sureAddr,loadVar,run_underlying Tryz.underlying305,hc,Result.andThen]
theorem stepLoad (hI:NI w3 T0 L a w)(ho:ops[i]? =some o)(hg:o.guard=none)(hd:o.dst=some d)(hop:o.op= .load 305 (.tmp s))(hs:Slot i d)(h1:notM d)(h2:notS d)(h3:s=4∨s=5):wpOp Tryz.prog ops Q i (NI w3 T0 (L.setIfInBounds i true)) a w:=by
 obtain⟨b,v,e,hb,hv⟩:=hI.base.p s h3;have hh:=(hI.below.block b (Zaa hb)).trans hb;have hx:a.eval (.tmp s)= .pointer (some ⟨b,0,none⟩):=(hI.old s (by omega) (by omega)).trans e;refine wpOp_val ho hg (v:=v) (w':=w) (by unfold execOp;rw [hop];simp only [hx,Sem.run_bind,run_load_is (show w.cell? ⟨b,0,none⟩=some v by rw [Lib.cell_of_heap hh];rfl),Result.andThen_ok,Sem.run_pure]) ?_;rw [hd];exact hI.put hs.1 hs.2.1 hs.2.2.1 hs.2.2.2 (fun _ _ h=>h) hI.below (slotV (hv.later hI.below) h1 h2)
theorem stepMap (hI:NI w3 T0 L a w)(ho:ops[i]? =some o)(hg:o.guard=none)(hd:o.dst=some d)(hop:o.op= .makeMap 345 none)(hs:Slot i d)(h2:notS d)(h3:d=0∨d=15∨d=44):wpOp Tryz.prog ops Q i (NI w3 T0 (L.setIfInBounds i true)) a w:=by
 have hb:=Zab w (.map #[] 0);refine wpOp_val ho hg (v:= .map (some w.heap.size)) (w':=w.alloc (.map #[] 0)) (by unfold execOp;rw [hop];rfl) ?_;rw [hd];exact hI.put hs.1 hs.2.1 hs.2.2.1 hs.2.2.2 (fun _ _ h=>h.later hb) (hI.below.trans (hb.mono hI.below.size)) (slotM ⟨_,_,_,rfl,Zae w _,Inv.allE_nil _,hI.below.size⟩ h2 h3)
theorem Zdq (hI:NI w3 T0 L a w)(ho:ops[i]? =some o)(hg:o.guard=none)(hd:o.dst=none){k:ByteArray}(hop:o.op= .insert 345 (.tmp 15) (.const (.string k)) (.tmp s))(hi:dstOf i=99)(h1:notM s)(h2:notS s)(h0:L.getD 0 false=true)(hj:L.getD j false=true)(hjs:dstOf j=s)(h99:s≠99):wpOp Tryz.prog ops Q i (NI w3 T0 (L.setIfInBounds i true)) a w:=by
 have hv:=hI.got j hj (by omega);rw [hjs]at hv;obtain⟨r,es,c,e,hr,hes,hlo⟩:=(hI.got 0 h0 (by decide)).1 (.inr (.inl rfl));obtain⟨es',c',he',hrun⟩:=Inv.run_put_str (P:=Tryz.prog) Tryz.underlying345 Tryz.underlying9 hr hes k (a.tmps.getD s undef) (hv.2.2 h1 h2);have hx:a.eval (.tmp 15)= .map (some r):=e;have hk:=keep_map (w:=w) (r:=r) (.map es' c');refine wpOp_skip ho hg (w':={ w with heap:=w.heap.setIfInBounds r (.map es' c') }) (by unfold execOp;rw [hop];simp only [hx,Sem.run_bind];rw [show a.eval (.const (.string k))= .string k from rfl,show a.eval (.tmp s)=a.tmps.getD s undef from rfl,hrun];rfl) ?_;rw [hd];exact hI.skip hi (fun _ _ h=>h.ins hr he') (hI.below.trans (hk.below hI.below.size (fun j e=>by subst e;exact hlo)))
theorem stepMf (hI:NI w3 T0 L a w)(ho:ops[i]? =some o)(hg:o.guard=none)(hd:o.dst=some d)(hop:o.op= .makeFunc (.func 275) #[] #[.tmp 5,.tmp 4])(hs:Slot i d)(h1:notM d)(h2:notS d):wpOp Tryz.prog ops Q i (NI w3 T0 (L.setIfInBounds i true)) a w:=by
 obtain⟨b5,v5,e5,k5,q5⟩:=hI.base.p 5 (.inr rfl);obtain⟨b4,v4,e4,k4,q4⟩:=hI.base.p 4 (.inl rfl);have x5:a.eval (.tmp 5)= .pointer (some ⟨b5,0,none⟩):=(hI.old 5 (by omega) (by omega)).trans e5;have x4:a.eval (.tmp 4)= .pointer (some ⟨b4,0,none⟩):=(hI.old 4 (by omega) (by omega)).trans e4;refine wpOp_val ho hg (v:= .func (.func 275) #[] #[.pointer (some ⟨b5,0,none⟩),.pointer (some ⟨b4,0,none⟩)]) (w':=w) (by unfold execOp;rw [hop];simp only [List.map_toArray,List.map_cons,List.map_nil,x5,x4];rfl) ?_;rw [hd];exact hI.put hs.1 hs.2.1 hs.2.2.1 hs.2.2.2 (fun _ _ h=>h) hI.below (slotV (.punct b5 b4 v5 v4 ((hI.below.block b5 (Zaa k5)).trans k5) ((hI.below.block b4 (Zaa k4)).trans k4) (q5.later hI.below) (q4.later hI.below)) h1 h2)
theorem Zdt (x y:UInt8)(hI:NI w3 T0 L a w)(ho:ops[i]? =some o)(hg:o.guard=none)(hd:o.dst=some d){ats:Array TypeId}(hop:o.op= .call { callee:= .value (.func 252),args:=#[.const (.int .u8 (x.toNat:Int)),.const (.int .u8 (y.toNat:Int))],argTypes:=ats })(hs:Slot i d)(h1:notM d)(h2:notS d):wpOp Tryz.prog ops Q i (NI w3 T0 (L.setIfInBounds i true)) a w:=by
 have hr:(execOp a.eval o).run Tryz.prog w= .ok (.enter 252 #[.int .u8 (x.toNat:Int),.int .u8 (y.toNat:Int)]) w:=by
  have e:execOp a.eval o=callFunc 252 #[.int .u8 (x.toNat:Int),.int .u8 (y.toNat:Int)]:=(exec_call hop).trans (by simp [Act.eval]);rw [e];exact enterF Tryz.func252 (by kernel_rfl) (c:=(Tryz.f252.body).getD .skip) (by kernel_rfl) _ _
 refine wpOp_call ho hg hr ((span_any x y w).mono ?_);rintro e w' ⟨v,rfl,hv,hb⟩;refine⟨v,rfl,?_⟩;rw [hd];exact hI.put hs.1 hs.2.1 hs.2.2.1 hs.2.2.2 (fun _ _ h=>h.later hb) (hI.below.trans (hb.mono hI.below.size)) (slotV hv h1 h2)
theorem stepSome (hI:NI w3 T0 L a w)(ho:ops[i]? =some o)(hg:o.guard=none)(hd:o.dst=some d){ats:Array TypeId}(hop:o.op= .call { callee:= .value (.func 274),args:=#[.tmp s],argTypes:=ats })(hs:Slot i d)(h1:notM d)(h2:notS d)(hj:L.getD j false=true)(hjs:dstOf j=s)(h3:s=23∨s=28∨s=32∨s=36∨s=40):wpOp Tryz.prog ops Q i (NI w3 T0 (L.setIfInBounds i true)) a w:=by
 have hv:=hI.got j hj (by omega);rw [hjs]at hv;have hr:(execOp a.eval o).run Tryz.prog w= .ok (.enter 274 #[a.tmps.getD s undef]) w:=by
  have e:execOp a.eval o=callFunc 274 #[a.tmps.getD s undef]:=(exec_call hop).trans (by simp [Act.eval]);rw [e];exact enterF Tryz.func274 (by kernel_rfl) (c:=(Tryz.f274.body).getD .skip) (by kernel_rfl) _ _
 refine wpOp_call ho hg hr ((some_any w (hv.2.1 h3)).mono ?_);rintro e w' ⟨v,rfl,hv,hb⟩;refine⟨v,rfl,?_⟩;rw [hd];exact hI.put hs.1 hs.2.1 hs.2.2.1 hs.2.2.2 (fun _ _ h=>h.later hb) (hI.below.trans (hb.mono hI.below.size)) (slotV hv h1 h2)
theorem run_bs2 (f1 f2:FuncId)(c1 c2:Array Value)(w:World):(Instr.buildSlice 370 2 #[(0,.func (.func f1) #[] c1),(1,.func (.func f2) #[] c2)]).run Tryz.prog w= .ok (.slice (some ⟨w.heap.size,0,none⟩) 2 2) (w.alloc (.cells #[.func (.func f1) #[] c1,.func (.func f2) #[] c2] 305)):=by
 simp [Instr.buildSlice,go_sem]
theorem run_bs3 (f1 f2 f3:FuncId)(c1 c2 c3:Array Value)(w:World):(Instr.buildSlice 370 3 #[(0,.func (.func f1) #[] c1),(1,.func (.func f2) #[] c2),(2,.func (.func f3) #[] c3)]).run Tryz.prog w= .ok (.slice (some ⟨w.heap.size,0,none⟩) 3 3) (w.alloc (.cells #[.func (.func f1) #[] c1,.func (.func f2) #[] c2,.func (.func f3) #[] c3] 305)):=by
 simp [Instr.buildSlice,go_sem]
theorem getD_of {cs:Array Value}{n:Nat}(h:cs.size=n):∀i,i < n→cs[i]? =some (cs.getD i undef):=fun i hi=>by
 rw [Array.getD_eq_getD_getElem?,Array.getElem?_eq_getElem (by omega)]
 rfl
theorem stepBs2 {s1 s2 j1 j2:Nat}(hI:NI w3 T0 L a w)(ho:ops[i]? =some o)(hg:o.guard=none)(hd:o.dst=some d)(hop:o.op= .buildSlice 370 2 #[(0,.tmp s1),(1,.tmp s2)])(hs:Slot i d)(h1:notM d)(h2:d=23∨d=28∨d=32∨d=36∨d=40)(k1:L.getD j1 false=true)(e1:dstOf j1=s1∧notM s1∧notS s1∧s1≠99)(k2:L.getD j2 false=true)(e2:dstOf j2=s2∧notM s2∧notS s2∧s2≠99):wpOp Tryz.prog ops Q i (NI w3 T0 (L.setIfInBounds i true)) a w:=by
 have v1:=hI.got j1 k1 (by rw [e1.1];exact e1.2.2.2);have v2:=hI.got j2 k2 (by rw [e2.1];exact e2.2.2.2);rw [e1.1]at v1;rw [e2.1]at v2;have w1:=v1.2.2 e1.2.1 e1.2.2.1;have w2:=v2.2.2 e2.2.1 e2.2.2.1;obtain⟨f1,c1,q1⟩:=w1.shape;obtain⟨f2,c2,q2⟩:=w2.shape;have x1:a.eval (.tmp s1)= .func (.func f1) #[] c1:=q1;have x2:a.eval (.tmp s2)= .func (.func f2) #[] c2:=q2;rw [q1]at w1;rw [q2]at w2;have hb:=Zab w (.cells #[.func (.func f1) #[] c1,.func (.func f2) #[] c2] 305);refine wpOp_val ho hg (v:= .slice (some ⟨w.heap.size,0,none⟩) 2 2) (w':=w.alloc (.cells #[.func (.func f1) #[] c1,.func (.func f2) #[] c2] 305)) (by unfold execOp;rw [hop];simp only [List.map_toArray,List.map_cons,List.map_nil,x1,x2,Sem.run_bind,run_bs2,Result.andThen_ok,Sem.run_pure]) ?_;rw [hd];refine hI.put hs.1 hs.2.1 hs.2.2.1 hs.2.2.2 (fun _ _ h=>h.later hb) (hI.below.trans (hb.mono hI.below.size)) (slotS ⟨w.heap.size,2,2,_,_,_,fun i=>(#[.func (.func f1) #[] c1,.func (.func f2) #[] c2]:Array Value).getD i undef,rfl,by omega,Zae w _,getD_of rfl,fun i hi=>?_⟩ h1 h2)
 match i,hi with
 | 0,_=>exact w1.later hb
 | 1,_=>exact w2.later hb
theorem stepBs3 {s1 s2 s3 j1 j2 j3:Nat}(hI:NI w3 T0 L a w)(ho:ops[i]? =some o)(hg:o.guard=none)(hd:o.dst=some d)(hop:o.op= .buildSlice 370 3 #[(0,.tmp s1),(1,.tmp s2),(2,.tmp s3)])(hs:Slot i d)(h1:notM d)(h2:d=23∨d=28∨d=32∨d=36∨d=40)(k1:L.getD j1 false=true)(e1:dstOf j1=s1∧notM s1∧notS s1∧s1≠99)(k2:L.getD j2 false=true)(e2:dstOf j2=s2∧notM s2∧notS s2∧s2≠99)(k3:L.getD j3 false=true)(e3:dstOf j3=s3∧notM s3∧notS s3∧s3≠99):wpOp Tryz.prog ops Q i (NI w3 T0 (L.setIfInBounds i true)) a w:=by
 have v1:=hI.got j1 k1 (by rw [e1.1];exact e1.2.2.2);have v2:=hI.got j2 k2 (by rw [e2.1];exact e2.2.2.2);have v3:=hI.got j3 k3 (by rw [e3.1];exact e3.2.2.2);rw [e1.1]at v1;rw [e2.1]at v2;rw [e3.1]at v3;have w1:=v1.2.2 e1.2.1 e1.2.2.1;have w2:=v2.2.2 e2.2.1 e2.2.2.1;have w4:=v3.2.2 e3.2.1 e3.2.2.1;obtain⟨f1,c1,q1⟩:=w1.shape;obtain⟨f2,c2,q2⟩:=w2.shape;obtain⟨f3,c3,q3⟩:=w4.shape;have x1:a.eval (.tmp s1)= .func (.func f1) #[] c1:=q1;have x2:a.eval (.tmp s2)= .func (.func f2) #[] c2:=q2;have x3:a.eval (.tmp s3)= .func (.func f3) #[] c3:=q3;rw [q1]at w1;rw [q2]at w2;rw [q3]at w4;have hb:=Zab w (.cells #[.func (.func f1) #[] c1,.func (.func f2) #[] c2,.func (.func f3) #[] c3] 305);refine wpOp_val ho hg (v:= .slice (some ⟨w.heap.size,0,none⟩) 3 3) (w':=w.alloc (.cells #[.func (.func f1) #[] c1,.func (.func f2) #[] c2,.func (.func f3) #[] c3] 305)) (by unfold execOp;rw [hop];simp only [List.map_toArray,List.map_cons,List.map_nil,x1,x2,x3,Sem.run_bind,run_bs3,Result.andThen_ok,Sem.run_pure]) ?_;rw [hd];refine hI.put hs.1 hs.2.1 hs.2.2.1 hs.2.2.2 (fun _ _ h=>h.later hb) (hI.below.trans (hb.mono hI.below.size)) (slotS ⟨w.heap.size,3,3,_,_,_,fun i=>(#[.func (.func f1) #[] c1,.func (.func f2) #[] c2,.func (.func f3) #[] c3]:Array Value).getD i undef,rfl,by omega,Zae w _,getD_of rfl,fun i hi=>?_⟩ h1 h2)
 match i,hi with
 | 0,_=>exact w1.later hb
 | 1,_=>exact w2.later hb
 | 2,_=>exact w4.later hb
end
def NamedE (w:World)(e:Ending)(w':World):Prop:=∃v,e= .returned v∧MapV w.heap.size w' v
theorem named_any (w:World):Calls Tryz.prog 251 #[] w fun e w'=>NamedE w e w'∧Below w.heap.size w w':=by
 have HSP:=Zh (fun(x y:UInt8) (X:World)=>span_any x y X);have HS1:=Zh (span_any 97 122 w);go_enter Tryz.func251,Tryz.ntmps251;have H1:=Zh (show Calls Tryz.prog 252 #[.int .u8 97,.int .u8 122] w _ from HS1.out);go_wp2_with fail;refine H1.out.mono ?_;rintro e w1 ⟨v1,rfl,hv1,hb1⟩;have H2:=Zh (show Calls Tryz.prog 252 #[.int .u8 65,.int .u8 90] w1 _ from HSP.out 65 90 w1);go_wp2_with fail;refine H2.out.mono ?_;rintro e w2 ⟨v2,rfl,hv2,hb2⟩;have H3:=Zh (show Calls Tryz.prog 252 #[.int .u8 48,.int .u8 57] w2 _ from HSP.out 48 57 w2);go_wp2_with fail;refine H3.out.mono ?_;rintro e w3 ⟨v3,rfl,hv3,hb3⟩;have HB3:=Zh (hb1.trans ((hb2.mono hb1.size).trans (hb3.mono (Nat.le_trans hb1.size hb2.size))));have V1:=Zh ((hv1.later hb2).later hb3);have V2:=Zh (hv2.later hb3);have V3:=Zh hv3;obtain⟨f1,cp1,rfl⟩:=hv1.shape;obtain⟨f2,cp2,rfl⟩:=hv2.shape;obtain⟨f3,cp3,rfl⟩:=hv3.shape;clear hv1 hv2 hv3 hb1 hb2 hb3 HS1 H1 H2 H3;have hb4:=Zab w3 (.cells #[.func (.func f1) #[] cp1,.func (.func f2) #[] cp2,.func (.func f3) #[] cp3] 305);have HSM:=Zh (some_any (v:= .slice (some ⟨w3.heap.size,0,none⟩) 3 3) (w3.alloc (.cells #[.func (.func f1) #[] cp1,.func (.func f2) #[] cp2,.func (.func f3) #[] cp3] 305)) ⟨w3.heap.size,3,3,_,_,_,fun i=>(#[.func (.func f1) #[] cp1,.func (.func f2) #[] cp2,.func (.func f3) #[] cp3]:Array Value).getD i undef,rfl,by omega,Zae w3 _,getD_of rfl,fun i hi=>by
  match i,hi with
  | 0,_=>exact V1.out.later hb4
  | 1,_=>exact V2.out.later hb4
  | 2,_=>exact V3.out.later hb4⟩)
 have HB4:=Zh hb4;clear hb4;go_upto_region 2 with fail;go_wp2_with fail;refine HSM.out.mono ?_;rintro e w4 ⟨v4,rfl,hv4,hb5⟩;obtain⟨f4,cp4,rfl⟩:=hv4.shape;have H5:=Zh (show Calls Tryz.prog 252 #[.int .u8 33,.int .u8 126] w4 _ from HSP.out 33 126 w4);have V4:=Zh hv4;have HB5:=Zh (HB4.out.trans (hb5.mono HB4.out.size));clear hv4 hb5 HSM;go_wp2_with fail;refine H5.out.mono ?_;rintro e w5 ⟨v5,rfl,hv5,hb6⟩;obtain⟨f5,cp5,rfl⟩:=hv5.shape;have V5:=Zh hv5;have HB6:=Zh (HB5.out.trans (hb6.mono HB5.out.size));have V45:=Zh (V4.out.later hb6);clear hv5 hb6 H5 V4;have h45:=heap_alloc2_old w5 (.cells #[.func (.func f4) #[] cp4] 305) (.cells #[.func (.func f5) #[] cp5] 305);have h55:=heap_alloc2_new w5 (.cells #[.func (.func f4) #[] cp4] 305) (.cells #[.func (.func f5) #[] cp5] 305);have hb7:Below w5.heap.size w5 ((w5.alloc (.cells #[.func (.func f4) #[] cp4] 305)).alloc (.cells #[.func (.func f5) #[] cp5] 305)):=(Zab w5 _).trans ((Zab _ _).mono (Zab w5 _).size);have HK4:=Zh h45;have HK5:=Zh h55;have HB7:=Zh hb7;clear h45 h55 hb7;go_upto_region 3 with fail;generalize (w5.alloc (.cells #[.func (.func f4) #[] cp4] 305)).alloc (.cells #[.func (.func f5) #[] cp5] 305)=w6 at *;have HW6:=Zh (show Below w.heap.size w w6 from HB3.out.trans ((HB6.out.trans (HB7.out.mono HB6.out.size)).mono HB3.out.size));have HL36:=Zh (show Below w3.heap.size w3 w6 from HB6.out.trans (HB7.out.mono HB6.out.size));have b36:Below w3.heap.size w3 w6:=HL36.out;have b56:Below w5.heap.size w5 w6:=HB7.out;have q1:=V1.out.later b36;have q2:=V2.out.later b36;have q3:=V3.out.later b36;have q4:=V45.out.later b56;have q5:=V5.out.later b56;have hk4:=HK4.out;have hk5:=HK5.out;clear b36 b56;refine Inv.wp_region_inv (by kernel_rfl) (NI w6 #[.map none,.func (.func f1) #[] cp1,.func (.func f2) #[] cp2,.func (.func f3) #[] cp3,.pointer (some ⟨w5.heap.size,0,none⟩),.pointer (some ⟨w5.heap.size+1,0,none⟩)]) ?_ ?_ ?_
 ·refine⟨⟨fun s h1 h2=>?_,fun s hs=>?_⟩,⟨rfl,rfl,rfl,Nat.le_refl _,fun _ _=>rfl⟩,rfl,rfl,rfl,fun s h1 h2=>?_,fun i hi=>?_⟩
  ·match s,h1,h2 with
   | 1,_,_=>exact q1
   | 2,_,_=>exact q2
   | 3,_,_=>exact q3
  ·rcases hs with rfl | rfl
   ·exact⟨_,_,rfl,hk4,q4⟩
   ·exact⟨_,_,rfl,hk5,q5⟩
  ·match s,h1,h2 with
   | 1,_,_=>rfl
   | 2,_,_=>rfl
   | 3,_,_=>rfl
   | 4,_,_=>rfl
   | 5,_,_=>rfl
  ·rw [Array.getD_eq_getD_getElem?,Array.getElem?_replicate]at hi
   split at hi <;> cases hi
 ·intro L a w' i hI hr
  have hi:i < 43:=by
   obtain⟨_,o,ho,_⟩:=mem_ready.1 hr;exact(Array.getElem?_eq_some_iff.1 ho).1
  match i,hi with
  | 0,_=>exact stepMap hI rfl rfl rfl rfl (by decide) (by decide) (by decide)
  | 1,_=>exact stepMove hI rfl rfl rfl rfl (by decide) (by decide) (by decide) (by decide)
  | 2,_=>exact Zdq hI rfl rfl rfl rfl rfl (by decide) (by decide) (depOf (j:=0) hr rfl rfl) (depOf (j:=1) hr rfl rfl) rfl (by decide)
  | 3,_=>exact stepMove hI rfl rfl rfl rfl (by decide) (by decide) (by decide) (by decide)
  | 4,_=>exact Zdq hI rfl rfl rfl rfl rfl (by decide) (by decide) (depOf (j:=0) hr rfl rfl) (depOf (j:=3) hr rfl rfl) rfl (by decide)
  | 5,_=>exact stepMove hI rfl rfl rfl rfl (by decide) (by decide) (by decide) (by decide)
  | 6,_=>exact Zdq hI rfl rfl rfl rfl rfl (by decide) (by decide) (depOf (j:=0) hr rfl rfl) (depOf (j:=5) hr rfl rfl) rfl (by decide)
  | 7,_=>exact stepLoad hI rfl rfl rfl rfl (by decide) (by decide) (by decide) (by decide)
  | 8,_=>exact Zdq hI rfl rfl rfl rfl rfl (by decide) (by decide) (depOf (j:=0) hr rfl rfl) (depOf (j:=7) hr rfl rfl) rfl (by decide)
  | 9,_=>exact stepLoad hI rfl rfl rfl rfl (by decide) (by decide) (by decide) (by decide)
  | 10,_=>exact Zdq hI rfl rfl rfl rfl rfl (by decide) (by decide) (depOf (j:=0) hr rfl rfl) (depOf (j:=9) hr rfl rfl) rfl (by decide)
  | 11,_=>exact stepMove hI rfl rfl rfl rfl (by decide) (by decide) (by decide) (by decide)
  | 12,_=>exact stepMove hI rfl rfl rfl rfl (by decide) (by decide) (by decide) (by decide)
  | 13,_=>exact stepBs2 hI rfl rfl rfl rfl (by decide) (by decide) (by decide) (depOf (j:=11) hr rfl rfl) (by decide) (depOf (j:=12) hr rfl rfl) (by decide)
  | 14,_=>exact stepSome hI rfl rfl rfl rfl (by decide) (by decide) (by decide) (depOf (j:=13) hr rfl rfl) rfl (by decide)
  | 15,_=>exact Zdq hI rfl rfl rfl rfl rfl (by decide) (by decide) (depOf (j:=0) hr rfl rfl) (depOf (j:=14) hr rfl rfl) rfl (by decide)
  | 16,_=>exact stepMove hI rfl rfl rfl rfl (by decide) (by decide) (by decide) (by decide)
  | 17,_=>exact Zdt 97 102 hI rfl rfl rfl rfl (by decide) (by decide) (by decide)
  | 18,_=>exact Zdt 65 70 hI rfl rfl rfl rfl (by decide) (by decide) (by decide)
  | 19,_=>exact stepBs3 hI rfl rfl rfl rfl (by decide) (by decide) (by decide) (depOf (j:=16) hr rfl rfl) (by decide) (depOf (j:=17) hr rfl rfl) (by decide) (depOf (j:=18) hr rfl rfl) (by decide)
  | 20,_=>exact stepSome hI rfl rfl rfl rfl (by decide) (by decide) (by decide) (depOf (j:=19) hr rfl rfl) rfl (by decide)
  | 21,_=>exact Zdq hI rfl rfl rfl rfl rfl (by decide) (by decide) (depOf (j:=0) hr rfl rfl) (depOf (j:=20) hr rfl rfl) rfl (by decide)
  | 22,_=>exact Zdt 9 13 hI rfl rfl rfl rfl (by decide) (by decide) (by decide)
  | 23,_=>exact Zdt 32 32 hI rfl rfl rfl rfl (by decide) (by decide) (by decide)
  | 24,_=>exact stepBs2 hI rfl rfl rfl rfl (by decide) (by decide) (by decide) (depOf (j:=22) hr rfl rfl) (by decide) (depOf (j:=23) hr rfl rfl) (by decide)
  | 25,_=>exact stepSome hI rfl rfl rfl rfl (by decide) (by decide) (by decide) (depOf (j:=24) hr rfl rfl) rfl (by decide)
  | 26,_=>exact Zdq hI rfl rfl rfl rfl rfl (by decide) (by decide) (depOf (j:=0) hr rfl rfl) (depOf (j:=25) hr rfl rfl) rfl (by decide)
  | 27,_=>exact Zdt 9 9 hI rfl rfl rfl rfl (by decide) (by decide) (by decide)
  | 28,_=>exact Zdt 32 32 hI rfl rfl rfl rfl (by decide) (by decide) (by decide)
  | 29,_=>exact stepBs2 hI rfl rfl rfl rfl (by decide) (by decide) (by decide) (depOf (j:=27) hr rfl rfl) (by decide) (depOf (j:=28) hr rfl rfl) (by decide)
  | 30,_=>exact stepSome hI rfl rfl rfl rfl (by decide) (by decide) (by decide) (depOf (j:=29) hr rfl rfl) rfl (by decide)
  | 31,_=>exact Zdq hI rfl rfl rfl rfl rfl (by decide) (by decide) (depOf (j:=0) hr rfl rfl) (depOf (j:=30) hr rfl rfl) rfl (by decide)
  | 32,_=>exact Zdt 0 31 hI rfl rfl rfl rfl (by decide) (by decide) (by decide)
  | 33,_=>exact Zdt 127 127 hI rfl rfl rfl rfl (by decide) (by decide) (by decide)
  | 34,_=>exact stepBs2 hI rfl rfl rfl rfl (by decide) (by decide) (by decide) (depOf (j:=32) hr rfl rfl) (by decide) (depOf (j:=33) hr rfl rfl) (by decide)
  | 35,_=>exact stepSome hI rfl rfl rfl rfl (by decide) (by decide) (by decide) (depOf (j:=34) hr rfl rfl) rfl (by decide)
  | 36,_=>exact Zdq hI rfl rfl rfl rfl rfl (by decide) (by decide) (depOf (j:=0) hr rfl rfl) (depOf (j:=35) hr rfl rfl) rfl (by decide)
  | 37,_=>exact Zdt 32 126 hI rfl rfl rfl rfl (by decide) (by decide) (by decide)
  | 38,_=>exact Zdq hI rfl rfl rfl rfl rfl (by decide) (by decide) (depOf (j:=0) hr rfl rfl) (depOf (j:=37) hr rfl rfl) rfl (by decide)
  | 39,_=>exact stepMf hI rfl rfl rfl rfl (by decide) (by decide) (by decide)
  | 40,_=>exact Zdq hI rfl rfl rfl rfl rfl (by decide) (by decide) (depOf (j:=0) hr rfl rfl) (depOf (j:=39) hr rfl rfl) rfl (by decide)
  | 41,_=>exact stepMoveM hI rfl rfl rfl (.inl rfl) (by decide) (by decide) (by decide) (depOf (j:=0) hr rfl rfl) rfl (by decide)
  | 42,_=>exact stepMoveM hI rfl rfl rfl (.inr rfl) (by decide) (by decide) (by decide) (depOf (j:=41) hr rfl rfl) rfl (by decide)
  | n+43,h=>exact absurd h (by omega)
 ·intro L a w' hI hr
  have h42:=Inv.listed_all (Inv.topo_ok (by kernel_rfl)) hI.lsize hr 42 (by decide);have hm:=(hI.got 42 h42 (by decide)).1 (.inl rfl);have hbb:=hI.below;have hdf:=hI.defers;go_wp2_with fail;refine bodyPost_ret (v:=a.tmps.getD 0 undef) (results_tmp rfl _ _ _) hdf ?_;obtain⟨r,es,c,e,h1,h2,h3⟩:=hm;exact⟨⟨_,rfl,r,es,c,e,h1,h2,Nat.le_trans HW6.out.size h3⟩,HW6.out.trans (hbb.mono HW6.out.size)⟩
end Go.Proofs.YtndjgbehbgcpkaaGreatDoor
