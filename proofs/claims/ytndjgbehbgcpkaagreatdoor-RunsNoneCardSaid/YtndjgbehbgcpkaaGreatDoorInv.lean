/- A region that draws its order, by what holds between any two operations; maps of texts. No program in sight. -/
import Derived.Orders
import Derived.StillTail
import Derived.OrdersHeld
import Derived.Laws.StructEq
import Derived.Deep.RegionHeld
set_option linter.unusedVariables false
set_option linter.unusedSimpArgs false
namespace Go.Inv
open Go
section
variable {P:Program}{Q:Exit→Act→World→Prop}{ops:Array Oper}{md:Region.Mode}
def unl (L:Array Bool):Nat:=(L.toList.filter (fun b=>!b)).length
theorem filter_set:∀(l:List Bool) (i:Nat),l[i]? =some false→((l.set i true).filter (fun b=>!b)).length+1=(l.filter (fun b=>!b)).length
 | [],_,h=>by cases h
 | b::l,0,h=>by
   simp only [List.getElem?_cons_zero,Option.some.injEq]at h;subst h;simp
 | b::l,i+1,h=>by
   have ih:=filter_set l i (by simpa using h);cases b <;> simp [List.filter_cons] <;> omega
theorem unl_set {L:Array Bool}{i:Nat}(h:L.getD i true=false):unl (L.setIfInBounds i true)+1=unl L:=by
 have hi:L[i]? =some false:=by
  rw [Array.getD_eq_getD_getElem?]at h;cases hh:L[i]? with
  | none=>rw [hh]at h;cases h
  | some b=>rw [hh]at h;simp at h;rw [h]
 unfold unl;rw [Array.toList_setIfInBounds];exact filter_set _ _ (by simpa using hi)
theorem unl_zero {L:Array Bool}(h:unl L=0)(hs:L.size=ops.size):Region.ready md ops L=[]:=by
 apply List.eq_nil_iff_forall_not_mem.2
 intro i hi;obtain⟨h1,_⟩:=mem_ready.1 hi;have:=unl_set h1;omega
theorem wpAny_inv (I:Array Bool→Act→World→Prop)(hs:∀L a w i,I L a w→i∈Region.ready md ops L→wpOp P ops Q i (I (L.setIfInBounds i true)) a w)(he:∀L a w,I L a w→Region.ready md ops L=[]→Q .normal a w):
 ∀(n:Nat) (L:Array Bool) (a:Act) (w:World),unl L≤n→L.size=ops.size→I L a w→wpAny P md ops Q n L a w:=by
 intro n
 induction n with
 | zero=>exact fun L a w hn hz hi=>⟨unl_zero (by omega) hz,he L a w hi (unl_zero (by omega) hz)⟩
 | succ n ih=>
   intro L a w hn hz hi;refine⟨fun h0=>he L a w hi h0,fun i hr=>wpOp_mono (fun a' w' h'=>ih _ a' w' ?_ (by simp [hz]) h') (hs L a w i hi hr)⟩;have:=unl_set (mem_ready.1 hr).1;omega
theorem unl_start (n:Nat):unl (Array.replicate n false)=n:=by simp [unl]
theorem listed_all {L:Array Bool}(ht:∀(i:Nat) o,ops[i]? =some o→∀e∈o.after,Region.binds md e=true→e.on < i)(hz:L.size=ops.size)(hr:Region.ready md ops L=[]):∀i,i < ops.size→L.getD i false=true:=by
 intro i
 induction i using Nat.strongRecOn with
 | _ i ih=>
   intro hi;obtain⟨o,ho⟩:∃o,ops[i]? =some o:=⟨_,Array.getElem?_eq_getElem hi⟩;cases hl:L.getD i false with
   | true=>rfl
   | false=>
     exfalso;have hl2:L.getD i true=false:=by
      rw [Array.getD_eq_getD_getElem?]at hl ⊢;rw [Array.getElem?_eq_getElem (by omega)]at hl ⊢;simpa using hl
     have hm:i∈Region.ready md ops L:=mem_ready.2 ⟨hl2,o,ho,fun e he hb=>ih e.on (ht i o ho e he hb) (by have:=ht i o ho e he hb;omega)⟩;rw [hr]at hm;cases hm
def topo (md:Region.Mode)(ops:Array Oper):Bool:=ops.toList.zipIdx.all fun(x:Oper×Nat)=>x.1.after.toList.all fun e=>!Region.binds md e || Nat.blt e.on x.2
theorem topo_ok (h:topo md ops=true):∀(i:Nat) o,ops[i]? =some o→∀e∈o.after,Region.binds md e=true→e.on < i:=by
 intro i o ho e he hb;have h1:=List.all_eq_true.1 h (o,i) (List.mem_zipIdx_iff_getElem?.2 (by simpa using ho));have h2:=List.all_eq_true.1 h1 e (by simpa using he);simp only [hb,Bool.not_true,Bool.false_or]at h2;exact Nat.le_of_ble_eq_true h2
theorem wp_region_inv {id:Nat}{a:Act}{w:World}(hm:P.follows .mixedOrders=true)(I:Array Bool→Act→World→Prop)(h0:I (Array.replicate ops.size false) a { w with drawn:=w.drawn+1 })
 (hs:∀L a w i,I L a w→i∈Region.ready .any ops L→wpOp P ops Q i (I (L.setIfInBounds i true)) a w) (he:∀L a w,I L a w→Region.ready .any ops L=[]→Q .normal a w):(Code.region id ops true).wp P Q a w:=
 wp_region_any hm (wpAny_inv I hs he ops.size _ _ _ (by rw [unl_start];exact Nat.le_refl _) (by simp) h0)
end
section
variable {P:Program}
theorem bytes_eq {s t:ByteArray}(h:(s==t)=true):s=t:=by
 have e:∀b:ByteArray,b.toList=b.data.toList:=fun b=>by
  obtain⟨⟨l⟩⟩:=b;simp
 rw [beq_toListBytes,e,e]at h;exact ByteArray.ext (Array.toList_inj.1 (eq_of_beq h))
def AllE (V:Value→Prop)(es:Array MapEntry):Prop:=∀e∈es.toList,(∃s,e.key= .string s)∧V e.val
theorem allE_nil (V:Value→Prop):AllE V #[]:=fun e he=>by simp at he
theorem findNow_str (s:ByteArray):∀(l:List MapEntry) (i:Nat),(∀e∈l,∃t,e.key= .string t)→Instr.findNow .string (.string s) l i=some none∨∃j e,Instr.findNow .string (.string s) l i=some (some (i+j,e.val))∧l[j]? =some e∧e.key= .string s
 | [],_,_=> .inl rfl
 | e::l,i,h=>by
   obtain⟨t,ht⟩:=h e (by simp);have ih:=findNow_str s l (i+1) (fun e he=>h e (by simp [he]))
   by_cases hst:s==t
   ·refine .inr ⟨0,e,?_,rfl,?_⟩
    ·simp [Instr.findNow,ht,Instr.sameNow,hst]
    ·rw [ht]
     rw [bytes_eq hst]
   ·have hf:Instr.findNow .string (.string s) (e::l) i=Instr.findNow .string (.string s) l (i+1):=by
     simp [Instr.findNow,ht,Instr.sameNow,hst]
    rcases ih with ih | ⟨j,e',h1,h2,h3⟩
    ·exact .inl (hf.trans ih)
    ·exact .inr ⟨j+1,e',by rw [hf,h1];congr 3;omega,by simpa using h2,h3⟩
theorem Zer {kt:TypeId}(hk:P.underlying kt=some .string)(b:Bool)(s:ByteArray)(w:World):(Instr.checkKey b 10000 kt (.string s)).run P w= .ok () w:=by
 have:∀n,(Instr.checkKey b (n+1) kt (.string s)).run P w= .ok () w:=by
  intro n;simp only [Instr.checkKey,Sem.run_bind,show(underlying kt).run P w= .ok TypeDesc.string w from by simp [underlying,hk],Result.andThen_ok]
  rfl
 exact this 9999
theorem findKey_str {kt:TypeId}(hk:P.underlying kt=some .string){x:Value}{xs:List MapEntry}{w:World}{q:Option (Nat×Value)}(hq:Instr.findNow .string x xs 0=some q):(Instr.findKey kt x xs).run P w= .ok q w:=by
 simp only [Instr.findKey,Sem.run_bind,show(underlying kt).run P w= .ok TypeDesc.string w from by simp [underlying,hk],Result.andThen_ok,hq,Sem.run_pure]
theorem run_put_str {T kt et:TypeId}{V:Value→Prop}(hm:P.underlying T=some (.map kt et))(hk:P.underlying kt=some .string){r clock:Nat}{es:Array MapEntry}{w:World}(hb:w.heap[r]? =some (.map es clock))(hes:AllE V es)(s:ByteArray)(v:Value)(hv:V v):
 ∃es' c',AllE V es'∧(Instr.mapUpdate T (.map (some r)) (.string s) v).run P w= .ok () { w with heap:=w.heap.setIfInBounds r (.map es' c') }:=by
 have hg:(getObj r).run P w= .ok (.map es clock) w:=by simp [getObj,Sem.run,hb]
 have hu:(underlying T).run P w= .ok (.map kt et) w:=by simp [underlying,hm]
 have hso:∀o,(setObj r o).run P w= .ok () { w with heap:=w.heap.setIfInBounds r o }:=fun o=>by simp only [setObj,Sem.run,hb]
 rcases findNow_str s es.toList 0 (fun e he=>(hes e he).1) with h1 | ⟨j,e,h1,h2,h3⟩
 ·refine⟨es.push { key:= .string s,val:=v,born:=clock },clock+1,fun e he=>?_,?_⟩
  ·rw [Array.toList_push]at he
   rcases List.mem_append.1 he with he | he
   ·exact hes e he
   ·obtain rfl:=List.mem_singleton.1 he
    exact⟨⟨s,rfl⟩,hv⟩
  ·simp only [Instr.mapUpdate,Sem.run_bind,hu,Result.andThen_ok,hg,Zer hk,findKey_str hk h1,hso]
 ·have hj:es[j]? =some e:=by simpa using h2
  have hsb:Instr.sameBits 10000 e.key (.string s)=true:=by
   rw [h3];simp [Instr.sameBits,beq_toListBytes]
  refine⟨es.modify j fun e=>{ e with key:= .string s,val:=v },clock,fun x hx=>?_,?_⟩
  ·rw [Array.toList_modify]at hx
   obtain⟨n,hn,hx⟩:=List.getElem_of_mem hx;rw [List.getElem_modify]at hx
   split at hx
   ·subst hx
    exact⟨⟨s,rfl⟩,hv⟩
   ·subst hx
    exact hes _ (List.getElem_mem _)
  ·simp only [Nat.zero_add]at h1
   simp only [Instr.mapUpdate,Sem.run_bind,hu,Result.andThen_ok,hg,Zer hk,findKey_str hk h1,hj,Option.map_some,Option.getD_some,Instr.keyThatStays,hsb,if_true,Sem.run_pure,hso]
theorem run_look_str {T kt et:TypeId}{V:Value→Prop}{z:Value}(hm:P.underlying T=some (.map kt et))(hk:P.underlying kt=some .string)(hz:∀w,(zeroValue et).run P w= .ok z w){r clock:Nat}{es:Array MapEntry}{w:World}(hb:w.heap[r]? =some (.map es clock))(hes:AllE V es)(s:ByteArray):
 ∃v ok,(Instr.lookup T (.map (some r)) (.string s) true).run P w= .ok (.tuple #[v,.bool ok]) w∧(ok=true→V v):=by
 have hg:(getObj r).run P w= .ok (.map es clock) w:=by simp [getObj,Sem.run,hb]
 have hu:(underlying T).run P w= .ok (.map kt et) w:=by simp [underlying,hm]
 rcases findNow_str s es.toList 0 (fun e he=>(hes e he).1) with h1 | ⟨j,e,h1,h2,h3⟩
 ·refine⟨z,false,?_,fun h=>by cases h⟩
  simp only [Instr.lookup,Sem.run_bind,hu,Result.andThen_ok,hg,Zer hk,Sem.run_pure,findKey_str hk h1,hz]
  rfl
 ·refine⟨e.val,true,?_,fun _=>(hes e (List.mem_of_getElem? h2)).2⟩
  simp only [Instr.lookup,Sem.run_bind,hu,Result.andThen_ok,hg,Zer hk,Sem.run_pure,findKey_str hk h1]
  rfl
end
end Go.Inv
namespace Go
section
variable {P:Program}{Q:Exit→Act→World→Prop}{R:Act→World→Prop}
def headPost (Q:Exit→Act→World→Prop)(R:Act→World→Prop):Exit→Act→World→Prop
 | .normal,a,w=>R a w
 | e,a,w=>Q e a w
theorem Oper.wp_head {o:Oper}{a:Act}{w:World}{K:Act→World→Prop}(hh:o.wp P a w K (headPost Q R)):o.wp P a w K Q:=by
 unfold Oper.wp at *;generalize (execOp a.eval o).run P w=r at *;cases r with
 | ok n w'=>
   cases n <;> simp only [Oper.upon]at hh ⊢ <;> first
    | exact hh
    | (refine Calls.mono hh fun e w'' he=>?_
       cases e <;> exact he)
 | halt x w'=>
   cases x <;> simp only [Oper.upon]at hh ⊢;exact hh
variable {ops:Array Oper}
structure Same (ops hd:Array Oper) (n:Nat):Prop where
 size:hd.size=n
 lt:n < ops.size
 at':∀i,i < n→ops[i]? =hd[i]?
 guard:∀(i:Nat) o,ops[i]? =some o→o.guard=none
 topo:∀(i:Nat) o,i < n→ops[i]? =some o→∀e∈o.after,Region.binds .any e=true→e.on < i
structure Lists (ops:Array Oper) (n:Nat) (LH L:Array Bool):Prop where
 hsize:LH.size=n
 size:L.size=ops.size
 head:∀j,j < n→L[j]? =LH[j]?
 tail:∀j,n≤j→j < ops.size→L[j]? =some false
theorem Lists.set {n:Nat}{LH L:Array Bool}(h:Lists ops n LH L){i:Nat}(hi:i < n):Lists ops n (LH.setIfInBounds i true) (L.setIfInBounds i true):=by
 refine⟨by simp [h.hsize],by simp [h.size],fun j hj=>?_,fun j hj hj2=>?_⟩
 ·have h1:=h.head j hj
  by_cases hij:i=j
  ·subst hij
   rw [Array.getElem?_setIfInBounds,Array.getElem?_setIfInBounds,if_pos rfl,if_pos rfl];have hl:i < LH.size:=by rw [h.hsize];exact hi
   have hl2:i < L.size:=by
    rw [Array.getElem?_eq_getElem hl]at h1;exact(Array.getElem?_eq_some_iff.1 h1).1
   rw [if_pos hl,if_pos hl2]
  ·rw [Array.getElem?_setIfInBounds_ne hij,Array.getElem?_setIfInBounds_ne hij,h1]
 ·rw [Array.getElem?_setIfInBounds_ne (by omega)]
  exact h.tail j hj hj2
theorem Lists.getD {n:Nat}{LH L:Array Bool}(h:Lists ops n LH L){j:Nat}(hj:j < n)(d:Bool):L.getD j d=LH.getD j d:=by
 rw [Array.getD_eq_getD_getElem?,Array.getD_eq_getD_getElem?,h.head j hj]
theorem ready_head {hd:Array Oper}{n:Nat}{LH L:Array Bool}(s:Same ops hd n)(h:Lists ops n LH L){i:Nat}(hi:i < n):i∈Region.ready .any ops L↔i∈Region.ready .any hd LH:=by
 rw [mem_ready,mem_ready,h.getD hi,s.at' i hi];refine and_congr_right fun _=>exists_congr fun o=>and_congr_right fun ho=>forall_congr' fun e=>forall_congr' fun he=>forall_congr' fun hb=>?_;have:=s.topo i o hi (by rw [s.at' i hi];exact ho) e he hb;rw [h.getD (by omega)]
theorem ready_lt {hd:Array Oper}{n:Nat}{LH:Array Bool}(hs:hd.size=n){i:Nat}(hi:i∈Region.ready .any hd LH):i < n:=by
 obtain⟨_,o,ho,_⟩:=mem_ready.1 hi;have:=(Array.getElem?_eq_some_iff.1 ho).1;omega
theorem all_listed {hd:Array Oper}{n:Nat}{LH L:Array Bool}(s:Same ops hd n)(h:Lists ops n LH L)(hr:Region.ready .any hd LH=[]):∀i,i < n→LH.getD i false=true:=by
 intro i
 induction i using Nat.strongRecOn with
 | _ i ih=>
   intro hi
   by_cases hl:LH.getD i false=true
   ·exact hl
   ·exfalso
    have hl':LH.getD i true=false:=by
     rw [Array.getD_eq_getD_getElem?]at hl ⊢;have:i < LH.size:=by rw [h.hsize];exact hi
     rw [Array.getElem?_eq_getElem this]at hl ⊢;simpa using hl
    obtain⟨o,ho⟩:∃o,hd[i]? =some o:=⟨_,Array.getElem?_eq_getElem (by rw [s.size];exact hi)⟩;have hm:i∈Region.ready .any hd LH:=mem_ready.2 ⟨hl',o,ho,fun e he hb=>by
     have hlt:=s.topo i o hi (by rw [s.at' i hi];exact ho) e he hb;exact ih e.on hlt (by omega)⟩
    rw [hr]at hm;cases hm
theorem wpAny_of_seqX {md:Region.Mode}{Q':Exit→Act→World→Prop}:∀(l:List Oper) (x k:Nat) (listed:Array Bool) (a:Act) (w:World),(∀j,l[j]? =ops[k+j]?)→
 Region.seqB md ops l.length k listed=true→wpList P ops Q' l a w→wpAny P md ops Q' (l.length+x) listed a w
 | [],0,_,_,_,_,_,hB,h=>⟨by simpa [Region.seqB] using hB,h⟩
 | [],x+1,k,listed,_,_,_,hB,h=>by
   have h0:Region.ready md ops listed=[]:=by simpa [Region.seqB] using hB
   rw [List.length_nil,Nat.zero_add];exact⟨fun _=>h,fun i hi=>by rw [h0]at hi;cases hi⟩
 | o::l,x,k,listed,a,w,hl,hB,h=>by
   have h0:ops[k]? =some o:=by simpa using (hl 0).symm
   simp only [List.length_cons,Region.seqB,Bool.and_eq_true,decide_eq_true_eq]at hB;rw [List.length_cons,show l.length+1+x=(l.length+x)+1 by omega];refine⟨fun h1=>(by rw [hB.1]at h1;cases h1),fun i hi=>?_⟩;rw [hB.1]at hi;have hik:i=k:=by simpa using hi
   subst hik;have hw:wpOp P ops Q' i (wpList P ops Q' l) a w:=by unfold wpOp;simp only [h0];exact h
   exact wpOp_mono (fun a' w' h'=>wpAny_of_seqX l x (i+1) _ a' w' (fun j=>by have:=hl (j+1);simpa [Nat.add_assoc,Nat.add_comm 1 j] using this) hB.2 h') hw
theorem tail_waits_but {n:Nat}{L0 listed:Array Bool}(hs:∀i,i < n→L0.getD i false=false→∃j,i < j∧j≤n∧Region.waitsFor .any ops j i=true)(hc:Region.chainB .any ops n=true)(hn:n < ops.size)(inv:HeadInv .any ops n listed)
 (h0:∀i,L0.getD i false=true→listed.getD i false=true):
 ∀(d i:Nat),n - i=d→i < n→listed.getD i true=false→∀t,n≤t→t ∉ Region.ready .any ops listed:=by
 intro d
 induction d using Nat.strongRecOn with
 | _ d ih=>
   intro i hd hi hun t ht hr;obtain⟨_,ot,hot,hall⟩:=mem_ready.1 hr;have htlt:t < ops.size:=(Array.getElem?_eq_some_iff.1 hot).1
   by_cases htn:t=n
   ·subst htn
    have hl0:L0.getD i false=false:=by
     cases h:L0.getD i false with
     | false=>rfl
     | true=>
       have:=h0 i h;rw [getD_both hun]at this;cases this
    obtain⟨j,hj1,hjle,hj2⟩:=hs i hi hl0;obtain⟨oj,hoj,e,he,hb,hon⟩:=Region.waitsFor_spec hj2
    by_cases hjt:j=t
    ·subst hjt
     have:oj=ot:=Option.some.inj (hoj.symm.trans hot);subst this;have h2:=hall e he hb;rw [hon,getD_both hun]at h2;cases h2
    ·cases hl:listed.getD j false with
     | true=>
       have h2:=inv.closed j oj hoj hl e he hb;rw [hon,getD_both hun]at h2;cases h2
     | false=>
       have hjs:j < listed.size:=by rw [inv.size];omega
       exact ih (t - j) (by omega) j rfl (by omega) (getD_in hjs hl) t (Nat.le_refl _) hr
   ·have h1:=List.all_eq_true.1 hc t (List.mem_range.2 htlt)
    simp only [Bool.or_eq_true,decide_eq_true_eq]at h1;rcases h1 with h1 | h1
    ·omega
    ·obtain⟨o',ho',e,he,hb,hon⟩:=Region.waitsFor_spec h1
     have:o'=ot:=Option.some.inj (ho'.symm.trans hot);subst this;have h2:=hall e he hb;rw [hon,getD_both (inv.tail (t - 1) (by omega) (by omega))]at h2;cases h2
theorem wpAny_parted {hd:Array Oper}{n:Nat}(s:Same ops hd n){L0:Array Bool}(hs:∀i,i < n→L0.getD i false=false→∃j,i < j∧j≤n∧Region.waitsFor .any ops j i=true)(hc:Region.chainB .any ops n=true)(tl:List Oper)(ht:∀j,tl[j]? =ops[n+j]?)
 (hq:∀L:Array Bool,L.size=ops.size→(∀j,j < n→L[j]? =some true)→(∀j,n≤j→j < ops.size→L[j]? =some false)→Region.seqB .any ops tl.length n L=true):
 ∀(f:Nat) (LH L:Array Bool) (a:Act) (w:World),Lists ops n LH L→HeadInv .any ops n L→(∀i,L0.getD i false=true→L.getD i false=true)→wpAny P .any hd (headPost Q (wpList P ops Q tl)) f LH a w→wpAny P .any ops Q (tl.length+f) L a w:=by
 have done:∀(x:Nat) (LH L:Array Bool) (a:Act) (w:World),Lists ops n LH L→Region.ready .any hd LH=[]→wpList P ops Q tl a w→wpAny P .any ops Q (tl.length+x) L a w:=by
  intro x LH L a w hL hr h;have hall:=all_listed s hL hr;refine wpAny_of_seqX tl x n L a w ht (hq L hL.size (fun j hj=>?_) hL.tail) h;rw [hL.head j hj];have h1:=hall j hj;rw [Array.getD_eq_getD_getElem?]at h1;have:j < LH.size:=by rw [hL.hsize];exact hj
  rw [Array.getElem?_eq_getElem this]at h1 ⊢;simpa using h1
 intro f
 induction f with
 | zero=>exact fun LH L a w hL _ _ h=>done 0 LH L a w hL h.1 h.2
 | succ f ih=>
   intro LH L a w hL inv hl0 h
   by_cases hr:Region.ready .any hd LH=[]
   ·exact done (f+1) LH L a w hL hr (h.1 hr)
   ·obtain⟨i0,hi0⟩:=List.exists_mem_of_ne_nil _ hr
    have hlt0:=ready_lt s.size hi0;have hun:L.getD i0 true=false:=by rw [hL.getD hlt0];exact(mem_ready.1 hi0).1
    rw [← Nat.add_assoc];refine⟨fun h0=>?_,fun i hi=>?_⟩
    ·have:=(ready_head s hL hlt0).2 hi0
     rw [h0]at this;cases this
    ·have hin:i < n:=by
      rcases Nat.lt_or_ge i n with h' | h'
      ·exact h'
      ·exact absurd hi (tail_waits_but hs hc s.lt inv hl0 _ i0 rfl hlt0 hun i h')
     have hi':=(ready_head s hL hin).1 hi;have h1:=h.2 i hi';obtain⟨_,o,ho,_⟩:=mem_ready.1 hi;have hg:=s.guard i o ho;have ho':hd[i]? =some o:=by rw [← s.at' i hin];exact ho
     unfold wpOp at h1 ⊢;simp only [ho,ho']at h1 ⊢;have hw:∀ops' t,Region.wanted o (yielded ops' t)=true:=fun _ _=>by simp [Region.wanted,hg]
     rw [if_pos (hw _ _)]at h1 ⊢;rcases h1 with h1 | ⟨h1,h2⟩
     ·exact .inl (Oper.wp_head (Oper.wp_mono (fun a' w' h'=>ih _ _ a' w' (hL.set hin) (inv.set hi hin) (fun j hj=>getD_set_true (hl0 j hj)) h') h1))
     ·exact .inr ⟨h1,h2⟩
def Region.partB (ops:Array Oper)(n:Nat)(L0:Array Bool):Bool:=
 decide (n < ops.size) && ops.all (fun o=>o.guard.isNone) && (List.range n).all (fun i=>match ops[i]? with | some o=>o.after.all (fun e=>!Region.binds .any e || decide (e.on < i)) | none=>false) &&
  (List.range n).all (fun i=>L0.getD i false || (List.range (n+1)).any fun j=>decide (i < j) && Region.waitsFor .any ops j i) && Region.chainB .any ops n &&
  Region.seqB .any ops (ops.size - n) n (List.replicate n true++List.replicate (ops.size - n) false).toArray &&
  decide (L0.size=ops.size) && (List.range ops.size).all (fun j=>!L0.getD j false || (decide (j < n) && match ops[j]? with | some o=>o.after.all (fun e=>!Region.binds .any e || L0.getD e.on false) | none=>false))
theorem wpAny_parted_at {a:Act}{w:World}{l:List Oper}(n f:Nat)(L0:Array Bool)(hB:Region.partB l.toArray n L0=true)
 (h:wpAny P .any (l.take n).toArray (headPost Q (wpList P l.toArray Q (l.drop n))) f (L0.toList.take n).toArray a w):wpAny P .any l.toArray Q ((l.drop n).length+f) L0 a w:=by
 simp only [Region.partB,Bool.and_eq_true,decide_eq_true_eq]at hB;obtain⟨⟨⟨⟨⟨⟨⟨hn,hg⟩,ht⟩,hs⟩,hc⟩,hq⟩,hL0⟩,hI⟩:=hB;have hn':n < l.length:=by simpa using hn
 have hz:l.toArray.size=l.length:=by simp
 have same:Same l.toArray (l.take n).toArray n:=by
  refine⟨by simp;omega,hn,fun i hi=>by simp [List.getElem?_take,hi],fun i o ho=>?_,fun i o hi ho e he hb=>?_⟩
  ·have:=Array.all_eq_true_iff_forall_mem.1 hg o (Array.mem_of_getElem? ho)
   simpa using this
  ·have h1:=List.all_eq_true.1 ht i (List.mem_range.2 hi)
   simp only [ho]at h1;have h2:=Array.all_eq_true_iff_forall_mem.1 h1 e he;simpa [hb] using h2
 have hs':∀i,i < n→L0.getD i false=false→∃j,i < j∧j≤n∧Region.waitsFor .any l.toArray j i=true:=by
  intro i hi h0;have h1:=List.all_eq_true.1 hs i (List.mem_range.2 hi);rw [h0,Bool.false_or]at h1;obtain⟨j,hj,hj2⟩:=List.any_eq_true.1 h1;simp only [Bool.and_eq_true,decide_eq_true_eq]at hj2;exact⟨j,hj2.1,by have:=List.mem_range.1 hj;omega,hj2.2⟩
 have hI':∀j,j < l.toArray.size→L0.getD j false=true→j < n∧∀oj,l.toArray[j]? =some oj→∀e∈oj.after,Region.binds .any e=true→L0.getD e.on false=true:=by
  intro j hj hl;have h1:=List.all_eq_true.1 hI j (List.mem_range.2 hj);rw [hl]at h1;simp only [Bool.not_true,Bool.false_or,Bool.and_eq_true,decide_eq_true_eq]at h1;refine⟨h1.1,fun oj hoj e he hb=>?_⟩;have h2:=h1.2;simp only [hoj]at h2;have h3:=Array.all_eq_true_iff_forall_mem.1 h2 e he;simpa [hb] using h3
 have hlt:∀j,n≤j→j < l.toArray.size→L0[j]? =some false:=by
  intro j hj hj2;have:j < L0.size:=by rw [hL0];exact hj2
  rw [Array.getElem?_eq_getElem this];cases h0:L0[j]with
  | false=>rfl
  | true=>
    have:=(hI' j hj2 (by rw [Array.getD_eq_getD_getElem?,Array.getElem?_eq_getElem this,h0];rfl)).1;omega
 refine wpAny_parted (P:=P) (Q:=Q) same (L0:=L0) hs' hc (l.drop n) (fun j=>by simp [List.getElem?_drop]) (fun L hL h1 h2=>by
  have e:L=(List.replicate n true++List.replicate (l.toArray.size - n) false).toArray:=by
   apply Array.ext_getElem?
   intro j;rw [show(List.replicate n true++List.replicate (l.toArray.size - n) false).toArray[j]? =(List.replicate n true++List.replicate (l.toArray.size - n) false)[j]? by simp only [List.getElem?_toArray],List.getElem?_append]
   by_cases hj:j < n
   ·rw [if_pos (by simpa using hj),h1 j hj,List.getElem?_replicate,if_pos hj]
   ·rw [if_neg (by simpa using hj),List.length_replicate,List.getElem?_replicate]
    by_cases hj2:j < l.toArray.size
    ·rw [h2 j (by omega) hj2,if_pos (by omega)]
    ·rw [if_neg (by omega),Array.getElem?_eq_none (by omega)]
  rw [e,List.length_drop,← hz];exact hq) f _ L0 a w ⟨by simp [hL0];omega,hL0,fun j hj=>by simp [List.getElem?_take,hj],hlt⟩
  ⟨hL0,fun j oj hoj hl=>(hI' j (Array.getElem?_eq_some_iff.1 hoj).1 hl).2 oj hoj,fun t ht ht2=>by rw [Array.getD_eq_getD_getElem?,hlt t ht ht2];rfl⟩ (fun _ h=>h) h
theorem Zba {a:Act}{w:World}{l:List Oper}(n f:Nat)(L0:Array Bool)(S:World→Prop)(hB:Region.partB l.toArray n L0=true)(hS:S w)
 (h:S w→wpAnyH P .any (l.take n).toArray (headPost Q (wpList P l.toArray Q (l.drop n))) S f (L0.toList.take n).toArray a w):wpAny P .any l.toArray Q ((l.drop n).length+f) L0 a w:=
 wpAny_parted_at n f L0 hB (wpAny_of_held _ _ _ _ (h hS))
theorem Zad {S:World→Prop}{md:Region.Mode}{l:List Oper}{i:Nat}{oi:Oper}{v:Value}{fuel:Nat}{listed:Array Bool}{a:Act}{w:World}(hi:l[i]? =some oi)
 (hs:Region.noSelect l.toArray=true) (hf:Region.free md l.toArray listed i=true) (hr:(Region.ready md l.toArray listed).contains i=true)
 (hQ:∀c a w,Q (.panic c) (a.put oi.dst v) w→Q (.panic c) a w) (hy:YieldsIf P l.toArray S oi v a) (hS:S w)
 (h:wpAnyH P md l.toArray Q S fuel (listed.setIfInBounds i true) (a.put oi.dst v) w):wpAnyH P md l.toArray Q S (fuel+1) listed a w:=
 wpAnyH_take (by simpa using hi) hs hf hr hQ hy hS h
theorem Zaq {md:Region.Mode}{l:List Oper}{i:Nat}{oi:Oper}{v:Value}{fuel:Nat}{listed:Array Bool}{a:Act}{w:World}(hi:l[i]? =some oi)
 (hs:Region.noSelect l.toArray=true) (hf:Region.free md l.toArray listed i=true) (hr:(Region.ready md l.toArray listed).contains i=true)
 (hQ:∀c a w,Q (.panic c) (a.put oi.dst v) w→Q (.panic c) a w) (hy:Yields P l.toArray oi v a)
 (h:wpAny P md l.toArray Q fuel (listed.setIfInBounds i true) (a.put oi.dst v) w):wpAny P md l.toArray Q (fuel+1) listed a w:=
 wpAny_take (by simpa using hi) hs hf hr hQ hy h
def takeOk (md:Region.Mode)(l:List Oper)(listed:Array Bool)(i:Nat):Bool:=Region.noSelect l.toArray && Region.free md l.toArray listed i && (Region.ready md l.toArray listed).contains i
theorem Zcy {md:Region.Mode}{l:List Oper}{listed:Array Bool}{i:Nat}(h:takeOk md l listed i=true):Region.noSelect l.toArray=true∧Region.free md l.toArray listed i=true∧(Region.ready md l.toArray listed).contains i=true:=by
 unfold takeOk at h;simp only [Bool.and_eq_true]at h;exact⟨h.1.1,h.1.2,h.2⟩
theorem wpAnyH_takeN {S:World→Prop}{md:Region.Mode}{l:List Oper}{i:Nat}{oi:Oper}{v:Value}{fuel:Nat}{listed:Array Bool}{a:Act}{w:World}(hi:l[i]? =some oi)
 (hb:takeOk md l listed i=true) (hQ:∀c a w,Q (.panic c) (a.put oi.dst v) w→Q (.panic c) a w) (hy:YieldsIf P l.toArray S oi v a) (hS:S w)
 (h:wpAnyH P md l.toArray Q S fuel (listed.setIfInBounds i true) (a.put oi.dst v) w):wpAnyH P md l.toArray Q S (fuel+1) listed a w:=
 wpAnyH_take (by simpa using hi) (Zcy hb).1 (Zcy hb).2.1 (Zcy hb).2.2 hQ hy hS h
theorem wpAny_takeN {md:Region.Mode}{l:List Oper}{i:Nat}{oi:Oper}{v:Value}{fuel:Nat}{listed:Array Bool}{a:Act}{w:World}(hi:l[i]? =some oi)
 (hb:takeOk md l listed i=true) (hQ:∀c a w,Q (.panic c) (a.put oi.dst v) w→Q (.panic c) a w) (hy:Yields P l.toArray oi v a)
 (h:wpAny P md l.toArray Q fuel (listed.setIfInBounds i true) (a.put oi.dst v) w):wpAny P md l.toArray Q (fuel+1) listed a w:=
 wpAny_take (by simpa using hi) (Zcy hb).1 (Zcy hb).2.1 (Zcy hb).2.2 hQ hy h
theorem AllReadyH.consL {S:World→Prop}{md:Region.Mode}{l:List Oper}{fuel:Nat}{listed:Array Bool}{a:Act}{w:World}{i:Nat}{o:Oper}{rs:List Nat}(ho:l[i]? =some o)
 (h:∀K':Act→World→Prop,Shut (∀a w,S w→(S w→wpAnyH P md l.toArray Q S fuel (listed.setIfInBounds i true) a w)→K' a w)→if Region.wanted o (yielded l.toArray a.tmps)=true then Oper.wp P o a w K' Q else K' (a.put o.dst undef) w)
 (hs:AllReadyH P md l.toArray Q S fuel listed a w rs):AllReadyH P md l.toArray Q S fuel listed a w (i::rs):=
 AllReadyH.cons (by simpa using ho) h hs
end
end Go
