/- The reference's reader of patterns: repetitions. -/
import Derived.Test.YtndjgbehbgcpkaaGreatDoorPrj
set_option linter.unusedVariables false
set_option linter.unusedSimpArgs false
set_option maxRecDepth 100000
set_option maxHeartbeats 4000000
namespace Go.Proofs.YtndjgbehbgcpkaaGreatDoor
open Go Go.Proofs Go.RowKit Go.Ink Go.Sort
theorem NdC.at_ {nc:Array Value}{kid:Value}(h:NdC nc kid)(off:Nat)(v:Value)(kid':Value)(ho:off < 262)(hv:v.oneCell'=true)
 (h0:(off=0∨off=259∨off=260)→∃k,v= .int .i64 k) (h1:off=261→kid'=v) (h2:off≠261→kid'=kid):NdC (nc.setIfInBounds off v) kid':=by
 have hg:∀j,(nc.setIfInBounds off v)[j]? =if off=j then some v else nc[j]?:=by
  intro j;rw [Array.getElem?_setIfInBounds]
  split
  ·rw [if_pos (by rw [h.size];exact ho)]
  ·rfl
 refine⟨by simp [h.size],?_,?_,?_,?_,?_⟩
 ·rw [Array.all_eq_true]
  intro i hi;have e:=hg i;rw [Array.getElem?_eq_getElem hi]at e
  split at e
  ·simp only [Option.some.injEq]at e
   rw [e];exact hv
  ·exact Array.all_eq_true_iff_forall_mem.1 h.one _ (Array.mem_of_getElem? e.symm)
 ·rw [hg]
  split
  ·obtain⟨k,rfl⟩:=h0 (by omega)
   exact⟨k,rfl⟩
  ·exact h.kind
 ·rw [hg]
  split
  ·obtain⟨k,rfl⟩:=h0 (by omega)
   exact⟨k,rfl⟩
  ·exact h.min_
 ·rw [hg]
  split
  ·obtain⟨k,rfl⟩:=h0 (by omega)
   exact⟨k,rfl⟩
  ·exact h.max_
 ·rw [hg]
  split
  ·rename_i e
   rw [h1 e]
  ·rename_i e
   rw [h2 (fun x=>e x)];exact h.kids
section
variable {nc:Array Value}{kid:Value}
theorem NdC.kindAt (h:NdC nc kid)(k:Int):NdC (nc.setIfInBounds 0 (.int .i64 k)) kid:=h.at_ 0 _ _ (by omega) rfl (fun _=>⟨k,rfl⟩) (fun e=>by cases e) (fun _=>rfl)
theorem NdC.byteAt (h:NdC nc kid)(k:Int):NdC (nc.setIfInBounds 1 (.int .u8 k)) kid:=h.at_ 1 _ _ (by omega) rfl (fun e=>by omega) (fun e=>by cases e) (fun _=>rfl)
theorem NdC.numAt (h:NdC nc kid)(k:Int):NdC (nc.setIfInBounds 258 (.int .i64 k)) kid:=h.at_ 258 _ _ (by omega) rfl (fun _=>⟨k,rfl⟩) (fun e=>by cases e) (fun _=>rfl)
theorem NdC.minAt (h:NdC nc kid)(k:Int):NdC (nc.setIfInBounds 259 (.int .i64 k)) kid:=h.at_ 259 _ _ (by omega) rfl (fun _=>⟨k,rfl⟩) (fun e=>by cases e) (fun _=>rfl)
theorem NdC.maxAt (h:NdC nc kid)(k:Int):NdC (nc.setIfInBounds 260 (.int .i64 k)) kid:=h.at_ 260 _ _ (by omega) rfl (fun _=>⟨k,rfl⟩) (fun e=>by cases e) (fun _=>rfl)
theorem NdC.kidsAt (h:NdC nc kid)(v:Value)(hv:v.oneCell'=true):NdC (nc.setIfInBounds 261 v) v:=h.at_ 261 _ _ (by omega) hv (fun e=>by omega) (fun _=>rfl) (fun e=>(e rfl).elim)
end
section
variable {w w':World}{b:Nat}{s:List UInt8}{a gr mn:Nat}{rf:Bool×(Nat→Bool)}{bd:Bool}
theorem RdAt.cF (h:RdAt w b s a gr mn rf bd):w.cell? ⟨b,1004,none⟩=some (.bool rf.1):=by
 obtain⟨cs,h,_,_,_,_,_,_,h5,_⟩:=h;rw [Lib.cell_of_heap h];exact h5
theorem RdAt.cB (h:RdAt w b s a gr mn rf bd):w.cell? ⟨b,1005,none⟩=some (.bool bd):=by
 obtain⟨cs,h,_,_,_,_,_,_,_,h6⟩:=h;rw [Lib.cell_of_heap h];exact h6
theorem RdAt.cE (h:RdAt w b s a gr mn rf bd)(j:Nat)(hj:j < 1000):w.cell? ⟨b,4+j,none⟩=some (.bool (rf.2 j)):=by
 obtain⟨cs,h,_,_,_,_,_,h4,_⟩:=h;rw [Lib.cell_of_heap h];exact h4 j hj
theorem RdAt.set2 (h:RdAt w b s a gr mn rf bd)(k:Nat):RdAt (w.setCell ⟨b,2,none⟩ (.int .i64 (k:Int))) b s a k mn rf bd:=by
 obtain⟨cs,h,hz,h0,h1,h2,h3,h4,h5,h6⟩:=h;refine⟨_,Zay h _,by simp [hz],?_,?_,?_,?_,fun j hj=>?_,?_,?_⟩ <;> try(rw [Array.getElem?_setIfInBounds_ne (by omega)];first | exact h0 | exact h1 | exact h3 | exact h4 j hj | exact h5 | exact h6)
 rw [Array.getElem?_setIfInBounds,if_pos rfl,if_pos (by omega)]
theorem RdAt.setF (h:RdAt w b s a gr mn rf bd)(k:Bool):RdAt (w.setCell ⟨b,1004,none⟩ (.bool k)) b s a gr mn (k,rf.2) bd:=by
 obtain⟨cs,h,hz,h0,h1,h2,h3,h4,h5,h6⟩:=h;refine⟨_,Zay h _,by simp [hz],?_,?_,?_,?_,fun j hj=>?_,?_,?_⟩ <;> try(rw [Array.getElem?_setIfInBounds_ne (by omega)];first | exact h0 | exact h1 | exact h2 | exact h3 | exact h4 j hj | exact h6)
 rw [Array.getElem?_setIfInBounds,if_pos rfl,if_pos (by omega)]
theorem RdAt.setB (h:RdAt w b s a gr mn rf bd)(k:Bool):RdAt (w.setCell ⟨b,1005,none⟩ (.bool k)) b s a gr mn rf k:=by
 obtain⟨cs,h,hz,h0,h1,h2,h3,h4,h5,h6⟩:=h;refine⟨_,Zay h _,by simp [hz],?_,?_,?_,?_,fun j hj=>?_,?_,?_⟩ <;> try(rw [Array.getElem?_setIfInBounds_ne (by omega)];first | exact h0 | exact h1 | exact h2 | exact h3 | exact h4 j hj | exact h5)
 rw [Array.getElem?_setIfInBounds,if_pos rfl,if_pos (by omega)]
theorem RdAt.setE (h:RdAt w b s a gr mn rf bd)(i:Nat)(hi:i < 1000)(k:Bool):RdAt (w.setCell ⟨b,4+i,none⟩ (.bool k)) b s a gr mn (rf.1,fun j=>if j=i then k else rf.2 j) bd:=by
 obtain⟨cs,h,hz,h0,h1,h2,h3,h4,h5,h6⟩:=h;refine⟨_,Zay h _,by simp [hz],?_,?_,?_,?_,fun j hj=>?_,?_,?_⟩ <;> try(rw [Array.getElem?_setIfInBounds_ne (by omega)];first | exact h0 | exact h1 | exact h2 | exact h3 | exact h5 | exact h6)
 by_cases e:j=i
 ·subst e
  rw [Array.getElem?_setIfInBounds,if_pos rfl,if_pos (by omega)];simp
 ·rw [Array.getElem?_setIfInBounds_ne (by omega)]
  simp only [if_neg e];exact h4 j hj
def rdBad (w:World)(b:Nat):Nat:=match w.cell? ⟨b,1005,none⟩ with
 | some (.bool true)=>0
 | _=>1
theorem RdAt.bad1 (h:RdAt w b s a gr mn rf false):rdBad w b=1:=by
 unfold rdBad;rw [h.cB]
theorem RdAt.bad0 (h:RdAt w b s a gr mn rf true):rdBad w b=0:=by
 unfold rdBad;rw [h.cB]
end
def S3 (w:World)(S:Nat→Prop)(j:Nat):Prop:=S j∨j=w.heap.size∨j=w.heap.size+1
structure Tm (w:World) (S:Nat→Prop) (b:Nat) (s:List UInt8) (gr:Nat) (rf:Bool×(Nat→Bool)) (wr:World) (nc:Array Value) (kid:Value) (a mn:Nat) (bd:Bool):Prop where
 x:wr.heap[w.heap.size]? =some (.cells nc 193 (0,0))
 o:wr.heap[w.heap.size+1]? =some (.cells ndZ 193 (0,0))
 n:NdC nc kid
 t:Tree wr (S3 w S) kid
 r:RdAt wr b s a gr mn rf bd
 k:KeepT (fun j=>j=b) w wr
theorem Tm.to {w:World}{S:Nat→Prop}{b:Nat}{s:List UInt8}{gr:Nat}{rf:Bool×(Nat→Bool)}{wr w2:World}{nc:Array Value}{kid:Value}{a mn:Nat}{bd:Bool}{gr':Nat}{rf':Bool×(Nat→Bool)}{a' mn':Nat}{bd':Bool}{Z:Nat→Prop}
 (h:Tm w S b s gr rf wr nc kid a mn bd) (hb:b < w.heap.size) (hS:S b) (hr:RdAt w2 b s a' gr' mn' rf' bd') (hk:KeepT Z wr w2) (hz:∀j,Z j→j=b):Tm w S b s gr' rf' w2 nc kid a' mn' bd':=
 ⟨(hk.block _ (Zaa h.x) (fun e=>by have:=hz _ e;omega)).trans h.x,(hk.block _ (Zaa h.o) (fun e=>by have:=hz _ e;omega)).trans h.o,h.n,h.t.kept hk (fun j e=> .inl (hz j e▸hS)),hr,h.k.trans hk (fun i _ e=>hz i e)⟩
theorem Tm.nodeX {w:World}{S:Nat→Prop}{b:Nat}{s:List UInt8}{gr:Nat}{rf:Bool×(Nat→Bool)}{wr w5:World}{nc:Array Value}{kid:Value}{a mn:Nat}{bd:Bool}
 (h:Tm w S b s gr rf wr nc kid a mn bd) (hb:b < w.heap.size) (hk:KeepT (fun j=>j=b) (wr.alloc (.cells nc 193)) w5):w5.heap[w.heap.size]? =some (.cells nc 193 (0,0)):=
 (hk.block _ (by have:=Zaa h.x;simp;omega) (fun e=>by have e':w.heap.size=b:=e;omega)).trans (((Zab wr (.cells nc 193)).block _ (Zaa h.x)).trans h.x)
theorem Tm.node {w:World}{S:Nat→Prop}{b:Nat}{s:List UInt8}{gr:Nat}{rf:Bool×(Nat→Bool)}{wr w5:World}{nc nc2:Array Value}{kid:Value}{a mn:Nat}{bd:Bool}{a' mn':Nat}{bd':Bool}
 (h:Tm w S b s gr rf wr nc kid a mn bd) (hb:b < w.heap.size) (hS:S b) (hSl:∀j,S j→j < w.heap.size) (hn2:NdC nc2 (.slice (some ⟨wr.heap.size,0,none⟩) 1 1)) (hr:RdAt w5 b s a' gr mn' rf bd') (hk:KeepT (fun j=>j=b) (wr.alloc (.cells nc 193)) w5):
 Tm w S b s gr rf (w5.setRow w.heap.size nc2) nc2 (.slice (some ⟨wr.heap.size,0,none⟩) 1 1) a' mn' bd':=by
 have hwl:=Zaa h.o;have hbA:=Zab wr (.cells nc 193);have hkk:KeepT (fun j=>j=w.heap.size) w5 (w5.setRow w.heap.size nc2):=⟨rfl,rfl,rfl,by simp,fun i hi hn=>setRow_other w5 _ i nc2 (fun e=>hn e)⟩;have hx5:=h.nodeX hb hk;have ho5:=(hk.block _ (by have:=Zaa h.o;simp;omega) (fun e=>by have e':w.heap.size+1=b:=e;omega)).trans ((hbA.block _ (Zaa h.o)).trans h.o);have hn5:=(hk.block _ (by simp) (fun e=>by have e':wr.heap.size=b:=e;omega)).trans (Zae wr (.cells nc 193));have ht5:=(h.t.later hbA).kept hk (fun j e=> .inl (e▸hS));refine⟨setRow_heap _ _ _ nc2 _ _ hx5,(hkk.block _ (Zaa ho5) (fun e=>by have e':w.heap.size+1=w.heap.size:=e;omega)).trans ho5,hn2,?_,hr.kept hkk (fun e=>by have e':b=w.heap.size:=e;omega),((h.k.then_below hbA).trans hk (fun i _ e=>e)).trans hkk (fun i hi e=>by have e':i=w.heap.size:=e;omega)⟩;refine .row wr.heap.size 1 1 nc 193 (0,0) (fun _=>nc) (fun _=>kid) (fun e=>by unfold S3 at e;rcases e with e | e | e;(have:=hSl _ e;omega);omega;omega) ((hkk.block _ (Zaa hn5) (fun e=>by have e':wr.heap.size=w.heap.size:=e;omega)).trans hn5) (by unfold maxLen;omega) (fun _ _=>h.n) (fun i hi j u hj=>?_) (fun _ _=>ht5.kept hkk (fun j e=> .inr (.inl e)));have:i=0:=by omega
 subst this;rw [Nat.mul_zero,Nat.zero_add];exact hj
def TimesE (S:Nat→Prop)(w:World)(b:Nat)(s:List UInt8)(a gr mn:Nat)(rf:Bool×(Nat→Bool))(e:Ending)(w':World):Prop:=∃nc' kid' a' mn' bd',e= .returned (.agg nc')∧NdC nc' kid'∧Tree w' S kid'∧RdAt w' b s a' gr mn' rf bd'∧a≤a'∧a'≤s.length∧mn'≤a'∧Times9 s a mn (a',mn',bd')∧KeepT (fun j=>j=b) w w'
def TmGo (s:List UInt8)(a mn:Nat)(bd:Bool)(r:Nat×Nat×Bool):Prop:=(bd=true∧r=(a,mn,true))∨(bd=false∧Times9 s a mn r)
theorem Tm.ends {w:World}{S:Nat→Prop}{b:Nat}{s:List UInt8}{a0 mn0 gr:Nat}{rf:Bool×(Nat→Bool)}{wr:World}{nc:Array Value}{kid:Value}{a mn:Nat}{bd:Bool}
 (h:Tm w S b s gr rf wr nc kid a mn bd) (hb:b < w.heap.size) (ha:a0≤a∧a≤s.length) (hm:mn≤a) (ht9:Times9 s a0 mn0 (a,mn,bd)):TimesE S w b s a0 gr mn0 rf (.returned (.agg nc)) (wr.setRow (w.heap.size+1) nc):=by
 have hkk:KeepT (fun j=>j=w.heap.size+1) wr (wr.setRow (w.heap.size+1) nc):=⟨rfl,rfl,rfl,by simp,fun i hi hn=>setRow_other wr _ i nc (fun e=>hn e)⟩;exact⟨nc,kid,a,mn,bd,rfl,h.n,(h.t.kept hkk (fun j e=> .inr (.inr e))).mono (fun j _ e=> .inl e),h.r.kept hkk (fun e=>by have e':b=w.heap.size+1:=e;omega),ha.1,ha.2,hm,ht9,h.k.trans hkk (fun i hi e=>by have e':i=w.heap.size+1:=e;omega)⟩
def TmM (w:World)(S:Nat→Prop)(b:Nat)(s:List UInt8)(a0 mn0 gr:Nat)(rf:Bool×(Nat→Bool))(wr:World):Prop:=
 ∃nc kid a mn bd,Tm w S b s gr rf wr nc kid a mn bd∧(a0≤a∧a≤s.length)∧mn≤a∧∀r,TmGo s a mn bd r→Times9 s a0 mn0 r
def NodeT (S:Nat→Prop)(R:Nat→Out9→Prop)(w:World)(b:Nat)(s:List UInt8)(a:Nat)(e:Ending)(w':World):Prop:=
 ∃nc kid a' gr' mn' rf' bd',e= .returned (.agg nc)∧NdC nc kid∧Tree w' S kid∧RdAt w' b s a' gr' mn' rf' bd'∧a≤a'∧a'≤s.length∧gr'≤900∧mn'≤a'∧(bd'=false→a < a')∧KeepT (fun j=>j=b) w w'∧∃kd:Int,nc[0]? =some (.int .i64 kd)∧R (kcls kd) ⟨a',gr',mn',bd',rf'.2⟩
theorem Tm.mem {w:World}{S:Nat→Prop}{b:Nat}{s:List UInt8}{a0 mn0 gr:Nat}{rf:Bool×(Nat→Bool)}{wr:World}{nc:Array Value}{kid:Value}{a mn:Nat}{bd:Bool}
 (h:Tm w S b s gr rf wr nc kid a mn bd) (ha:a0≤a∧a≤s.length) (hm:mn≤a) (hr:∀r,TmGo s a mn bd r→Times9 s a0 mn0 r):TmM w S b s a0 mn0 gr rf wr:=⟨nc,kid,a,mn,bd,h,ha,hm,hr⟩
theorem refTimes {S:Nat→Prop}{b:Nat}{s:List UInt8}{a gr mn:Nat}{rf:Bool×(Nat→Bool)}(nc:Array Value)(kid:Value)(w:World)(h:RdAt w b s a gr mn rf false)(hn:NdC nc kid)(ht:Tree w S kid)(hSb:S b)(hSl:∀j,S j→j < w.heap.size)(ha:a≤s.length)(hm:mn≤a)(hs:s.length≤100000):
 Calls Tryz.prog 171 #[.pointer (some ⟨b,0,none⟩),.agg nc] w fun e w'=>TimesE S w b s a gr mn rf e w':=by
 have HBL:=Zh h.lt;have HSB:=Zh hSb;have HSL:=Zh hSl;go_enter Tryz.func171,Tryz.ntmps171;go_upto_region 1 with fail;generalize hwA:(w.alloc _).alloc _=wA;have hbA:Below w.heap.size w wA:=hwA▸(Zab w _).trans ((Zab _ _).mono (Zab w _).size);have HM0:=Zh (show TmM w S b s a mn gr rf wA from⟨nc,kid,a,mn,false,⟨hwA▸heap_alloc2_old _ _ _,hwA▸heap_alloc2_new _ _ _,hn,(ht.mono (S':=S3 w S) (fun j hj e=>by unfold S3 at e;rcases e with e | e | e;exact e;omega;omega)).later hbA,h.later hbA,KeepT.of_below hbA⟩,⟨Nat.le_refl _,ha⟩,hm,fun r h=>by rcases h with⟨h,_⟩ | ⟨_,h⟩;cases h;exact h⟩);have HLS:=Zh hs;clear hwA h hn ht hm ha hSb hSl hs hbA;go_wp2_with fail
 go_loopw [5,6,7,8,9] (fun _ _ _ _ _ wr=>Hid (TmM w S b s a mn gr rf wr)) (fun _ _ _ _ _ wr=>2 * (s.length - rdPos wr b)+rdBad wr b)
 case atStart=>exact HM0
 case round=>
  clear HM0;obtain⟨nc,kid,a1,mn,bd,ht,ha,hm,hgo⟩:=hrel.out;have HGO:=Zh hgo;clear hgo;have HT:=Zh ht;have HA:=Zh ha;have HM:=Zh hm;have HPO:=Zh ht.r.pos;have q5:=ht.r.cB;clear ht ha hm;cases bd
  case true=>
   have HT9:=Zh (HGO.out _ (.inl ⟨rfl,rfl⟩));have HSX:Hid ((Tryz.prog.info? 193).map (·.size)=some nc.size):=Zh (by rw [HT.out.n.size];exact Zbs);have HSS:=Zh (show ndZ.size=nc.size by rw [HT.out.n.size,Zbq.size]);have HON:=Zh HT.out.n.one
   go_wp2_with (first
    | (refine wpList_load_row rfl 193 _ (by with_reducible rfl) w.heap.size rfl 193 nc (0,0) _ HT.out.x Tryz.underlying193 rfl HSX.out ?_)
    | (refine wpList_store_row rfl 193 _ _ (by with_reducible rfl) (w.heap.size+1) nc rfl rfl 193 ndZ HT.out.o HSX.out HSS.out HON.out ?_))
   refine bodyPost_ret (v:= .agg nc) (results_cell_row (p:=4) (by kernel_rfl) _ _ (w.heap.size+1) 193 nc (0,0) _ rfl (setRow_heap _ _ _ _ _ _ HT.out.o) Tryz.underlying193 rfl HSX.out) rfl ?_;exact HT.out.ends HBL.out HA.out HM.out HT9.out
  have HBD:=Zh HT.out.r.bad1;have HIS:=Zh (show Calls Tryz.prog 169 #[.pointer (some ⟨b,0,none⟩),.string ⟨#[42]⟩] wr fun e w'=>IsE s a1 [42] e∧RdAt w' b s a1 gr mn rf false∧KeepT (fun _=>False) wr w' from refIs [42] wr HT.out.r HA.out.2 HLS.out (by decide));go_wp2_with fail;refine HIS.out.mono ?_;rintro e w2 ⟨⟨v,rfl,hv,hib⟩,hr2,hk2⟩;have HI1:=Zh hib;clear hib;have HT2:=Zh (HT.out.to HBL.out HSB.out hr2 hk2 (fun _ h=>h.elim));clear hr2 hk2 HT HIS q5;have HT:=HT2;clear HT2;cases v
  case true=>
   have HA1:=Zh (show a1+1≤s.length from hv rfl);clear hv;obtain⟨ie,z,hie,hz,hsz1,hby1,hzs⟩:=nod_parts;have HIE:=Zh (show Tryz.prog.info? 193=some ie∧ie.zero=some z∧ie.size=262 from⟨hie,hz,hsz1⟩);clear hie hz hsz1 hby1 hzs;have HN2:=Zh (show NdC (((Tryz.zeroCells193.setIfInBounds 0 (.int .i64 8)).setIfInBounds 260 (.int .i64 (-1))).setIfInBounds 261 (.slice (some ⟨w2.heap.size,0,none⟩) 1 1)) (.slice (some ⟨w2.heap.size,0,none⟩) 1 1) from((Zbq.kindAt 8).maxAt (-1)).kidsAt _ rfl);have HSX:Hid ((Tryz.prog.info? 193).map (·.size)=some nc.size):=Zh (by rw [HT.out.n.size];exact Zbs)
   go_wp2_with (first
    | (refine wpList_load_row rfl 193 _ (by with_reducible rfl) w.heap.size rfl 193 nc (0,0) _ HT.out.x Tryz.underlying193 rfl HSX.out ?_)
    | (refine Fil.wpList_row_one rfl 141 193 _ rfl nc rfl ie z Tryz.underlying141 HIE.out.1 HIE.out.2.1 (by rw [HT.out.n.size,HIE.out.2.2]) (by rw [HIE.out.2.2];omega) (by rw [HIE.out.2.2];omega) ?_))
   generalize (((Tryz.zeroCells193.setIfInBounds 0 (.int .i64 8)).setIfInBounds 260 (.int .i64 (-1))).setIfInBounds 261 (.slice (some ⟨w2.heap.size,0,none⟩) 1 1))=nc2 at *;have HSX2:Hid ((Tryz.prog.info? 193).map (·.size)=some nc2.size):=Zh (by rw [HN2.out.size];exact Zbs);have HND:=Zh (Zec nc2 HN2.out.size HN2.out.one 1 (w2.alloc (.cells nc 193)) (HT.out.r.later (Zab w2 (.cells nc 193))) (by have:=HA1.out;have:=HLS.out;omega) (by have:=HM.out;have:=HA1.out;have:=HLS.out;omega));refine HND.out.mono ?_;rintro e w5 ⟨rfl,hr5,hk5⟩;have HT5:=Zh (HT.out.node HBL.out HSB.out HSL.out HN2.out hr5 hk5);have HX5:=Zh (HT.out.nodeX HBL.out hk5);have HSS:=Zh (show nc.size=nc2.size by rw [HT.out.n.size,HN2.out.size]);clear hr5 hk5 HND;go_wp2_with (refine wpList_store_row rfl 193 _ _ (by with_reducible rfl) w.heap.size nc2 rfl rfl 193 nc HX5.out HSX2.out HSS.out HN2.out.one ?_);simp only [Act.put];go_roundw
   case rel=>exact Zh (HT5.out.mem ⟨by have:=HA.out;omega,HA1.out⟩ (by have:=HM.out;omega) (fun r h=>by rcases h with⟨h,_⟩ | ⟨_,h⟩;cases h;exact HGO.out r (.inr ⟨rfl,.star _ _ _ HI1.out h⟩)))
   case measure=>
    rw [HPO.out,HBD.out,HT5.out.r.pos,HT5.out.r.bad1];have:=HA1.out;omega
  clear hv;have HIS:=Zh (show Calls Tryz.prog 169 #[.pointer (some ⟨b,0,none⟩),.string ⟨#[92,123]⟩] w2 fun e w'=>IsE s a1 [92,123] e∧RdAt w' b s a1 gr mn rf false∧KeepT (fun _=>False) w2 w' from refIs [92,123] w2 HT.out.r HA.out.2 HLS.out (by decide));go_wp2_with fail;refine HIS.out.mono ?_;rintro e w3 ⟨⟨v,rfl,hv,hib⟩,hr2,hk2⟩;have HI2:=Zh hib;clear hib;have HT2:=Zh (HT.out.to HBL.out HSB.out hr2 hk2 (fun _ h=>h.elim));clear hr2 hk2 HT HIS;have HT:=HT2;clear HT2;cases v
  case false=>
   clear hv;have HT9:=Zh (HGO.out _ (.inr ⟨rfl,.stop _ _ HI1.out HI2.out⟩));have HSX:Hid ((Tryz.prog.info? 193).map (·.size)=some nc.size):=Zh (by rw [HT.out.n.size];exact Zbs);have HSS:=Zh (show ndZ.size=nc.size by rw [HT.out.n.size,Zbq.size]);have HON:=Zh HT.out.n.one
   go_wp2_with (first
    | (refine wpList_load_row rfl 193 _ (by with_reducible rfl) w.heap.size rfl 193 nc (0,0) _ HT.out.x Tryz.underlying193 rfl HSX.out ?_)
    | (refine wpList_store_row rfl 193 _ _ (by with_reducible rfl) (w.heap.size+1) nc rfl rfl 193 ndZ HT.out.o HSX.out HSS.out HON.out ?_))
   refine bodyPost_ret (v:= .agg nc) (results_cell_row (p:=4) (by kernel_rfl) _ _ (w.heap.size+1) 193 nc (0,0) _ rfl (setRow_heap _ _ _ _ _ _ HT.out.o) Tryz.underlying193 rfl HSX.out) rfl ?_;exact HT.out.ends HBL.out HA.out HM.out HT9.out
  have HA2:=Zh (show a1+2≤s.length from hv rfl);clear hv;have q1:=HT.out.r.c1;have g1:=HT.out.r.fz 1;have e1:((a1+2:Nat):Int)=(a1:Int)+2:=by omega
  have hli:(a1:Int)≤100000:=by have:=HA2.out;have:=HLS.out;omega
  have HR4:=HT.out.r.set1 (a1+2);rw [e1]at HR4;have HT4:=Zh (HT.out.to HBL.out HSB.out HR4 ((KeepT.refl (fun j=>j=b) w3).setCell (p:=⟨b,1,none⟩) (.inl rfl) (.int .i64 ((a1:Int)+2))) (fun _ h=>h));clear e1 HR4;go_upto_region 7 with fail;clear q1 g1 HT hli;generalize w3.setCell _ _=w4 at *;have HDG:=Zh (refDigits w4 HT4.out.r HA2.out HLS.out);go_wp2_with fail;refine HDG.out.mono ?_;rintro e w5 ⟨a2,⟨m,ok,rfl,hd5⟩,ha2,ha3,hr5,hk5⟩;have HD5:=Zh hd5;clear hd5;have HT:=Zh (HT4.out.to HBL.out HSB.out hr5 hk5 (fun _ h=>h));have HA3:=Zh (show a1+2≤a2∧a2≤s.length from⟨ha2,ha3⟩);clear hr5 hk5 ha2 ha3 HT4 HDG;have HIS:=Zh (show Calls Tryz.prog 169 #[.pointer (some ⟨b,0,none⟩),.string ⟨#[44]⟩] w5 fun e w'=>IsE s a2 [44] e∧RdAt w' b s a2 gr mn rf false∧KeepT (fun _=>False) w5 w' from refIs [44] w5 HT.out.r HA3.out.2 HLS.out (by decide));go_wp2_with fail;refine HIS.out.mono ?_;rintro e w6 ⟨⟨v,rfl,hv,hib⟩,hr2,hk2⟩;have HI3:=Zh hib;clear hib;have HT2:=Zh (HT.out.to HBL.out HSB.out hr2 hk2 (fun _ h=>h.elim));clear hr2 hk2 HT HIS
  go_upto_if 41 with fail
  go_cut [7] from 42 to 56 (fun nv wx=>∃n:Int,nv= .int .i64 n∧Hid (∃a3,(a2≤a3∧a3≤s.length)∧Tm w S b s gr rf wx nc kid a3 mn false∧bnd s (a1+2)=(m,ok,n,a3)))
  case first=>
   cases v
   case false=>
    clear hv;go_wp2_with fail;go_meet
    case rel=>exact⟨_,rfl,Zh ⟨a2,⟨Nat.le_refl _,HA3.out.2⟩,HT2.out,by unfold bnd;rw [HD5.out,if_neg (by rw [HI3.out];decide)]⟩⟩
   have HA4:=Zh (show a2+1≤s.length from hv rfl);clear hv;have q1:=HT2.out.r.c1;have g1:=HT2.out.r.fz 1;have e1:((a2+1:Nat):Int)=(a2:Int)+1:=by omega
   have hli:(a2:Int)≤100000:=by have:=HA4.out;have:=HLS.out;omega
   have HR4:=HT2.out.r.set1 (a2+1);rw [e1]at HR4;have HT4:=Zh (HT2.out.to HBL.out HSB.out HR4 ((KeepT.refl (fun j=>j=b) w6).setCell (p:=⟨b,1,none⟩) (.inl rfl) (.int .i64 ((a2:Int)+1))) (fun _ h=>h));clear e1 HR4;go_upto_region 11 with fail;clear q1 g1 HT2 hli;generalize w6.setCell _ _=w7 at *;have HDG:=Zh (refDigits w7 HT4.out.r HA4.out HLS.out);go_wp2_with fail;refine HDG.out.mono ?_;rintro e w8 ⟨a4,⟨k,is,rfl,hd8⟩,ha4,ha5,hr8,hk8⟩;have HB8:=Zh (show bnd s (a1+2)=(m,ok,(if is=true then k else -1),a4) by unfold bnd;rw [HD5.out];simp only;rw [if_pos HI3.out,hd8]);clear hd8;have HT:=Zh (HT4.out.to HBL.out HSB.out hr8 hk8 (fun _ h=>h));have HA5:=Zh (show a2≤a4∧a4≤s.length from⟨by omega,ha5⟩);clear hr8 hk8 ha4 ha5 HT4 HDG;cases is <;> (go_wp2_with fail;go_meet;case rel=>exact⟨_,rfl,Zh ⟨a4,HA5.out,HT.out,HB8.out⟩⟩)
  case rest=>
   obtain⟨n,rfl,HX⟩:=hcut;obtain⟨a3,ha3,ht,hbn⟩:=HX.out;have HBN:=Zh hbn;clear hbn;have HT:=Zh ht;have HA6:=Zh (show a1+2≤a3∧a3≤s.length from⟨by have:=HA3.out;omega,ha3.2⟩);have HM6:=Zh (show mn≤a3 by have:=HM.out;have:=HA3.out;omega);have HA7:=Zh (show a≤a3∧a3≤s.length from⟨by have:=HA.out;have:=HA3.out;omega,ha3.2⟩);clear ht ha3 HX;go_upto_region 15 with fail
   go_cut [] from 56 to 89 (fun wx=>Hid (∃bd',Tm w S b s gr rf wx nc kid a3 mn bd'∧(bd'=false→a3+2≤s.length)∧badB s (m,ok,n,a3)=bd'))
   case first=>
    cases ok
    case false=>
     have HBV:=Zh (show badB s (m,false,n,a3)=true by unfold badB;simp);have q5:=HT.out.r.cB;have g5:=HT.out.r.fz 1005;have HTV:=Zh (HT.out.to HBL.out HSB.out (HT.out.r.setB true) ((KeepT.refl (fun j=>j=b) wc).setCell (p:=⟨b,1005,none⟩) (.inl rfl) (.bool true)) (fun _ h=>h));go_wp2_with fail;go_meet
     case rel=>exact Zh ⟨true,HTV.out,(fun h=>by cases h),HBV.out⟩
    have q5:=HT.out.r.cB;have HIS:=Zh (show Calls Tryz.prog 169 #[.pointer (some ⟨b,0,none⟩),.string ⟨#[92,125]⟩] wc fun e w'=>IsE s a3 [92,125] e∧RdAt w' b s a3 gr mn rf false∧KeepT (fun _=>False) wc w' from refIs [92,125] wc HT.out.r HA6.out.2 HLS.out (by decide));go_wp2_with fail;refine HIS.out.mono ?_;rintro e w9 ⟨⟨v,rfl,hv,hib⟩,hr2,hk2⟩;have HI4:=Zh hib;clear hib;have HT2:=Zh (HT.out.to HBL.out HSB.out hr2 hk2 (fun _ h=>h.elim));clear hr2 hk2 HT HIS q5;have HT:=HT2;clear HT2;cases v
    case false=>
     clear hv;have HBV:=Zh (show badB s (m,true,n,a3)=true by unfold badB;simp [HI4.out] <;> omega);have q5:=HT.out.r.cB;have g5:=HT.out.r.fz 1005;have HTV:=Zh (HT.out.to HBL.out HSB.out (HT.out.r.setB true) ((KeepT.refl (fun j=>j=b) w9).setCell (p:=⟨b,1005,none⟩) (.inl rfl) (.bool true)) (fun _ h=>h));go_wp2_with fail;go_meet
     case rel=>exact Zh ⟨true,HTV.out,(fun h=>by cases h),HBV.out⟩
    have HAV:=Zh (show a3+2≤s.length from hv rfl);clear hv;have HTZ:=HT
    by_cases hn0:0≤n
    case pos=>
     by_cases hnm:n < m
     case pos=>
      have HBV:=Zh (show badB s (m,true,n,a3)=true by unfold badB;simp [HI4.out] <;> omega);have q5:=HT.out.r.cB;have g5:=HT.out.r.fz 1005;have HTV:=Zh (HT.out.to HBL.out HSB.out (HT.out.r.setB true) ((KeepT.refl (fun j=>j=b) w9).setCell (p:=⟨b,1005,none⟩) (.inl rfl) (.bool true)) (fun _ h=>h));go_wp2_with fail;go_meet
      case rel=>exact Zh ⟨true,HTV.out,(fun h=>by cases h),HBV.out⟩
     by_cases h255m:255 < m
     case pos=>
      have HBV:=Zh (show badB s (m,true,n,a3)=true by unfold badB;simp [HI4.out] <;> omega);have q5:=HT.out.r.cB;have g5:=HT.out.r.fz 1005;have HTV:=Zh (HT.out.to HBL.out HSB.out (HT.out.r.setB true) ((KeepT.refl (fun j=>j=b) w9).setCell (p:=⟨b,1005,none⟩) (.inl rfl) (.bool true)) (fun _ h=>h));go_wp2_with fail;go_meet
      case rel=>exact Zh ⟨true,HTV.out,(fun h=>by cases h),HBV.out⟩
     by_cases h255n:255 < n
     case pos=>
      have HBV:=Zh (show badB s (m,true,n,a3)=true by unfold badB;simp [HI4.out] <;> omega);have q5:=HT.out.r.cB;have g5:=HT.out.r.fz 1005;have HTV:=Zh (HT.out.to HBL.out HSB.out (HT.out.r.setB true) ((KeepT.refl (fun j=>j=b) w9).setCell (p:=⟨b,1005,none⟩) (.inl rfl) (.bool true)) (fun _ h=>h));go_wp2_with fail;go_meet
      case rel=>exact Zh ⟨true,HTV.out,(fun h=>by cases h),HBV.out⟩
     have e1:decide (n < m)=false:=decide_eq_false hnm;have e2:decide (255 < m)=false:=decide_eq_false h255m;have e3:decide (255 < n)=false:=decide_eq_false h255n;have HBV:=Zh (show badB s (m,true,n,a3)=false by unfold badB;simp [HI4.out] <;> omega);have q5:=HT.out.r.cB;have g5:=HT.out.r.fz 1005;have HTV:=Zh (HT.out.to HBL.out HSB.out (HT.out.r.setB false) ((KeepT.refl (fun j=>j=b) w9).setCell (p:=⟨b,1005,none⟩) (.inl rfl) (.bool false)) (fun _ h=>h));go_wp2_with fail;go_meet
     case rel=>exact Zh ⟨false,HTV.out,(fun _=>HAV.out),HBV.out⟩
    by_cases h255m:255 < m
    case pos=>
     have HBV:=Zh (show badB s (m,true,n,a3)=true by unfold badB;simp [HI4.out] <;> omega);have q5:=HT.out.r.cB;have g5:=HT.out.r.fz 1005;have HTV:=Zh (HT.out.to HBL.out HSB.out (HT.out.r.setB true) ((KeepT.refl (fun j=>j=b) w9).setCell (p:=⟨b,1005,none⟩) (.inl rfl) (.bool true)) (fun _ h=>h));go_wp2_with fail;go_meet
     case rel=>exact Zh ⟨true,HTV.out,(fun h=>by cases h),HBV.out⟩
    have h255n:¬255 < n:=by omega
    have e2:decide (255 < m)=false:=decide_eq_false h255m;have e3:decide (255 < n)=false:=decide_eq_false h255n;have HBV:=Zh (show badB s (m,true,n,a3)=false by unfold badB;simp [HI4.out] <;> omega);have q5:=HT.out.r.cB;have g5:=HT.out.r.fz 1005;have HTV:=Zh (HT.out.to HBL.out HSB.out (HT.out.r.setB false) ((KeepT.refl (fun j=>j=b) w9).setCell (p:=⟨b,1005,none⟩) (.inl rfl) (.bool false)) (fun _ h=>h));go_wp2_with fail;go_meet
    case rel=>exact Zh ⟨false,HTV.out,(fun _=>HAV.out),HBV.out⟩
   case rest=>
    clear HT;obtain⟨bd',ht,hbd,hbb⟩:=hcut.out;have HBB:=Zh (show badB s (bnd s (a1+2))=bd' by rw [HBN.out];exact hbb);have HPL:=Zh (show(bnd s (a1+2)).2.2.2=a3 by rw [HBN.out]);clear hbb;have HT:=Zh ht;have HV:=Zh hbd;have q5:=ht.r.cB;clear ht hbd hcut;cases bd'
    case true=>
     go_wp2_with fail;go_roundw
     case rel=>exact Zh (HT.out.mem HA7.out HM6.out (fun r h=>by
      rcases h with⟨_,rfl⟩ | ⟨h,_⟩
      ·have h9:=Times9.bad a1 mn HI1.out HI2.out HBB.out
       rw [HPL.out]at h9;exact HGO.out _ (.inr ⟨rfl,h9⟩)
      ·cases h))
     case measure=>
      rw [HPO.out,HBD.out,HT.out.r.pos,HT.out.r.bad0];have:=HA6.out;omega
    have HA1:=Zh (show a3+2≤s.length from HV.out rfl);have HPO1:=HPO;clear HM HV;have HM:=HM6;obtain⟨ie,z,hie,hz,hsz1,hby1,hzs⟩:=nod_parts;have HIE:=Zh (show Tryz.prog.info? 193=some ie∧ie.zero=some z∧ie.size=262 from⟨hie,hz,hsz1⟩);clear hie hz hsz1 hby1 hzs;have HN2:=Zh (show NdC ((((Tryz.zeroCells193.setIfInBounds 0 (.int .i64 8)).setIfInBounds 259 (.int .i64 m)).setIfInBounds 260 (.int .i64 n)).setIfInBounds 261 (.slice (some ⟨wc.heap.size,0,none⟩) 1 1)) (.slice (some ⟨wc.heap.size,0,none⟩) 1 1) from(((Zbq.kindAt 8).minAt m).maxAt n).kidsAt _ rfl);have HSX:Hid ((Tryz.prog.info? 193).map (·.size)=some nc.size):=Zh (by rw [HT.out.n.size];exact Zbs)
    go_wp2_with (first
     | (refine wpList_load_row rfl 193 _ (by with_reducible rfl) w.heap.size rfl 193 nc (0,0) _ HT.out.x Tryz.underlying193 rfl HSX.out ?_)
     | (refine Fil.wpList_row_one rfl 141 193 _ rfl nc rfl ie z Tryz.underlying141 HIE.out.1 HIE.out.2.1 (by rw [HT.out.n.size,HIE.out.2.2]) (by rw [HIE.out.2.2];omega) (by rw [HIE.out.2.2];omega) ?_))
    generalize ((((Tryz.zeroCells193.setIfInBounds 0 (.int .i64 8)).setIfInBounds 259 (.int .i64 m)).setIfInBounds 260 (.int .i64 n)).setIfInBounds 261 (.slice (some ⟨wc.heap.size,0,none⟩) 1 1))=nc2 at *;have HSX2:Hid ((Tryz.prog.info? 193).map (·.size)=some nc2.size):=Zh (by rw [HN2.out.size];exact Zbs);have HND:=Zh (Zec nc2 HN2.out.size HN2.out.one 2 (wc.alloc (.cells nc 193)) (HT.out.r.later (Zab wc (.cells nc 193))) (by have:=HA1.out;have:=HLS.out;omega) (by have:=HM.out;have:=HA1.out;have:=HLS.out;omega));refine HND.out.mono ?_;rintro e w5 ⟨rfl,hr5,hk5⟩;have HT5:=Zh (HT.out.node HBL.out HSB.out HSL.out HN2.out hr5 hk5);have HX5:=Zh (HT.out.nodeX HBL.out hk5);have HSS:=Zh (show nc.size=nc2.size by rw [HT.out.n.size,HN2.out.size]);clear hr5 hk5 HND;go_wp2_with (refine wpList_store_row rfl 193 _ _ (by with_reducible rfl) w.heap.size nc2 rfl rfl 193 nc HX5.out HSX2.out HSS.out HN2.out.one ?_);simp only [Act.put];go_roundw
    case rel=>exact Zh (HT5.out.mem ⟨by have:=HA7.out;omega,HA1.out⟩ (by have:=HM.out;omega) (fun r h=>by
     rcases h with⟨h,_⟩ | ⟨_,h⟩
     ·cases h
     ·refine HGO.out r (.inr ⟨rfl,.more _ _ _ HI1.out HI2.out HBB.out ?_⟩)
      rw [HPL.out];exact h))
    case measure=>
     rw [HPO.out,HBD.out,HT5.out.r.pos,HT5.out.r.bad1];have:=HA1.out;have:=HA6.out;omega
end Go.Proofs.YtndjgbehbgcpkaaGreatDoor
