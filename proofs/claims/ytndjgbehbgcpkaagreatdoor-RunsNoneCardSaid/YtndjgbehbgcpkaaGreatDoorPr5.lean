/- The reference's reader of command lines: a row of addresses of its own. -/
import Derived.Test.YtndjgbehbgcpkaaGreatDoorPr3
import Derived.Deep.AppendLies
import Derived.Deep.RegionLaw
import Derived.BigRegion
import Derived.Deep.Cut
import Derived.Deep.CutRange
set_option linter.unusedVariables false
set_option linter.unusedSimpArgs false
set_option maxRecDepth 100000
set_option maxHeartbeats 4000000
namespace Go.Proofs.YtndjgbehbgcpkaaGreatDoor
open Go Go.Proofs Go.RowKit Go.Ink Go.Sort
abbrev Ad:=Int×Int×List UInt8×Int
def adC (x:Ad):List Value:=[.int .i64 x.1,.int .i64 x.2.1,.string ⟨x.2.2.1.toArray⟩,.int .i64 x.2.2.2]
def adsC (l:List Ad):List Value:=l.flatMap adC
theorem adsC_snoc (l:List Ad)(x:Ad):adsC (l++[x])=adsC l++adC x:=by simp [adsC]
def Zaz (w:World)(B:Nat)(v:Value)(l:List Ad):Prop:=w.ownsRow B 33 4 v l.length (adsC l)∧∀x∈l,x.2.2.1.length≤1000000
def Zbh (w:World)(B:Nat)(v:Value)(n:Nat):Prop:=∃xs,w.ownsRow B 4 1 v n xs
section
variable {w w':World}{B:Nat}{v:Value}{l:List Ad}{n:Nat}
theorem Zaz.nil (w:World)(B:Nat):Zaz w B (.slice none 0 0) []:=⟨World.ownsRow_nil _ _ _ _,by simp⟩
theorem Zbh.nil (w:World)(B:Nat):Zbh w B (.slice none 0 0) 0:=⟨[],World.ownsRow_nil _ _ _ _⟩
theorem Zaz.later (h:Zaz w B v l)(hb:Below w.heap.size w w'):Zaz w' B v l:=⟨Zdc h.1 hb,h.2⟩
theorem Zbh.later (h:Zbh w B v n)(hb:Below w.heap.size w w'):Zbh w' B v n:=by
 obtain⟨xs,h⟩:=h;exact⟨xs,Zdc h hb⟩
theorem Zaz.kept {S:Nat→Prop}(h:Zaz w B v l)(hk:KeepT S w w')(hn:∀g,v.ownBlock=some g→¬S g):Zaz w' B v l:=⟨Zda hk h.1 hn,h.2⟩
theorem Zbh.kept {S:Nat→Prop}(h:Zbh w B v n)(hk:KeepT S w w')(hn:∀g,v.ownBlock=some g→¬S g):Zbh w' B v n:=by
 obtain⟨xs,h⟩:=h;exact⟨xs,Zda hk h hn⟩
theorem Zaz.shape (h:Zaz w B v l):∃ao cap,v= .slice ao l.length cap:=by
 rcases h.1.2 with⟨rfl,hn⟩ | ⟨g,cap,cur,rfl,_⟩
 ·rw [hn];exact⟨_,_,rfl⟩
 ·exact⟨_,_,rfl⟩
theorem Zbh.shape (h:Zbh w B v n):∃ao cap,v= .slice ao n cap:=by
 obtain⟨xs,h⟩:=h;rcases h.2 with⟨rfl,rfl⟩ | ⟨g,cap,cur,rfl,_⟩
 ·exact⟨_,_,rfl⟩
 ·exact⟨_,_,rfl⟩
theorem Zaz.kind {g:Nat}(h:Zaz w B v l)(hg:v.ownBlock=some g):B≤g∧∃cs fr,w.heap[g]? =some (.cells cs 33 fr):=by
 rcases h.1.2 with⟨rfl,_⟩ | ⟨g',cap,cur,rfl,hb,hh,_⟩
 ·cases hg
 ·simp only [Value.ownBlock,Option.some.injEq]at hg
  subst hg;exact⟨hb,_,_,hh⟩
theorem Zbh.kind {g:Nat}(h:Zbh w B v n)(hg:v.ownBlock=some g):B≤g∧∃cs fr,w.heap[g]? =some (.cells cs 4 fr):=by
 obtain⟨xs,h⟩:=h;rcases h.2 with⟨rfl,rfl⟩ | ⟨g',cap,cur,rfl,hb,hh,_⟩
 ·cases hg
 ·simp only [Value.ownBlock,Option.some.injEq]at hg
  subst hg;exact⟨hb,_,_,hh⟩
theorem adsC_get {l:List Ad}{k:Nat}{x:Ad}(hk:l[k]? =some x)(j:Nat)(hj:j < 4):(adsC l)[4 * k+j]? =(adC x)[j]?:=by
 induction l generalizing k with
 | nil=>cases hk
 | cons y r ih=>
   have e:adsC (y::r)=adC y++adsC r:=by simp [adsC]
   have hl:(adC y).length=4:=rfl;rw [e];cases k with
   | zero=>
     simp only [List.getElem?_cons_zero,Option.some.injEq]at hk;subst hk;rw [Nat.mul_zero,Nat.zero_add,List.getElem?_append_left (by omega)]
   | succ k=>
     rw [List.getElem?_append_right (by omega),show 4 * (k+1)+j - (adC y).length=4 * k+j by omega];exact ih (by simpa using hk)
theorem Zaz.cell {k:Nat}{x:Ad}(h:Zaz w B v l)(hk:l[k]? =some x):∃g cap,v= .slice (some ⟨g,0,none⟩) l.length cap∧∀j u,(adC x)[j]? =some u→w.cell? ⟨g,4 * k+j,none⟩=some u:=by
 have hkl:=(List.getElem?_eq_some_iff.1 hk).1;rcases h.1.2 with⟨rfl,hn⟩ | ⟨g,cap,cur,rfl,hb,hh,hnc,hcm,hcs,hx⟩
 ·omega
 ·refine⟨g,cap,rfl,fun j u hj=>?_⟩
  have hj4:j < 4:=by have:=(List.getElem?_eq_some_iff.1 hj).1;simpa [adC] using this
  rw [Lib.cell_of_heap hh];have e:=adsC_get hk j hj4;rw [← hx,List.getElem?_take_of_lt (by omega),hj]at e;simpa using e
theorem adr_info:(Tryz.prog.info? 33).map (fun i=>(i.zero,i.size,i.bytes))=some (some (.agg #[.int .i64 0,.int .i64 0,.string ⟨#[]⟩,.int .i64 0]),4,40):=by kernel_rfl
theorem boo_info:(Tryz.prog.info? 4).map (fun i=>(i.zero,i.size,i.bytes))=some (some (.bool false),1,1):=by kernel_rfl
theorem wpList_append_ad {ops:Array Oper}{rest:List Oper}{o:Oper}{a:Act}{Q:Exit→Act→World→Prop}(hgd:o.guard=none)(s x:Operand)
 (ho:o.op= .call { callee:= .builtin .append,args:=#[s,x],argTypes:=#[28,28] })
 (hs:a.eval s=v) (hown:Zaz w B v l) (hB:B≤w.heap.size) (b:Nat) (hx:a.eval x= .slice (some ⟨b,0,none⟩) 1 1) (y:Ad) (T:TypeId) (hb:w.heap[b]? =some (.cells (adC y).toArray T (0,0))) (hy:y.2.2.1.length≤1000000) (hn:l.length≤1000000)
 (h:∀g cap w',Zaz w' B (.slice (some ⟨g,0,none⟩) (l.length+1) cap) (l++[y])→w.grownBy w' v.ownBlock→(v.ownBlock=some g∨g=w.heap.size)→g < w'.heap.size→wpList Tryz.prog ops Q rest (a.put o.dst (.slice (some ⟨g,0,none⟩) (l.length+1) cap)) w'):
 wpList Tryz.prog ops Q (o::rest) a w:=by
 obtain⟨i0,hi,hz0,hz1,hz2⟩:=info_parts adr_info;refine wpList_append_lies w hgd s x 28 ho B 33 i0 _ 4 40 Tryz.underlying28 hi hz0 hz1 hz2 rfl (by decide) v l.length (adsC l) hs hown.1 ⟨b,0,none⟩ 1 1 (adC y) hx rfl ?_ ?_ (by omega) (by unfold maxLen;omega) (by omega) hB _ rfl ?_
 ·exact fun j u hj=>World.news_of_block hb j u (by simpa using hj)
 ·intro u hu
  simp only [adC,List.mem_cons,List.not_mem_nil,or_false]at hu;rcases hu with rfl | rfl | rfl | rfl <;> rfl
 ·intro g cap w' k1 k2 k3 k4
  refine h g cap w' ⟨?_,?_⟩ k2 k3 k4
  ·rw [List.length_append,adsC_snoc];exact k1
  ·intro z hz
   rcases List.mem_append.1 hz with hz | hz
   ·exact hown.2 z hz
   ·obtain rfl:=List.mem_singleton.1 hz
    exact hy
theorem step_append_bo {ops:Array Oper}{o:Oper}{a:Act}{K:Act→World→Prop}{Q:Exit→Act→World→Prop}{E:Prop}(hgd:o.guard=none)(s x:Operand)
 (ho:o.op= .call { callee:= .builtin .append,args:=#[s,x],argTypes:=#[29,29] })
 (hs:a.eval s=v) (hown:Zbh w B v n) (hB:B≤w.heap.size) (b:Nat) (hx:a.eval x= .slice (some ⟨b,0,none⟩) 1 1) (y:Value) (hy:y.oneCell'=true) (T:TypeId) (hb:w.heap[b]? =some (.cells #[y] T (0,0))) (hn:n≤1000000)
 (h:∀g cap w',Zbh w' B (.slice (some ⟨g,0,none⟩) (n+1) cap) (n+1)→w.grownBy w' v.ownBlock→(v.ownBlock=some g∨g=w.heap.size)→g < w'.heap.size→K (a.put o.dst (.slice (some ⟨g,0,none⟩) (n+1) cap)) w'):
 if Region.wanted o (yielded ops a.tmps)=true then Oper.wp Tryz.prog o a w K Q else E:=by
 obtain⟨i0,hi,hz0,hz1,hz2⟩:=info_parts boo_info;obtain⟨xs,hown⟩:=hown;refine step_append_lies w hgd s x 29 ho B 4 i0 _ 1 1 Tryz.underlying29 hi hz0 hz1 hz2 rfl (by decide) v n xs hs hown ⟨b,0,none⟩ 1 1 [y] hx rfl ?_ ?_ (by omega) (by unfold maxLen;omega) (by omega) hB _ rfl ?_
 ·exact fun j u hj=>World.news_of_block hb j u (by simpa using hj)
 ·intro u hu
  obtain rfl:=List.mem_singleton.1 hu;exact hy
 ·intro g cap w' k1 k2 k3 k4
  exact h g cap w' ⟨_,k1⟩ k2 k3 k4
end
open Go Go.Proofs Go.RowKit Go.Ink Go.Sort
def ParE (s:List UInt8)(B:Nat)(e:Ending)(w':World):Prop:=∃(lv:Value) (l:List Ad) (sv:Value) (sn nx:Nat) (er:Int),e= .returned (.tuple #[.agg #[lv,sv],.int .i64 (nx:Int),.int .i64 er])∧Zaz w' B lv l∧Zbh w' B sv sn∧nx≤s.length
def RgAt (w:World)(g:Nat)(lv sv:Value):Prop:=w.heap[g]? =some (.cells #[lv,sv] 31 (0,0))
section
variable {w w':World}{B g:Nat}{lv sv:Value}{l:List Ad}{n:Nat}
theorem RgAt.c0 (h:RgAt w g lv sv):w.cell? ⟨g,0,none⟩=some lv:=by rw [Lib.cell_of_heap h];rfl
theorem RgAt.c1 (h:RgAt w g lv sv):w.cell? ⟨g,1,none⟩=some sv:=by rw [Lib.cell_of_heap h];rfl
theorem RgAt.fz (h:RgAt w g lv sv)(j:Nat):w.frozen? ⟨g,j,none⟩=false:=Lib.frozen_of_heap h j
theorem RgAt.set0 (h:RgAt w g lv sv)(v:Value):RgAt (w.setCell ⟨g,0,none⟩ v) g v sv:=(Zay h _).trans rfl
theorem RgAt.set1 (h:RgAt w g lv sv)(v:Value):RgAt (w.setCell ⟨g,1,none⟩ v) g lv v:=(Zay h _).trans rfl
theorem RgAt.later (h:RgAt w g lv sv)(hb:Below w.heap.size w w'):RgAt w' g lv sv:=(hb.block g (Zaa h)).trans h
theorem RgAt.kept {S:Nat→Prop}(h:RgAt w g lv sv)(hk:KeepT S w w')(hn:¬S g):RgAt w' g lv sv:=(hk.block g (Zaa h) hn).trans h
theorem RgAt.lt (h:RgAt w g lv sv):g < w.heap.size:=Zaa h
theorem Zbv {k:Nat}{cs:Array Value}{T:TypeId}{fr:Nat×Nat}(h:Zaz w B lv l)(hk:w.heap[k]? =some (.cells cs T fr))(hT:T≠33):lv.ownBlock≠some k:=fun e=>by
 obtain⟨_,cs',fr',hh⟩:=h.kind e;rw [hk]at hh;simp only [Option.some.injEq,Obj.cells.injEq]at hh;exact hT hh.2.1
theorem Zcx {k:Nat}{cs:Array Value}{T:TypeId}{fr:Nat×Nat}(h:Zbh w B sv n)(hk:w.heap[k]? =some (.cells cs T fr))(hT:T≠4):sv.ownBlock≠some k:=fun e=>by
 obtain⟨_,cs',fr',hh⟩:=h.kind e;rw [hk]at hh;simp only [Option.some.injEq,Obj.cells.injEq]at hh;exact hT hh.2.1
theorem ads_bos (h:Zaz w B lv l)(h2:Zbh w B sv n):∀k,lv.ownBlock=some k→sv.ownBlock≠some k:=fun k e e2=>by
 obtain⟨_,cs,fr,hh⟩:=h.kind e;exact Zcx h2 hh (by decide) e2
theorem Zdb {row:Option Nat}(hg:w.grownBy w' row):KeepT (fun j=>row=some j) w w':=(KeepT.refl _ _).grown hg (fun _ h=> .inl h)
theorem Zeh {row:Option Nat}(hg:w.grownBy w' row)(hB:B≤w.heap.size)(hr:∀k,row=some k→B≤k):Below B w w':=(Zdb hg).below hB (fun k hk=>hr k hk)
theorem ads_two {k1 z1 k2 z2:Int}(h:w.heap[g]? =some (.cells #[.int .i64 k1,.int .i64 z1,.string ⟨#[]⟩,.int .i64 0,.int .i64 k2,.int .i64 z2,.string ⟨#[]⟩,.int .i64 0] 33 (0,0)))(hB:B≤g):Zaz w B (.slice (some ⟨g,0,none⟩) 2 2) [(k1,z1,[],0),(k2,z2,[],0)]:=
 ⟨⟨rfl,.inr ⟨g,2,_,rfl,hB,h,Nat.le_refl _,by unfold maxLen;omega,rfl,rfl⟩⟩,by simp⟩
theorem bos_one {b:Value}(h:w.heap[g]? =some (.cells #[b] 4 (0,0)))(hB:B≤g):Zbh w B (.slice (some ⟨g,0,none⟩) 1 1) 1:=
 ⟨[b],rfl,.inr ⟨g,1,_,rfl,hB,h,Nat.le_refl _,by unfold maxLen;omega,rfl,rfl⟩⟩
end
def MoreV (s:List UInt8)(m:Nat)(v:Value):Prop:=∃mo:Bool,v= .bool mo∧(mo=true→m < s.length)
theorem MoreV.mk {s:List UInt8}{m:Nat}(mo:Bool)(h:mo=true→m < s.length):MoreV s m (.bool mo):=⟨mo,rfl,h⟩
theorem Zcg (s:List UInt8)(n:Nat):(⟨s.toArray⟩:ByteArray).extract n s.length=⟨(s.drop n).toArray⟩:=by
 apply ByteArray.ext
 simp [ByteArray.extract,ByteArray.copySlice,List.extract_eq_take_drop];exact List.take_of_length_le (by rw [List.length_drop];omega)
theorem refRange (s:List UInt8)(w:World)(B:Nat)(hB:w.heap.size=B)(hs:s.length≤100000):
 Calls Tryz.prog 49 #[.string ⟨s.toArray⟩] w fun e w'=>ParE s B e w'∧Below B w w':=by
 have hsz:=size_mk s;have HBL:=Zh (fun(X:World) (a:Nat) (ha:a≤1000000)=>refBlanks s a X (by omega) ha);have HON:=Zh (fun(X:World) (n:Nat)=>refOne (s.drop n) X (by rw [List.length_drop];omega));have HB0:=Zh (HBL.out (w.alloc (.cells #[.slice none 0 0,.slice none 0 0] 31)) 0 (by omega));have hb0:=Zab w (.cells #[.slice none 0 0,.slice none 0 0] 31);have hz0:=Zae w (.cells #[.slice none 0 0,.slice none 0 0] 31);rw [hB]at hb0 hz0;go_enter Tryz.func49,Tryz.ntmps49;go_wp2_with fail;refine HB0.out.mono ?_;generalize w.alloc (.cells #[.slice none 0 0,.slice none 0 0] 31)=w0 at *;rintro e w1 ⟨⟨m0,rfl,hm1,hm2⟩,rfl⟩;have HW1:=Zh hb0;have HZ1:=Zh (show RgAt w1 B (.slice none 0 0) (.slice none 0 0) from hz0);have hml:m0≤s.length:=by omega
 clear hm1 hm2 hb0 hz0 HB0;have hz1:=HZ1.out;go_upto_region 2 with fail
 by_cases h37:∃c,s[m0]? =some c∧(c.toNat:Int)=37
 case pos=>
  obtain⟨c,hkc,h37⟩:=h37;have hki:(m0:Int) < (s.length:Int):=by have:=(List.getElem?_eq_some_iff.1 hkc).1;omega
  have hlt:m0 < s.length:=(List.getElem?_eq_some_iff.1 hkc).1;have hby:=Zak hkc;have h37b:((c.toNat:Int)==37)=true:=Zt h37;have HM1:=Zh (show m0+1≤s.length from hlt);obtain⟨wA,hwA⟩:∃wA,w1.alloc (.cells #[.int .i64 3,.int .i64 1,.string ⟨#[]⟩,.int .i64 0,.int .i64 2,.int .i64 0,.string ⟨#[]⟩,.int .i64 0] 33)=wA:=⟨_,rfl⟩;have hbA:Below w1.heap.size w1 wA:=hwA▸Zab w1 _;have haA:wA.heap[w1.heap.size]? =some (.cells #[.int .i64 3,.int .i64 1,.string ⟨#[]⟩,.int .i64 0,.int .i64 2,.int .i64 0,.string ⟨#[]⟩,.int .i64 0] 33):=hwA▸Zae w1 _;have hsA:wA.heap.size=w1.heap.size+1:=hwA▸Array.size_push _;obtain⟨wC,hwC⟩:∃wC,wA.alloc (.cells #[.bool false] 4)=wC:=⟨_,rfl⟩;have hbC:Below wA.heap.size wA wC:=hwC▸Zab wA _;have haC:wC.heap[wA.heap.size]? =some (.cells #[.bool false] 4):=hwC▸Zae wA _;rw [hsA]at haC;have HLA:=Zh (ads_two (B:=B) ((hbC.block _ (Zaa haA)).trans haA) (hB▸HW1.out.size));have HSA:=Zh (bos_one (B:=B) haC (Nat.le_succ_of_le (hB▸HW1.out.size)));have HZC:=Zh ((HZ1.out.later hbA).later hbC);have HBC:=Zh ((HW1.out.trans (hbA.mono (hB▸HW1.out.size))).trans (hbC.mono (hB▸(HW1.out.trans (hbA.mono (hB▸HW1.out.size))).size)));have c0:=HZC.out.c0;have f0:=HZC.out.fz 0;have s0:=HZC.out.set0 (.slice (some ⟨w1.heap.size,0,none⟩) 2 2);have c1:=s0.c1;have f1:=s0.fz 1;have HZE:=Zh (s0.set1 (.slice (some ⟨w1.heap.size+1,0,none⟩) 1 1));have HKE:=Zh (((KeepT.refl (fun j=>j=B) wC).setCell (p:=⟨B,0,none⟩) (.inl rfl) (.slice (some ⟨w1.heap.size,0,none⟩) 2 2)).setCell (p:=⟨B,1,none⟩) (.inl rfl) (.slice (some ⟨w1.heap.size+1,0,none⟩) 1 1));have HBw:=Zh (show B < w1.heap.size from HZ1.out.lt);clear s0 hbA haA hbC haC hkc h37 hz1 hlt;go_wp2_with fail;clear c0 c1 f0 f1;generalize (((_:World).setCell ⟨B,0,none⟩ _).setCell _ _)=wE at *;have r0:=HZE.out.c0;have r1:=HZE.out.c1;refine bodyPost_ret (v:= .tuple #[.agg #[.slice (some ⟨w1.heap.size,0,none⟩) 2 2,.slice (some ⟨w1.heap.size+1,0,none⟩) 1 1],.int .i64 ((m0:Int)+1),.int .i64 0]) ?_ rfl ?_
  ·simp [results,Tryz.results49,go_sem,r0,r1]
  have hlw:=HBw.out;exact⟨⟨_,_,_,1,m0+1,0,by simp,HLA.out.kept HKE.out (fun g hg h=>by simp [Value.ownBlock]at hg;omega),HSA.out.kept HKE.out (fun g hg h=>by simp [Value.ownBlock]at hg;omega),HM1.out⟩,HBC.out.trans (HKE.out.below (hB▸HBC.out.size) (fun i hi=>by omega))⟩
 clear hz1
 go_cut [23] from 12 to 24 (fun v wx=>v= .bool false∧Hid (RgAt wx B (.slice none 0 0) (.slice none 0 0)∧Below B w wx))
 case first=>
  by_cases hlt:m0 < s.length
  case pos=>
   obtain⟨c,hkc⟩:∃c,s[m0]? =some c:=⟨_,Zg hlt⟩;have hki:(m0:Int) < (s.length:Int):=by omega
   have hby:=Zak hkc;have h37n:¬(c.toNat:Int)=37:=fun e=>h37 ⟨c,hkc,e⟩;have h37b:((c.toNat:Int)==37)=false:=Zf h37n;clear hkc h37 h37n hlt;go_wp2_with fail;go_meet
   case rel=>exact⟨rfl,Zh ⟨HZ1.out,HW1.out⟩⟩
  have hki:¬(m0:Int) < (s.length:Int):=by omega
  clear h37;go_wp2_with fail;go_meet
  case rel=>exact⟨rfl,Zh ⟨HZ1.out,HW1.out⟩⟩
 case rest=>
  obtain⟨rfl,HC⟩:=hcut;clear h37 hml HZ1 HW1;have hbR:=Zab wc (.cells #[.slice none 0 0,.slice none 0 0] 31);have HRR:=Zh (show RgAt (wc.alloc (.cells #[.slice none 0 0,.slice none 0 0] 31)) wc.heap.size (.slice none 0 0) (.slice none 0 0) from Zae wc _);have HZR:=Zh (HC.out.1.later hbR);have HBR:=Zh (HC.out.2.trans (hbR.mono (hB▸HC.out.2.size)));have hBg:B < wc.heap.size:=HC.out.1.lt;go_upto_region 5 with fail;generalize wc.alloc (.cells #[.slice none 0 0,.slice none 0 0] 31)=wR at *;obtain⟨g,hg⟩:∃g,wc.heap.size=g:=⟨_,rfl⟩;rw [hg]at HRR hBg ⊢;clear hg hbR;go_wp2_with fail
  go_loopw [5,7,8,9,10,11] (fun _ nv _ _ _ _ wr=>∃n:Nat,nv= .int .i64 (n:Int)∧n≤s.length∧Hid (∃lv l sv sn,RgAt wr g lv sv∧Zaz wr B lv l∧Zbh wr B sv sn∧l.length≤n∧sn≤n)∧Hid (RgAt wr B (.slice none 0 0) (.slice none 0 0)∧Below B w wr)) (fun _ nv _ _ _ _ _=>s.length+1 - (intOf nv).toNat)
  case atStart=>exact⟨0,rfl,Nat.zero_le _,Zh ⟨_,[],_,0,HRR.out,Zaz.nil _ _,Zbh.nil _ _,Nat.le_refl _,Nat.le_refl _⟩,Zh ⟨HZR.out,HBR.out⟩⟩
  case round=>
   clear HRR HZR HBR HC;obtain⟨n,rfl,hn,HR,HZ⟩:=hrel;obtain⟨lv,l,sv,sn,hrg,hlo,hso,hll,hsn⟩:=HR.out;have HRG:=Zh hrg;have HLO:=Zh hlo;have HSO:=Zh hso;have HBZ:=Zh (show B≤wr.heap.size from hB▸HZ.out.2.size);have HO1:=Zh (HON.out wr n);have he1:=Zcg s n;have hni:(n:Int)≤(s.length:Int):=by omega
   clear hrg hlo hso HR;go_wp2_with fail;refine HO1.out.mono ?_;rintro e w3 ⟨⟨kd,z,re,ad,to_,er,rfl,hre,hto⟩,hb3⟩;have hto2:n+to_≤s.length:=by rw [List.length_drop]at hto;omega
   have hre2:re.length≤1000000:=by rw [List.length_drop]at hre;omega
   have HRE:=Zh hre2;unfold adV;obtain⟨wA,hwA⟩:∃wA,w3.alloc (.cells #[.int .i64 kd,.int .i64 z,.string ⟨re.toArray⟩,.int .i64 ad] 33)=wA:=⟨_,rfl⟩;have hbA:Below wr.heap.size wr wA:=hwA▸hb3.trans ((Zab w3 _).mono hb3.size);have HAA:=Zh (show AdAt wA w3.heap.size kd z re ad from hwA▸Zae w3 _);have HRA:=Zh (HRG.out.later hbA);have HLA:=Zh (HLO.out.later hbA);have HSA:=Zh (HSO.out.later hbA);have HZA:=Zh (HZ.out.1.later hbA);have HBA:=Zh (HZ.out.2.trans (hbA.mono (hB▸HZ.out.2.size)));have HAB:=Zh (show B≤wA.heap.size from Nat.le_trans HBZ.out hbA.size);clear hto hre hre2 hbA hb3 HO1 he1 hni HRG HLO HSO HZ
   by_cases her:er=0
   case neg=>
    have herb:(er !=0)=true:=bne_iff_ne.2 her;have herq:(er==0)=false:=Zf her;have c0:=HZA.out.c0;have f0:=HZA.out.fz 0;have s0:=HZA.out.set0 (.slice none 0 0);have c1:=s0.c1;have f1:=s0.fz 1;have HZE:=Zh (s0.set1 (.slice none 0 0));have HKE:=Zh (((KeepT.refl (fun j=>j=B) wA).setCell (p:=⟨B,0,none⟩) (.inl rfl) (.slice none 0 0)).setCell (p:=⟨B,1,none⟩) (.inl rfl) (.slice none 0 0));clear s0;go_wp2_with fail;clear c0 c1 f0 f1;generalize (((_:World).setCell ⟨B,0,none⟩ _).setCell _ _)=wE at *;have r0:=HZE.out.c0;have r1:=HZE.out.c1;refine bodyPost_ret (v:= .tuple #[.agg #[.slice none 0 0,.slice none 0 0],.int .i64 0,.int .i64 er]) ?_ rfl ?_
    ·simp [results,Tryz.results49,go_sem,r0,r1]
    exact⟨⟨_,[],_,0,0,er,by simp,Zaz.nil _ _,Zbh.nil _ _,Nat.zero_le _⟩,HBA.out.trans (HKE.out.below HAB.out (fun i hi=>by omega))⟩
   subst her;have HBN:=Zh (HBL.out wA (n+to_) (by omega));rw [show((n+to_:Nat):Int)=(n:Int)+(to_:Int) by omega]at HBN;go_wp2_with fail;refine HBN.out.mono ?_;rintro e w4 ⟨⟨m,rfl,hm1,hm2⟩,rfl⟩;have hml:m≤s.length:=by omega
   have HNM:=Zh (show n≤m by omega);clear hm1 hm2 HBN;go_upto_region 11 with fail
   go_cut [11] from 49 to 65 (fun v wx=>MoreV s m v∧wx=w4)
   case first=>
    by_cases hlt:m < s.length
    case neg=>
     have hki:¬(m:Int) < (s.length:Int):=by omega
     go_wp2_with fail;go_meet
     case rel=>exact⟨.mk false (fun h=>by cases h),rfl⟩
    obtain⟨c,hkc⟩:∃c,s[m]? =some c:=⟨_,Zg hlt⟩;have hki:(m:Int) < (s.length:Int):=by omega
    have hby:=Zak hkc;have HLT:=Zh hlt;clear hkc
    by_cases h44:(c.toNat:Int)=44
    case pos=>
     have h44b:((c.toNat:Int)==44)=true:=Zt h44;clear h44;go_wp2_with fail;go_meet
     case rel=>exact⟨.mk true (fun _=>HLT.out),rfl⟩
    have h44b:((c.toNat:Int)==44)=false:=Zf h44
    by_cases h59:(c.toNat:Int)=59
    case pos=>
     have h59b:((c.toNat:Int)==59)=true:=Zt h59;clear h59;go_wp2_with fail;go_meet
     case rel=>exact⟨.mk true (fun _=>HLT.out),rfl⟩
    have h59b:((c.toNat:Int)==59)=false:=Zf h59;go_wp2_with fail;go_meet
    case rel=>exact⟨.mk false (fun h=>by cases h),rfl⟩
   case rest=>
    obtain⟨⟨mo,rfl,hmo⟩,hw⟩:=hcut;subst hw;have HMO:=Zh hmo;clear hmo hwA;obtain⟨al,cl,hlv⟩:=HLA.out.shape;subst hlv;obtain⟨L,hL⟩:∃L,l.length=L:=⟨_,rfl⟩;rw [hL]at HRA HLA;have hLn:L≤n:=by omega
    have HLL:=Zh hL;clear hL;have q0:=HRA.out.c0;have a0:=HAA.out.c 0 rfl;go_upto_region 12 with fail
    go_cut [76] from 65 to 77 (fun v wx=>IsBo v∧wx=wc)
    case first=>
     cases mo
     case true=>
      go_wp2_with fail;go_meet
      case rel=>exact⟨⟨_,rfl⟩,rfl⟩
     by_cases hl0:0 < L
     case pos=>
      have hl0i:(0:Int) < (L:Int):=by omega
      clear hl0;go_wp2_with fail;go_meet
      case rel=>exact⟨⟨_,rfl⟩,rfl⟩
     have hl0i:¬(0:Int) < (L:Int):=by omega
     by_cases hk0:kd=0
     case pos=>
      have hkb:(kd !=0)=false:=by rw [hk0];rfl
      have hkq:(kd==0)=true:=Zt hk0;clear hk0;go_wp2_with fail;go_meet
      case rel=>exact⟨⟨_,rfl⟩,rfl⟩
     have hkb:(kd !=0)=true:=bne_iff_ne.2 hk0;have hkq:(kd==0)=false:=Zf hk0;go_wp2_with fail;go_meet
     case rel=>exact⟨⟨_,rfl⟩,rfl⟩
    case rest=>
     rename_i wd;obtain⟨⟨b,rfl⟩,hw⟩:=hcut;subst hw;clear q0 a0
     go_upto_if 76 with fail
     go_cut [] from 77 to 83 (fun wx=>Hid (∃lv l',RgAt wx g lv sv∧Zaz wx B lv l'∧l'.length≤n+1)∧Hid (Zbh wx B sv sn∧RgAt wx B (.slice none 0 0) (.slice none 0 0)∧Below B w wx))
     case first=>
      cases b
      case false=>
       go_wp2_with fail;go_meet
       case rel=>exact⟨Zh ⟨_,l,HRA.out,HLA.out,by have:=HLL.out;omega⟩,Zh ⟨HSA.out,HZA.out,HBA.out⟩⟩
      have q0:=HRA.out.c0;have a0:=HAA.out.c 0 rfl;have a1:=HAA.out.c 1 rfl;have a2:=HAA.out.c 2 rfl;have a3:=HAA.out.c 3 rfl;have hbX:=Zab wc (.cells #[.int .i64 kd,.int .i64 z,.string ⟨re.toArray⟩,.int .i64 ad] 33);have HBX:=Zh (show(wc.alloc (.cells #[.int .i64 kd,.int .i64 z,.string ⟨re.toArray⟩,.int .i64 ad] 33)).heap[wc.heap.size]? =some (.cells (adC (kd,z,re,ad)).toArray 33 (0,0)) from Zae wc _);have HLX:=Zh (HLA.out.later hbX);have HRX:=Zh (HRA.out.later hbX);have HSX:=Zh (HSA.out.later hbX);have HZX:=Zh (HZA.out.later hbX);have HWX:=Zh (HBA.out.trans (hbX.mono (hB▸HBA.out.size)));have HIX:=Zh (show B≤(wc.alloc (.cells #[.int .i64 kd,.int .i64 z,.string ⟨re.toArray⟩,.int .i64 ad] 33)).heap.size from Nat.le_trans HAB.out hbX.size);have HNB:=Zh (show l.length≤1000000 by have:=HLL.out;omega);clear hbX
      go_wp2_with (at_builtin;refine wpList_append_ad (B:=B) (l:=l) rfl _ _ rfl rfl HLX.out HIX.out _ rfl (kd,z,re,ad) _ HBX.out HRE.out HNB.out ?_;rintro g1 cap1 w5 ho hgr hat hlt
                   have HO5:=Zh ho;have HK5:=Zh (Zdb hgr);have HR5:=Zh (HRX.out.kept HK5.out (Zbv HLX.out HRX.out (by decide)));have HS5:=Zh (HSX.out.kept HK5.out (fun k hk hk2=>ads_bos HLX.out HSX.out k hk2 hk));have HZ5:=Zh (HZX.out.kept HK5.out (Zbv HLX.out HZX.out (by decide)));have HW5:=Zh (HWX.out.trans (Zeh hgr (hB▸HWX.out.size) (fun k hk=>(HLX.out.kind hk).1)));have q0:=HR5.out.c0;have p0:=HR5.out.fz 0;clear ho hgr hat hlt)
      have HKG:=Zh ((KeepT.refl (fun j=>j=g) w5).setCell (p:=⟨g,0,none⟩) (.inl rfl) (.slice (some ⟨g1,0,none⟩) (l.length+1) cap1));have HOG:=Zh (HO5.out.kept HKG.out (fun k hk e=>Zbv HO5.out HR5.out (by decide) (e▸hk)));have HSG:=Zh (HS5.out.kept HKG.out (fun k hk e=>Zcx HS5.out HR5.out (by decide) (e▸hk)));have HZG:=Zh (HZ5.out.kept HKG.out (Nat.ne_of_lt hBg));have HWG:=Zh (HW5.out.trans (HKG.out.below (hB▸HW5.out.size) (fun k hk=>by omega)));have HRG:=Zh (HR5.out.set0 (.slice (some ⟨g1,0,none⟩) (l.length+1) cap1));go_meet
      case rel=>exact⟨Zh ⟨_,_,HRG.out,HOG.out,by rw [List.length_append,List.length_singleton];have:=HLL.out;omega⟩,Zh ⟨HSG.out,HZG.out,HWG.out⟩⟩
     case rest=>
      obtain⟨H1,H2⟩:=hcut;clear HAA HRA HLA HSA HZA HBA HAB HLL hLn;obtain⟨lv2,l2,hr2,hl2,hn2⟩:=H1.out;have HR2:=Zh hr2;have HL2:=Zh hl2;have HN2:=Zh hn2;have HS2:=Zh H2.out.1;have HZ2:=Zh H2.out.2.1;have HW2:=Zh H2.out.2.2;clear H1 H2 hr2 hl2 hn2;obtain⟨a2,c2,hv2⟩:=HL2.out.shape;subst hv2;obtain⟨L2,hL2⟩:∃L2,l2.length=L2:=⟨_,rfl⟩;rw [hL2]at HR2 HL2;clear hL2;obtain⟨a3,c3,hv3⟩:=HS2.out.shape;subst hv3;cases mo
      case false=>
       have q0:=HR2.out.c0;have q1:=HR2.out.c1;have c0:=HZ2.out.c0;have f0:=HZ2.out.fz 0;have s0:=HZ2.out.set0 (.slice a2 L2 c2);have c1:=s0.c1;have f1:=s0.fz 1;have HZE:=Zh (s0.set1 (.slice a3 sn c3));have HKE:=Zh (((KeepT.refl (fun j=>j=B) wc).setCell (p:=⟨B,0,none⟩) (.inl rfl) (.slice a2 L2 c2)).setCell (p:=⟨B,1,none⟩) (.inl rfl) (.slice a3 sn c3));clear s0;go_wp2_with fail;clear c0 c1 f0 f1 q0 q1;generalize (((_:World).setCell ⟨B,0,none⟩ _).setCell _ _)=wE at *;have r0:=HZE.out.c0;have r1:=HZE.out.c1;refine bodyPost_ret (v:= .tuple #[.agg #[.slice a2 L2 c2,.slice a3 sn c3],.int .i64 ((n:Int)+(to_:Int)),.int .i64 0]) ?_ rfl ?_
       ·simp [results,Tryz.results49,go_sem,r0,r1]
       exact⟨⟨_,l2,_,sn,n+to_,0,by simp,HL2.out.kept HKE.out (fun k hk e=>Zbv HL2.out HZ2.out (by decide) (e▸hk)),HS2.out.kept HKE.out (fun k hk e=>Zcx HS2.out HZ2.out (by decide) (e▸hk)),hto2⟩,HW2.out.trans (HKE.out.below (hB▸HW2.out.size) (fun k hk=>by omega))⟩
      have hlt:=HMO.out rfl;obtain⟨c,hkc⟩:∃c,s[m]? =some c:=⟨_,Zg hlt⟩;have hki:(m:Int) < (s.length:Int):=by omega
      have hby:=Zak hkc;have q1:=HR2.out.c1;have HLT:=Zh hlt;clear hkc hlt;obtain⟨bb,hbb⟩:∃bb:Bool,((c.toNat:Int)==59)=bb:=⟨_,rfl⟩;go_upto_region 16 with fail;have hbX:=Zab wc (.cells #[.bool bb] 4);have HBX:=Zh (fun(W:World) (hW:W.heap=(wc.alloc (.cells #[.bool bb] 4)).heap)=>(show W.heap[wc.heap.size]? =some (.cells #[.bool bb] 4) from by rw [hW];exact Zae wc _));have HSX:=Zh (fun(W:World) (hW:W.heap=(wc.alloc (.cells #[.bool bb] 4)).heap)=>(show Zbh W B (.slice a3 sn c3) sn from by have h:=HS2.out.later hbX;unfold Zbh World.ownsRow at h ⊢;rw [hW];exact h));have HIX:=Zh (fun(W:World) (hW:W.heap=(wc.alloc (.cells #[.bool bb] 4)).heap)=>(show B≤W.heap.size from by rw [hW];exact Nat.le_trans (hB▸HW2.out.size) hbX.size));have HRX:=Zh (fun(W:World) (hW:W.heap=(wc.alloc (.cells #[.bool bb] 4)).heap)=>(show RgAt W g (.slice a2 L2 c2) (.slice a3 sn c3) from by have h:=HR2.out.later hbX;unfold RgAt at h ⊢;rw [hW];exact h));have HZX:=Zh (fun(W:World) (hW:W.heap=(wc.alloc (.cells #[.bool bb] 4)).heap)=>(show RgAt W B (.slice none 0 0) (.slice none 0 0) from by have h:=HZ2.out.later hbX;unfold RgAt at h ⊢;rw [hW];exact h));have HLX:=Zh (fun(W:World) (hW:W.heap=(wc.alloc (.cells #[.bool bb] 4)).heap)=>(show Zaz W B (.slice a2 L2 c2) l2 from by have h:=HL2.out.later hbX;unfold Zaz World.ownsRow at h ⊢;rw [hW];exact h));have HWX:=Zh (HW2.out.trans (hbX.mono (hB▸HW2.out.size)));have HNS:=Zh (show sn≤1000000 by omega);have q1a:=(hbX.cell (p:=⟨g,1,none⟩) (Zbt q1)).trans q1;clear hbX
      go_region_law (refine step_append_bo (B:=B) rfl (.tmp 88) (.tmp 93) rfl (by kernel_rfl) (HSX.out _ rfl) (HIX.out _ rfl) wc.heap.size (by kernel_rfl) (.bool bb) rfl 4 (HBX.out _ rfl) HNS.out ?_;rintro g1 cap1 w5 ho hgr hat hlt;have HO5:=Zh ho;have HK5:=Zh (Zdb hgr);have HR5:=Zh ((HRX.out (wc.alloc (.cells #[.bool bb] 4)).drew rfl).kept HK5.out (Zcx (HSX.out (wc.alloc (.cells #[.bool bb] 4)).drew rfl) (HRX.out (wc.alloc (.cells #[.bool bb] 4)).drew rfl) (by decide)));have HL5:=Zh ((HLX.out (wc.alloc (.cells #[.bool bb] 4)).drew rfl).kept HK5.out (fun k hk hk2=>ads_bos (HLX.out (wc.alloc (.cells #[.bool bb] 4)).drew rfl) (HSX.out (wc.alloc (.cells #[.bool bb] 4)).drew rfl) k hk hk2));have HZ5:=Zh ((HZX.out (wc.alloc (.cells #[.bool bb] 4)).drew rfl).kept HK5.out (Zcx (HSX.out (wc.alloc (.cells #[.bool bb] 4)).drew rfl) (HZX.out (wc.alloc (.cells #[.bool bb] 4)).drew rfl) (by decide)));have HW5:=Zh (HWX.out.drew.trans (Zeh hgr (HIX.out (wc.alloc (.cells #[.bool bb] 4)).drew rfl) (fun k hk=>((HSX.out (wc.alloc (.cells #[.bool bb] 4)).drew rfl).kind hk).1)));have p1:=HR5.out.c1;have p2:=HR5.out.fz 1;clear ho hgr hat hlt)
      all_goals(
       have HKG:=Zh ((KeepT.refl (fun j=>j=g) w5).setCell (p:=⟨g,1,none⟩) (.inl rfl) (.slice (some ⟨g1,0,none⟩) (sn+1) cap1));have HOG:=Zh (HO5.out.kept HKG.out (fun k hk e=>Zcx HO5.out HR5.out (by decide) (e▸hk)));have HLG:=Zh (HL5.out.kept HKG.out (fun k hk e=>Zbv HL5.out HR5.out (by decide) (e▸hk)));have HZG:=Zh (HZ5.out.kept HKG.out (Nat.ne_of_lt hBg));have HWG:=Zh (HW5.out.trans (HKG.out.below (hB▸HW5.out.size) (fun k hk=>by omega)));have HRG:=Zh (HR5.out.set1 (.slice (some ⟨g1,0,none⟩) (sn+1) cap1));have HNE:=Zh (show m+1≤s.length∧l2.length≤m+1∧sn+1≤m+1∧n≤m from by have h1:=HLT.out;have h2:=HN2.out;have h3:=HNM.out;exact⟨h1,by omega,by omega,h3⟩);clear p1 p2 q1 q1a;go_wp2_with fail;go_roundw
       case rel=>exact⟨m+1,by go_num,HNE.out.1,Zh ⟨_,l2,_,sn+1,HRG.out,HLG.out,HOG.out,HNE.out.2.1,HNE.out.2.2.1⟩,Zh ⟨HZG.out,HWG.out⟩⟩
       case measure=>have:=HNE.out;simp [intOf] <;> omega)
end Go.Proofs.YtndjgbehbgcpkaaGreatDoor
