/- The program's reader of patterns: a part. -/
import Derived.Test.YtndjgbehbgcpkaaGreatDoorBr7
set_option linter.unusedVariables false
set_option linter.unusedSimpArgs false
set_option maxRecDepth 100000
set_option maxHeartbeats 4000000
namespace Go.Proofs.YtndjgbehbgcpkaaGreatDoor
open Go Go.Proofs Go.RowKit Go.Ink Go.Sort
def ClsEb (s:List UInt8)(e:Ending):Prop:=∃(cs:Array Value) (f:Nat→Bool) (nx:Nat) (er:Int),e= .returned (.tuple #[.agg cs,.int .i64 (nx:Int),.int .i64 er])∧cs.size=256∧(∀j,j < 256→cs[j]? =some (.bool (f j)))∧(er=0→1≤nx∧nx≤s.length)
def ClsP:Prop:=∀(s:List UInt8) (w:World),s.length≤100000→MaxW w→Calls Tryz.prog 201 #[.string ⟨s.toArray⟩,.int .i64 0] w fun e w'=>ClsEb s e∧Below w.heap.size w w'
theorem set256:(Tryz.prog.info? 148).map (·.size)=some 256:=by kernel_rfl
theorem zs256:Tryz.zeroCells148=(List.replicate 256 (Value.bool false)).toArray:=by kernel_rfl
theorem zs256_size:Tryz.zeroCells148.size=256:=by rw [zs256,List.size_toArray,List.length_replicate]
theorem bools_one {cs:Array Value}{f:Nat→Bool}(hs:cs.size=256)(h:∀j,j < 256→cs[j]? =some (.bool (f j))):cs.all (·.oneCell')=true:=by
 rw [Array.all_eq_true];intro i hi;have hv:=h i (by omega);rw [Array.getElem?_eq_getElem hi]at hv;simp only [Option.some.injEq]at hv;rw [hv]
 rfl
theorem OnR.rowNew {w0 w1:World}{b B m:Nat}{p p1:Ps}(h:OnR w0 w1 b B m p p1)(o:Obj)(cs:Array Value):OnR w0 ((w1.alloc o).setRow w1.heap.size cs) b B m p p1:=by
 have hb:=Zab w1 o;have hk:=Zaw (w:=w1.alloc o) (r:=w1.heap.size) cs;have h2:=h.later hb;refine⟨h2.at_.kept hk (fun e=>by have:=h.at_.lt;omega),h2.own.kept hk (fun g hg e=>?_),h.gr,h.pt,h.opn,h2.keep.trans hk (fun i hi e=>by have:=h.lt;omega),h2.mx.kept hk (fun e=>by have h1:=h.lo;have h3:=h.lt;omega),h.lo⟩;obtain⟨_,cs',fr,hh⟩:=h.own.kind hg;have:=Zaa hh;omega
theorem brePart (HC:ClsP)(b B N:Nat)(HR:RowsTo b B N)(p:Ps)(m:Nat)(w:World)(fs bg:Bool)(c:UInt8)(l:List UInt8)(hl:p.left=c::l)(hp:l.length≤N+1)(hm:m+p.left.length≤100000)(hB:B≤w.heap.size)(h:OnR w w b B m p p):
 Calls Tryz.prog 175 #[.pointer (some ⟨b,0,none⟩),.bool fs,.bool bg] w (PartEb w b B m l.length p):=by
 have HH:=Zh h;have HRR:=Zh HR;have HPL:=Zh hp;have HML:=Zh hm;have HBW:=Zh hB;have HCP:=Zh HC;clear h HR hp hm hB HC;go_enter Tryz.func175,Tryz.ntmps175;go_upto_region 1 with fail;generalize hwA:w.alloc _=wA;have HZ:=Zh (show wA.heap[w.heap.size]? =some (.cells bndZ 242 (0,0)) from hwA▸Zae _ _);have hbA:Below w.heap.size w wA:=hwA▸Zab w _;have HA:=Zh (HH.out.later hbA);clear hwA hbA;have c0:=HA.out.at_.c0;rw [hl]at c0;have HLL:=Zh (show p.left.length=l.length+1 by rw [hl];rfl);have hby:∀h,(⟨(c::l).toArray⟩:ByteArray)[0]'h=c:=mk_at (j:=0) rfl;have hsz:=size_mk (c::l);have he:=Zcb (c::l) 1;rw [show(c::l).drop 1=l from rfl]at he;have hlc:(c::l).length=l.length+1:=rfl;rw [hlc]at hsz he;have hlt:(0:Int) < (l.length:Int)+1:=by omega
 have hle:(1:Int)≤(l.length:Int)+1:=by omega
 clear hlc
 by_cases h92:(c.toNat:Int)=92
 case pos=>
  have f0:=HA.out.at_.fz 0;have HP1:=Zh (HA.out.at_.setN 0 (.string ⟨l.toArray⟩) { p with left:=l } rfl);have HK1:=Zh ((KeepT.refl (fun j=>j=b) wA).setCell (p:=⟨b,0,none⟩) (.inl rfl) (.string ⟨l.toArray⟩));go_upto_region 5 with fail;clear f0 c0;have H1:=Zh (HA.out.own_ HK1.out HP1.out rfl HA.out.gr HA.out.pt);have HZ1:=Zh ((HK1.out.block _ (Zaa HZ.out) (fun e=>Zax HA.out.at_ ⟨_,_,HZ.out⟩ e.symm)).trans HZ.out);generalize wA.setCell _ _=w4 at *;have HGR:=Zh (breSlash b B N HRR.out { p with left:=l } m w4 HPL.out (by have:=HML.out;have:=HLL.out;show m+l.length≤100000;omega) (Nat.le_trans HBW.out H1.out.lt) H1.out.re);go_wp2_with fail;refine HGR.out.mono ?_;clear HGR;rintro e w5 (⟨rfl,hk⟩ | ⟨nc,x,kid,p6,rfl,hns,hi,hok,htr,hon,hle6⟩)
  ·unfold died
   exact⟨rfl,.inl ⟨rfl,H1.out.died_of hk⟩⟩
  have H6:=Zh (H1.out.trans hon);have HZ6:=Zh ((hon.keep.block _ (Zaa HZ1.out) (fun e=>by
   rcases e with e | e
   ·exact Zax H1.out.at_ ⟨_,_,HZ1.out⟩ e.symm
   ·exact Zcu H1.out.own ⟨_,_,HZ1.out⟩ e)).trans HZ1.out)
  have HNS:=Zh hns;have HNI:=Zh hi;have HN1:=Zh (hi.one hns htr.one);have HOK:=Zh hok;have HTR:=Zh (htr.mono (S':=fun j=>j < w.heap.size∨j=w.heap.size) (fun j _ e=>by have:=Zaa HZ1.out;rcases e with e | e <;> omega));have HLE:=Zh hle6;clear hns hi hok htr hon hle6;go_wp2_with (refine wpList_store_row rfl 242 _ _ (by with_reducible rfl) w.heap.size nc rfl rfl 242 bndZ HZ6.out (Zar HNS.out) (by rw [Zap,HNS.out]) HN1.out ?_);refine bodyPost_ret (v:= .agg nc) (results_cell_row (p:=6) (by kernel_rfl) _ _ w.heap.size 242 nc (0,0) _ rfl (setRow_heap _ _ _ _ _ _ HZ6.out) Tryz.underlying242 rfl (Zar HNS.out)) rfl ?_;exact .inr ⟨nc,x,kid,p6,rfl,HNS.out,HNI.out,HOK.out,HTR.out.keptRow nc,H6.out.row (Zaw nc) (Nat.le_refl _) ⟨_,_,HZ6.out⟩,HLE.out⟩
 have h92b:((c.toNat:Int)==92)=false:=Zf h92;clear h92
 by_cases h91:(c.toNat:Int)=91
 case pos=>
  have HCL:=Zh (HCP.out (c::l) wA (by have h1:=HML.out;have h2:=HLL.out;show l.length+1≤100000;omega) HA.out.mx);go_wp2_with fail;refine HCL.out.mono ?_;rintro e w1 ⟨⟨cs,f,nx,er,rfl,hcs,hf,hnx⟩,hb1⟩;have H1:=Zh (HA.out.later hb1);have HZ1:=Zh ((hb1.block _ (Zaa HZ.out)).trans HZ.out);have HCS:=Zh hcs;have HCF:=Zh hf;have HCO:=Zh (bools_one hcs hf);have HNX:=Zh hnx;have hbx:=Zab w1 (.cells Tryz.zeroCells148 148);have HX2:=Zh (show(w1.alloc (.cells Tryz.zeroCells148 148)).heap[w1.heap.size]? =some (.cells Tryz.zeroCells148 148 (0,0)) from Zae w1 _);have HX3:=Zh (show((w1.alloc (.cells Tryz.zeroCells148 148)).setRow w1.heap.size cs).heap[w1.heap.size]? =some (.cells cs 148 (0,0)) from setRow_heap _ _ _ _ _ _ HX2.out);have H2:=Zh (H1.out.rowNew (.cells Tryz.zeroCells148 148) cs);have HZ2:=Zh (show((w1.alloc (.cells Tryz.zeroCells148 148)).setRow w1.heap.size cs).heap[w.heap.size]? =some (.cells bndZ 242 (0,0)) from(setRow_other _ _ _ _ (by have:=Zaa HZ1.out;omega)).trans ((hbx.block _ (Zaa HZ1.out)).trans HZ1.out));clear hcs hf hnx hb1 hbx c0 HCL;go_upto_region 8 with(refine wpList_store_row rfl 148 _ _ (by with_reducible rfl) w1.heap.size cs rfl rfl 148 Tryz.zeroCells148 HX2.out (by rw [HCS.out];exact set256) (by rw [zs256_size,HCS.out]) HCO.out ?_);generalize (w1.alloc (.cells Tryz.zeroCells148 148)).setRow w1.heap.size cs=w2 at *;obtain⟨g8,hg8⟩:∃g8,w1.heap.size=g8:=⟨_,rfl⟩;rw [hg8]at HX3 ⊢;clear HX2 H1 HZ1 hg8
  by_cases her:er=0
  case neg=>
   have herb:(er==0)=false:=Zf her;have HM:=Zh (Zbc false w2);clear her;go_wp2_with fail;refine HM.out.mono ?_;rintro e w3 ⟨rfl,⟨h,_⟩ | ⟨_,rfl⟩⟩
   ·cases h
   unfold died;go_wp2_with fail;exact⟨rfl,.inl ⟨rfl,H2.out.keep⟩⟩
  subst her;have hn1:=(HNX.out rfl).1;have hn2:nx≤l.length+1:=(HNX.out rfl).2;have hni:(nx:Int)≤(l.length:Int)+1:=by omega
  have hex:=Zcb (c::l) nx;rw [show(c::l).length=l.length+1 from rfl]at hex;obtain⟨l2,hl2⟩:∃l2,(c::l).drop nx=l2:=⟨_,rfl⟩;have HL2:=Zh (show l2.length≤l.length by rw [← hl2,List.length_drop];show l.length+1 - nx≤l.length;omega);rw [hl2]at hex;clear hl2 HNX hn1 hn2;have HM:=Zh (Zbc true w2);go_wp2_with fail;refine HM.out.mono ?_;rintro e w3 ⟨rfl,⟨_,rfl⟩ | ⟨h,_⟩⟩
  case inr=>cases h
  clear HM;have c0:=H2.out.at_.c0;rw [hl]at c0;have f0:=H2.out.at_.fz 0;have HP3:=Zh (H2.out.at_.setN 0 (.string ⟨l2.toArray⟩) { p with left:=l2 } rfl);have HK3:=Zh ((KeepT.refl (fun j=>j=b) w3).setCell (p:=⟨b,0,none⟩) (.inl rfl) (.string ⟨l2.toArray⟩));have HX4:=Zh (show(w3.setCell ⟨b,0,none⟩ (.string ⟨l2.toArray⟩)).heap[g8]? =some (.cells cs 148 (0,0)) from(Below.heap_setCell _ _ _ _ (show g8≠b from fun e=>by
   have h1:=H2.out.at_;have h2:=HX3.out;subst e;rw [h1]at h2;simp only [Option.some.injEq,Obj.cells.injEq]at h2;exact absurd h2.2.1 (by decide))).trans HX3.out)
  go_upto_region 10 with fail;clear f0 c0;have H4:=Zh (H2.out.own_ HK3.out HP3.out rfl H2.out.gr H2.out.pt);have HZ4:=Zh ((HK3.out.block _ (Zaa HZ2.out) (fun e=>Zax H2.out.at_ ⟨_,_,HZ2.out⟩ e.symm)).trans HZ2.out);generalize w3.setCell _ _=w4 at *;obtain⟨nc,hnb,hns,hni2⟩:=bnd_set 3 cs f HCS.out HCF.out;have HNB:=Zh hnb;have HNG:=Zh (show NdG nc (.mk 3 0 f 0 0 0 []) (.slice none 0 0) from⟨hns,hni2,hni2.one hns rfl⟩);clear hnb hns hni2;have HND:=Zh (Zci { p with left:=l2 } b nc w4 H4.out.at_ HNG.out.size HNG.out.one H4.out.pt)
  go_wp2_with (first
   | (refine wpList_load_row rfl 148 _ (by with_reducible rfl) g8 rfl 148 cs (0,0) _ HX4.out Tryz.underlying148 rfl (by rw [HCS.out];exact set256) ?_)
   | (refine wpList_buildV rfl 242 _ rfl _ rfl [(0,.int .i64 3),(2,.agg cs)] (by kernel_rfl) nc HNB.out ?_))
  refine HND.out.mono ?_;clear HND;rintro e w5 ⟨hk5,rfl | ⟨rfl,hp5,hpt⟩⟩
  ·unfold died
   exact⟨rfl,.inl ⟨rfl,H4.out.keep.trans hk5 (fun i _ e=> .inl e)⟩⟩
  have H5:=Zh (H4.out.own_ hk5 hp5 rfl H4.out.gr hpt);have HZ5:=Zh ((hk5.block _ (Zaa HZ4.out) (fun e=>Zax H4.out.at_ ⟨_,_,HZ4.out⟩ e.symm)).trans HZ4.out);clear hk5 hp5 hpt;go_wp2_with (refine wpList_store_row rfl 242 _ _ (by with_reducible rfl) w.heap.size nc rfl rfl 242 bndZ HZ5.out (Zar HNG.out.size) (by rw [Zap,HNG.out.size]) HNG.out.one ?_);refine bodyPost_ret (v:= .agg nc) (results_cell_row (p:=6) (by kernel_rfl) _ _ w.heap.size 242 nc (0,0) _ rfl (setRow_heap _ _ _ _ _ _ HZ5.out) Tryz.underlying242 rfl (Zar HNG.out.size)) rfl ?_;exact .inr ⟨nc,_,_,_,rfl,HNG.out.size,HNG.out.is,Zcv 3 0 _ 0 (by decide) (by decide) (fun h=>by omega),.nil,H5.out.row (Zaw nc) (Nat.le_refl _) ⟨_,_,HZ5.out⟩,HL2.out⟩
 have h91b:((c.toNat:Int)==91)=false:=Zf h91;clear h91
 by_cases h46:(c.toNat:Int)=46
 case pos=>
  have f0:=HA.out.at_.fz 0;have HP1:=Zh (HA.out.at_.setN 0 (.string ⟨l.toArray⟩) { p with left:=l } rfl);have HK1:=Zh ((KeepT.refl (fun j=>j=b) wA).setCell (p:=⟨b,0,none⟩) (.inl rfl) (.string ⟨l.toArray⟩));have HNG:=Zh (gset_kind 2);go_upto_region 13 with fail;clear f0 c0;have H1:=Zh (HA.out.own_ HK1.out HP1.out rfl HA.out.gr HA.out.pt);have HZ1:=Zh ((HK1.out.block _ (Zaa HZ.out) (fun e=>Zax HA.out.at_ ⟨_,_,HZ.out⟩ e.symm)).trans HZ.out);generalize wA.setCell _ _=w4 at *;have HND:=Zh (Zci { p with left:=l } b _ w4 H1.out.at_ HNG.out.size HNG.out.one H1.out.pt);go_wp2_with fail;refine HND.out.mono ?_;clear HND;generalize Tryz.zeroCells242.setIfInBounds 0 (.int .i64 2)=nc at *;rintro e w5 ⟨hk5,rfl | ⟨rfl,hp5,hpt⟩⟩
  ·unfold died
   exact⟨rfl,.inl ⟨rfl,H1.out.keep.trans hk5 (fun i _ e=> .inl e)⟩⟩
  have H5:=Zh (H1.out.own_ hk5 hp5 rfl H1.out.gr hpt);have HZ5:=Zh ((hk5.block _ (Zaa HZ1.out) (fun e=>Zax H1.out.at_ ⟨_,_,HZ1.out⟩ e.symm)).trans HZ1.out);clear hk5 hp5 hpt;go_wp2_with (refine wpList_store_row rfl 242 _ _ (by with_reducible rfl) w.heap.size nc rfl rfl 242 bndZ HZ5.out (Zar HNG.out.size) (by rw [Zap,HNG.out.size]) HNG.out.one ?_);refine bodyPost_ret (v:= .agg nc) (results_cell_row (p:=6) (by kernel_rfl) _ _ w.heap.size 242 nc (0,0) _ rfl (setRow_heap _ _ _ _ _ _ HZ5.out) Tryz.underlying242 rfl (Zar HNG.out.size)) rfl ?_;exact .inr ⟨nc,_,_,_,rfl,HNG.out.size,HNG.out.is,Zcv 2 0 _ 0 (by decide) (by decide) (fun h=>by omega),.nil,H5.out.row (Zaw nc) (Nat.le_refl _) ⟨_,_,HZ5.out⟩,Nat.le_refl _⟩
 have h46b:((c.toNat:Int)==46)=false:=Zf h46;clear h46
 by_cases h94:(c.toNat:Int)=94
 case pos=>
  cases fs
  case true=>
   have f0:=HA.out.at_.fz 0;have HP1:=Zh (HA.out.at_.setN 0 (.string ⟨l.toArray⟩) { p with left:=l } rfl);have HK1:=Zh ((KeepT.refl (fun j=>j=b) wA).setCell (p:=⟨b,0,none⟩) (.inl rfl) (.string ⟨l.toArray⟩));have HNG:=Zh (gset_kind 4);go_upto_region 17 with fail;clear f0 c0;have H1:=Zh (HA.out.own_ HK1.out HP1.out rfl HA.out.gr HA.out.pt);have HZ1:=Zh ((HK1.out.block _ (Zaa HZ.out) (fun e=>Zax HA.out.at_ ⟨_,_,HZ.out⟩ e.symm)).trans HZ.out);generalize wA.setCell _ _=w4 at *;have HND:=Zh (Zci { p with left:=l } b _ w4 H1.out.at_ HNG.out.size HNG.out.one H1.out.pt);go_wp2_with fail;refine HND.out.mono ?_;clear HND;generalize Tryz.zeroCells242.setIfInBounds 0 (.int .i64 4)=nc at *;rintro e w5 ⟨hk5,rfl | ⟨rfl,hp5,hpt⟩⟩
   ·unfold died
    exact⟨rfl,.inl ⟨rfl,H1.out.keep.trans hk5 (fun i _ e=> .inl e)⟩⟩
   have H5:=Zh (H1.out.own_ hk5 hp5 rfl H1.out.gr hpt);have HZ5:=Zh ((hk5.block _ (Zaa HZ1.out) (fun e=>Zax H1.out.at_ ⟨_,_,HZ1.out⟩ e.symm)).trans HZ1.out);clear hk5 hp5 hpt;go_wp2_with (refine wpList_store_row rfl 242 _ _ (by with_reducible rfl) w.heap.size nc rfl rfl 242 bndZ HZ5.out (Zar HNG.out.size) (by rw [Zap,HNG.out.size]) HNG.out.one ?_);refine bodyPost_ret (v:= .agg nc) (results_cell_row (p:=6) (by kernel_rfl) _ _ w.heap.size 242 nc (0,0) _ rfl (setRow_heap _ _ _ _ _ _ HZ5.out) Tryz.underlying242 rfl (Zar HNG.out.size)) rfl ?_;exact .inr ⟨nc,_,_,_,rfl,HNG.out.size,HNG.out.is,Zcv 4 0 _ 0 (by decide) (by decide) (fun h=>by omega),.nil,H5.out.row (Zaw nc) (Nat.le_refl _) ⟨_,_,HZ5.out⟩,Nat.le_refl _⟩
  have HSF:=Zh (breSelf p c l b B m wA hl HA.out.re (by have:=HML.out;have:=HLL.out;have:=HPL.out;omega));go_wp2_with fail;refine HSF.out.mono ?_;clear HSF;rintro e w5 (⟨rfl,hk⟩ | ⟨nc,x,kid,p6,rfl,hns,hi,hok,htr,hon,hle6⟩)
  ·unfold died
   exact⟨rfl,.inl ⟨rfl,HA.out.died_of hk⟩⟩
  have H6:=Zh (HA.out.trans hon);have HZ6:=Zh ((hon.keep.block _ (Zaa HZ.out) (fun e=>by
   rcases e with e | e
   ·exact Zax HA.out.at_ ⟨_,_,HZ.out⟩ e.symm
   ·exact Zcu HA.out.own ⟨_,_,HZ.out⟩ e)).trans HZ.out)
  have HNS:=Zh hns;have HNI:=Zh hi;have HN1:=Zh (hi.one hns htr.one);have HOK:=Zh hok;have HTR:=Zh (htr.mono (S':=fun j=>j < w.heap.size∨j=w.heap.size) (fun j _ e=>by have:=Zaa HZ.out;rcases e with e | e <;> omega));have HLE:=Zh hle6;clear hns hi hok htr hon hle6;go_wp2_with (refine wpList_store_row rfl 242 _ _ (by with_reducible rfl) w.heap.size nc rfl rfl 242 bndZ HZ6.out (Zar HNS.out) (by rw [Zap,HNS.out]) HN1.out ?_);refine bodyPost_ret (v:= .agg nc) (results_cell_row (p:=6) (by kernel_rfl) _ _ w.heap.size 242 nc (0,0) _ rfl (setRow_heap _ _ _ _ _ _ HZ6.out) Tryz.underlying242 rfl (Zar HNS.out)) rfl ?_;exact .inr ⟨nc,x,kid,p6,rfl,HNS.out,HNI.out,HOK.out,HTR.out.keptRow nc,H6.out.row (Zaw nc) (Nat.le_refl _) ⟨_,_,HZ6.out⟩,HLE.out⟩
 have h94b:((c.toNat:Int)==94)=false:=Zf h94;clear h94
 by_cases h36:(c.toNat:Int)=36
 case pos=>
  cases hl0:(l==[])
  case true=>
   have f0:=HA.out.at_.fz 0;have HP1:=Zh (HA.out.at_.setN 0 (.string ⟨l.toArray⟩) { p with left:=l } rfl);have HK1:=Zh ((KeepT.refl (fun j=>j=b) wA).setCell (p:=⟨b,0,none⟩) (.inl rfl) (.string ⟨l.toArray⟩));have HNG:=Zh (gset_kind 5);go_upto_region 22 with fail;clear f0 c0;have H1:=Zh (HA.out.own_ HK1.out HP1.out rfl HA.out.gr HA.out.pt);have HZ1:=Zh ((HK1.out.block _ (Zaa HZ.out) (fun e=>Zax HA.out.at_ ⟨_,_,HZ.out⟩ e.symm)).trans HZ.out);generalize wA.setCell _ _=w4 at *;have HND:=Zh (Zci { p with left:=l } b _ w4 H1.out.at_ HNG.out.size HNG.out.one H1.out.pt);go_wp2_with fail;refine HND.out.mono ?_;clear HND;generalize Tryz.zeroCells242.setIfInBounds 0 (.int .i64 5)=nc at *;rintro e w5 ⟨hk5,rfl | ⟨rfl,hp5,hpt⟩⟩
   ·unfold died
    exact⟨rfl,.inl ⟨rfl,H1.out.keep.trans hk5 (fun i _ e=> .inl e)⟩⟩
   have H5:=Zh (H1.out.own_ hk5 hp5 rfl H1.out.gr hpt);have HZ5:=Zh ((hk5.block _ (Zaa HZ1.out) (fun e=>Zax H1.out.at_ ⟨_,_,HZ1.out⟩ e.symm)).trans HZ1.out);clear hk5 hp5 hpt;go_wp2_with (refine wpList_store_row rfl 242 _ _ (by with_reducible rfl) w.heap.size nc rfl rfl 242 bndZ HZ5.out (Zar HNG.out.size) (by rw [Zap,HNG.out.size]) HNG.out.one ?_);refine bodyPost_ret (v:= .agg nc) (results_cell_row (p:=6) (by kernel_rfl) _ _ w.heap.size 242 nc (0,0) _ rfl (setRow_heap _ _ _ _ _ _ HZ5.out) Tryz.underlying242 rfl (Zar HNG.out.size)) rfl ?_;exact .inr ⟨nc,_,_,_,rfl,HNG.out.size,HNG.out.is,Zcv 5 0 _ 0 (by decide) (by decide) (fun h=>by omega),.nil,H5.out.row (Zaw nc) (Nat.le_refl _) ⟨_,_,HZ5.out⟩,Nat.le_refl _⟩
  have HHP:=Zh (strHas l [92,41] wA);cases hv:hasP l [92,41]
  case true=>
   rw [hv]at HHP;clear hv;go_wp2_with fail;refine HHP.out.mono ?_;rintro e w1 ⟨rfl,rfl⟩;clear HHP;have f0:=HA.out.at_.fz 0;have HP1:=Zh (HA.out.at_.setN 0 (.string ⟨l.toArray⟩) { p with left:=l } rfl);have HK1:=Zh ((KeepT.refl (fun j=>j=b) w1).setCell (p:=⟨b,0,none⟩) (.inl rfl) (.string ⟨l.toArray⟩));have HNG:=Zh (gset_kind 5);go_upto_region 22 with fail;clear f0 c0;have H1:=Zh (HA.out.own_ HK1.out HP1.out rfl HA.out.gr HA.out.pt);have HZ1:=Zh ((HK1.out.block _ (Zaa HZ.out) (fun e=>Zax HA.out.at_ ⟨_,_,HZ.out⟩ e.symm)).trans HZ.out);generalize w1.setCell _ _=w4 at *;have HND:=Zh (Zci { p with left:=l } b _ w4 H1.out.at_ HNG.out.size HNG.out.one H1.out.pt);go_wp2_with fail;refine HND.out.mono ?_;clear HND;generalize Tryz.zeroCells242.setIfInBounds 0 (.int .i64 5)=nc at *;rintro e w5 ⟨hk5,rfl | ⟨rfl,hp5,hpt⟩⟩
   ·unfold died
    exact⟨rfl,.inl ⟨rfl,H1.out.keep.trans hk5 (fun i _ e=> .inl e)⟩⟩
   have H5:=Zh (H1.out.own_ hk5 hp5 rfl H1.out.gr hpt);have HZ5:=Zh ((hk5.block _ (Zaa HZ1.out) (fun e=>Zax H1.out.at_ ⟨_,_,HZ1.out⟩ e.symm)).trans HZ1.out);clear hk5 hp5 hpt;go_wp2_with (refine wpList_store_row rfl 242 _ _ (by with_reducible rfl) w.heap.size nc rfl rfl 242 bndZ HZ5.out (Zar HNG.out.size) (by rw [Zap,HNG.out.size]) HNG.out.one ?_);refine bodyPost_ret (v:= .agg nc) (results_cell_row (p:=6) (by kernel_rfl) _ _ w.heap.size 242 nc (0,0) _ rfl (setRow_heap _ _ _ _ _ _ HZ5.out) Tryz.underlying242 rfl (Zar HNG.out.size)) rfl ?_;exact .inr ⟨nc,_,_,_,rfl,HNG.out.size,HNG.out.is,Zcv 5 0 _ 0 (by decide) (by decide) (fun h=>by omega),.nil,H5.out.row (Zaw nc) (Nat.le_refl _) ⟨_,_,HZ5.out⟩,Nat.le_refl _⟩
  rw [hv]at HHP;clear hv;go_wp2_with fail;refine HHP.out.mono ?_;rintro e w1 ⟨rfl,rfl⟩;clear HHP;have HSF:=Zh (breSelf p c l b B m w1 hl HA.out.re (by have:=HML.out;have:=HLL.out;have:=HPL.out;omega));go_wp2_with fail;refine HSF.out.mono ?_;clear HSF;rintro e w5 (⟨rfl,hk⟩ | ⟨nc,x,kid,p6,rfl,hns,hi,hok,htr,hon,hle6⟩)
  ·unfold died
   exact⟨rfl,.inl ⟨rfl,HA.out.died_of hk⟩⟩
  have H6:=Zh (HA.out.trans hon);have HZ6:=Zh ((hon.keep.block _ (Zaa HZ.out) (fun e=>by
   rcases e with e | e
   ·exact Zax HA.out.at_ ⟨_,_,HZ.out⟩ e.symm
   ·exact Zcu HA.out.own ⟨_,_,HZ.out⟩ e)).trans HZ.out)
  have HNS:=Zh hns;have HNI:=Zh hi;have HN1:=Zh (hi.one hns htr.one);have HOK:=Zh hok;have HTR:=Zh (htr.mono (S':=fun j=>j < w.heap.size∨j=w.heap.size) (fun j _ e=>by have:=Zaa HZ.out;rcases e with e | e <;> omega));have HLE:=Zh hle6;clear hns hi hok htr hon hle6;go_wp2_with (refine wpList_store_row rfl 242 _ _ (by with_reducible rfl) w.heap.size nc rfl rfl 242 bndZ HZ6.out (Zar HNS.out) (by rw [Zap,HNS.out]) HN1.out ?_);refine bodyPost_ret (v:= .agg nc) (results_cell_row (p:=6) (by kernel_rfl) _ _ w.heap.size 242 nc (0,0) _ rfl (setRow_heap _ _ _ _ _ _ HZ6.out) Tryz.underlying242 rfl (Zar HNS.out)) rfl ?_;exact .inr ⟨nc,x,kid,p6,rfl,HNS.out,HNI.out,HOK.out,HTR.out.keptRow nc,H6.out.row (Zaw nc) (Nat.le_refl _) ⟨_,_,HZ6.out⟩,HLE.out⟩
 have h36b:((c.toNat:Int)==36)=false:=Zf h36;clear h36
 by_cases h42:(c.toNat:Int)=42
 case pos=>
  have HM:=Zh (Zbc (fs || bg) wA)
  cases fs <;> cases bg <;> (
   go_wp2_with fail;refine HM.out.mono ?_;rintro e w1 ⟨rfl,⟨hq,rfl⟩ | ⟨hq,rfl⟩⟩
   case inr=>
    unfold died;go_wp2_with fail;exact⟨rfl,.inl ⟨rfl,HA.out.keep⟩⟩
   clear HM;have HSF:=Zh (breSelf p c l b B m w1 hl HA.out.re (by have:=HML.out;have:=HLL.out;have:=HPL.out;omega));go_wp2_with fail;refine HSF.out.mono ?_;clear HSF;rintro e w5 (⟨rfl,hk⟩ | ⟨nc,x,kid,p6,rfl,hns,hi,hok,htr,hon,hle6⟩)
   ·unfold died
    exact⟨rfl,.inl ⟨rfl,HA.out.died_of hk⟩⟩
   have H6:=Zh (HA.out.trans hon);have HZ6:=Zh ((hon.keep.block _ (Zaa HZ.out) (fun e=>by
    rcases e with e | e
    ·exact Zax HA.out.at_ ⟨_,_,HZ.out⟩ e.symm
    ·exact Zcu HA.out.own ⟨_,_,HZ.out⟩ e)).trans HZ.out)
   have HNS:=Zh hns;have HNI:=Zh hi;have HN1:=Zh (hi.one hns htr.one);have HOK:=Zh hok;have HTR:=Zh (htr.mono (S':=fun j=>j < w.heap.size∨j=w.heap.size) (fun j _ e=>by have:=Zaa HZ.out;rcases e with e | e <;> omega));have HLE:=Zh hle6;clear hns hi hok htr hon hle6;go_wp2_with (refine wpList_store_row rfl 242 _ _ (by with_reducible rfl) w.heap.size nc rfl rfl 242 bndZ HZ6.out (Zar HNS.out) (by rw [Zap,HNS.out]) HN1.out ?_);refine bodyPost_ret (v:= .agg nc) (results_cell_row (p:=6) (by kernel_rfl) _ _ w.heap.size 242 nc (0,0) _ rfl (setRow_heap _ _ _ _ _ _ HZ6.out) Tryz.underlying242 rfl (Zar HNS.out)) rfl ?_;exact .inr ⟨nc,x,kid,p6,rfl,HNS.out,HNI.out,HOK.out,HTR.out.keptRow nc,H6.out.row (Zaw nc) (Nat.le_refl _) ⟨_,_,HZ6.out⟩,HLE.out⟩)
 have h42b:((c.toNat:Int)==42)=false:=Zf h42;clear h42;have HSF:=Zh (breSelf p c l b B m wA hl HA.out.re (by have:=HML.out;have:=HLL.out;have:=HPL.out;omega));go_wp2_with fail;refine HSF.out.mono ?_;clear HSF;rintro e w5 (⟨rfl,hk⟩ | ⟨nc,x,kid,p6,rfl,hns,hi,hok,htr,hon,hle6⟩)
 ·unfold died
  exact⟨rfl,.inl ⟨rfl,HA.out.died_of hk⟩⟩
 have H6:=Zh (HA.out.trans hon);have HZ6:=Zh ((hon.keep.block _ (Zaa HZ.out) (fun e=>by
  rcases e with e | e
  ·exact Zax HA.out.at_ ⟨_,_,HZ.out⟩ e.symm
  ·exact Zcu HA.out.own ⟨_,_,HZ.out⟩ e)).trans HZ.out)
 have HNS:=Zh hns;have HNI:=Zh hi;have HN1:=Zh (hi.one hns htr.one);have HOK:=Zh hok;have HTR:=Zh (htr.mono (S':=fun j=>j < w.heap.size∨j=w.heap.size) (fun j _ e=>by have:=Zaa HZ.out;rcases e with e | e <;> omega));have HLE:=Zh hle6;clear hns hi hok htr hon hle6;go_wp2_with (refine wpList_store_row rfl 242 _ _ (by with_reducible rfl) w.heap.size nc rfl rfl 242 bndZ HZ6.out (Zar HNS.out) (by rw [Zap,HNS.out]) HN1.out ?_);refine bodyPost_ret (v:= .agg nc) (results_cell_row (p:=6) (by kernel_rfl) _ _ w.heap.size 242 nc (0,0) _ rfl (setRow_heap _ _ _ _ _ _ HZ6.out) Tryz.underlying242 rfl (Zar HNS.out)) rfl ?_;exact .inr ⟨nc,x,kid,p6,rfl,HNS.out,HNI.out,HOK.out,HTR.out.keptRow nc,H6.out.row (Zaw nc) (Nat.le_refl _) ⟨_,_,HZ6.out⟩,HLE.out⟩
open Go Go.Proofs Go.RowKit Go.Ink Go.Sort
structure NdsOwn (w:World) (B:Nat) (v:Value) (L:List (Array Value×Nd×Value)):Prop where
 row:w.ownsRow B 242 262 v L.length (L.flatMap fun x=>x.1.toList)
 ok:∀x∈L,NdG x.1 x.2.1 x.2.2∧NdOk x.2.1∧TreeOf w (fun j=>j < B∨v.ownBlock=some j) x.2.2 x.2.1.kids
section
variable {w w':World}{B:Nat}{v:Value}{L:List (Array Value×Nd×Value)}
theorem NdsOwn.nil (w:World)(B:Nat):NdsOwn w B (.slice none 0 0) []:=⟨World.ownsRow_nil _ _ _ _,by simp⟩
theorem NdsOwn.kept {Z:Nat→Prop}(h:NdsOwn w B v L)(hk:KeepT Z w w')(hz:∀j,Z j→j < B∨∀cs fr,w.heap[j]?≠some (.cells cs 242 fr)):NdsOwn w' B v L:=by
 refine⟨Zda hk h.row (fun b hb e=>?_),fun x hx=>⟨(h.ok x hx).1,(h.ok x hx).2.1,(h.ok x hx).2.2.kept hk (fun j e=>(hz j e).elim (fun h=> .inl (.inl h)) .inr)⟩⟩;rcases h.row.2 with⟨rfl,_⟩ | ⟨g,cap,cur,rfl,hb2,hh,_⟩
 ·cases hb
 ·simp only [Value.ownBlock,Option.some.injEq]at hb
  subst hb;rcases hz g e with h1 | h1
  ·omega
  ·exact h1 _ _ hh
theorem NdsOwn.later (h:NdsOwn w B v L)(hb:Below w.heap.size w w'):NdsOwn w' B v L:=h.kept (KeepT.of_below (S:=fun _=>False) hb) (fun _ h=>h.elim)
theorem NdsOwn.shape (h:NdsOwn w B v L):∃ao cap,v= .slice ao L.length cap:=by
 rcases h.row.2 with⟨rfl,hn⟩ | ⟨g,cap,cur,rfl,_⟩
 ·rw [hn];exact⟨_,_,rfl⟩
 ·exact⟨_,_,rfl⟩
theorem nds_get:∀{L:List (Array Value×Nd×Value)} {k:Nat} {x:Array Value×Nd×Value} (_:∀y∈L,y.1.size=262) (_:L[k]? =some x) (j:Nat) (_:j < 262),(L.flatMap fun x=>x.1.toList)[262 * k+j]? =x.1[j]?
 | [],_,_,_,hk,_,_=>by cases hk
 | y::r,0,x,hs,hk,j,hj=>by
   simp only [List.getElem?_cons_zero,Option.some.injEq]at hk;subst hk;have hl:y.1.toList.length=262:=by simpa using hs y (by simp)
   rw [List.flatMap_cons,List.getElem?_append_left (by omega),Nat.mul_zero,Nat.zero_add];simp
 | y::r,k+1,x,hs,hk,j,hj=>by
   have hl:y.1.toList.length=262:=by simpa using hs y (by simp)
   rw [List.flatMap_cons,List.getElem?_append_right (by omega),show 262 * (k+1)+j - y.1.toList.length=262 * k+j by omega];exact nds_get (fun y hy=>hs y (by simp [hy])) (by simpa using hk) j hj
theorem NdsOwn.sizes (h:NdsOwn w B v L):∀y∈L,y.1.size=262:=fun y hy=>(h.ok y hy).1.size
theorem NdsOwn.tree (h:NdsOwn w B v L):TreeOf w (fun j=>j < B) v (L.map (·.2.1)):=by
 rcases h.row.2 with⟨rfl,hn⟩ | ⟨g,cap,cur,rfl,hb,hh,hnc,hcm,hcs,hx⟩
 ·have:L=[]:=List.length_eq_zero_iff.1 hn
  subst this;exact .nil
 ·refine .row g L.length cap cur _ (fun i=>(L[i]?.getD (#[],nd0,.slice none 0 0)).2.1) (fun i=>(L[i]?.getD (#[],nd0,.slice none 0 0)).2.2) _ (by omega) hh (by omega) (by simp) (fun i hi=>?_) (fun i hi=>?_) (fun i hi=>?_)
  ·rw [List.getElem?_map,Zg hi]
   rfl
  ·have e:=Zg hi
   rw [e];refine((h.ok _ (List.getElem_mem hi)).1.is).move (fun j u hj hu=>?_);have hg:=nds_get h.sizes e j hj;rw [Nat.zero_add]at hu;rw [hu,← hx,List.getElem?_take_of_lt (by omega)]at hg;simpa using hg
  ·have e:=Zg hi
   rw [e];exact(h.ok _ (List.getElem_mem hi)).2.2.mono (fun j _ hj=> .inl hj)
theorem NdsOwn.kindAt {k:Nat}{x:Array Value×Nd×Value}(h:NdsOwn w B v L)(hk:L[k]? =some x):∃g cap,v= .slice (some ⟨g,0,none⟩) L.length cap∧w.cell? ⟨g,k * 262,none⟩=some (.int .i64 x.2.1.k):=by
 rcases h.row.2 with⟨rfl,hn⟩ | ⟨g,cap,cur,rfl,hb,hh,hnc,hcm,hcs,hx⟩
 ·have:=(List.getElem?_eq_some_iff.1 hk).1
  omega
 ·refine⟨g,cap,rfl,?_⟩
  have hlt:=(List.getElem?_eq_some_iff.1 hk).1;have hg:=nds_get h.sizes hk 0 (by omega);have h0:=(h.ok _ (List.mem_of_getElem? hk)).1.is.k;rw [h0,← hx,List.getElem?_take_of_lt (by omega),Nat.add_zero]at hg;rw [Lib.cell_of_heap hh,Nat.mul_comm];simpa using hg
end
theorem wpList_append_node {w:World}{B:Nat}{v:Value}{L:List (Array Value×Nd×Value)}{ops:Array Oper}{rest:List Oper}{o:Oper}{a:Act}{Q:Exit→Act→World→Prop}(hgd:o.guard=none)(s x:Operand)
 (ho:o.op= .call { callee:= .builtin .append,args:=#[s,x],argTypes:=#[209,209] })
 (hs:a.eval s=v) (hown:NdsOwn w B v L) (hB:B≤w.heap.size) (b:Nat) (hx:a.eval x= .slice (some ⟨b,0,none⟩) 1 1) (nc:Array Value) (y:Nd) (kid:Value) (T:TypeId) (hb:w.heap[b]? =some (.cells nc T (0,0))) (hn:NdG nc y kid) (hok:NdOk y) (ht:TreeOf w (fun j=>j < B∨v.ownBlock=some j) kid y.kids) (hl:L.length≤1000000)
 (h:∀g cap w',NdsOwn w' B (.slice (some ⟨g,0,none⟩) (L.length+1) cap) (L++[(nc,y,kid)])→w.grownBy w' v.ownBlock→(v.ownBlock=some g∨g=w.heap.size)→g < w'.heap.size→wpList Tryz.prog ops Q rest (a.put o.dst (.slice (some ⟨g,0,none⟩) (L.length+1) cap)) w'):
 wpList Tryz.prog ops Q (o::rest) a w:=by
 obtain⟨i0,z,hi,hz0,hz1,hz2,hzs⟩:=bnd_parts;refine wpList_append_lies w hgd s x 209 ho B 242 i0 z 262 320 Tryz.underlying209 hi hz0 hz1 hz2 hzs (by decide) v L.length (L.flatMap fun x=>x.1.toList) hs hown.row ⟨b,0,none⟩ 1 1 nc.toList hx (by simpa using hn.size) ?_ ?_ (by omega) (by unfold maxLen;omega) (by omega) hB _ rfl ?_
 ·exact fun j u hj=>World.news_of_block hb j u (by simpa using hj)
 ·intro u hu
  exact Array.all_eq_true_iff_forall_mem.1 hn.one u (by simpa using hu)
 ·intro g cap w' k1 k2 k3 k4
  refine h g cap w' ⟨?_,?_⟩ k2 k3 k4
  ·rw [List.length_append,List.flatMap_append,List.flatMap_singleton]
   exact k1
  ·have hk:=Zcw k2
   have hgo:∀j,j < w.heap.size→(j < B∨j=g∨v.ownBlock=some j)→(j < B∨v.ownBlock=some j):=by
    intro j hj e;rcases e with e | e | e
    ·exact .inl e
    ·subst e
     rcases k3 with k3 | k3
     ·exact .inr k3
     ·omega
    ·exact .inr e
   have step:∀u l,TreeOf w (fun j=>j < B∨v.ownBlock=some j) u l→TreeOf w' (fun j=>j < B∨(Value.slice (some ⟨g,0,none⟩) (L.length+1) cap).ownBlock=some j) u l:=fun u l hy=>
    ((hy.mono (S':=fun j=>j < B∨j=g∨v.ownBlock=some j) hgo).kept hk (fun j e=> .inl (.inr (.inr e)))).mono (fun j _ e=>by
      rcases e with e | e
      ·exact .inl e
      ·simp only [Value.ownBlock,Option.some.injEq]at e
       exact .inr (.inl e.symm))
   intro q hq;rcases List.mem_append.1 hq with hq | hq
   ·exact⟨(hown.ok q hq).1,(hown.ok q hq).2.1,step _ _ (hown.ok q hq).2.2⟩
   ·obtain rfl:=List.mem_singleton.1 hq
    exact⟨hn,hok,step _ _ ht⟩
end Go.Proofs.YtndjgbehbgcpkaaGreatDoor
