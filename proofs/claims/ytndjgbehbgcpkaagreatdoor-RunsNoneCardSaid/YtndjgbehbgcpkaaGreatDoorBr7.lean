/- The program's reader of patterns: what stands behind a backslash. -/
import Derived.Test.YtndjgbehbgcpkaaGreatDoorBr6
set_option linter.unusedVariables false
set_option linter.unusedSimpArgs false
set_option maxRecDepth 100000
set_option maxHeartbeats 4000000
namespace Go.Proofs.YtndjgbehbgcpkaaGreatDoor
open Go Go.Proofs Go.RowKit Go.Ink Go.Sort
theorem breSlash (b B N:Nat)(HR:RowsTo b B N)(p:Ps)(m:Nat)(w:World)(hp:p.left.length≤N+1)(hm:m+p.left.length≤100000)(hB:B≤w.heap.size)(h:OnR w w b B m p p):
 Calls Tryz.prog 200 #[.pointer (some ⟨b,0,none⟩)] w (PartEb w b B m p.left.length p):=by
 have HH:=Zh h;have HRR:=Zh HR;have HPL:=Zh hp;have HML:=Zh hm;have HMM:=Zh (show m≤1000000 by omega);have HBW:=Zh hB;clear h HR hp hm hB;go_enter Tryz.func200,Tryz.ntmps200;go_upto_region 1 with fail;generalize hwA:w.alloc _=wA;have HZ:=Zh (show wA.heap[w.heap.size]? =some (.cells bndZ 242 (0,0)) from hwA▸Zae _ _);have hbA:Below w.heap.size w wA:=hwA▸Zab w _;have HA:=Zh (HH.out.later hbA);have HSA:=Zh hbA.size;clear hwA hbA;have c0:=HA.out.at_.c0;cases hl:p.left
 case nil=>
  rw [hl]at c0;have HM:=Zh (Zbc false wA);go_wp2_with fail;refine HM.out.mono ?_;rintro e w2 ⟨rfl,⟨h,_⟩ | ⟨_,rfl⟩⟩
  ·cases h
  unfold died;go_wp2_with fail;exact⟨rfl,.inl ⟨rfl,HA.out.keep⟩⟩
 case cons c l=>
 rw [hl]at c0;have HLL:=Zh (show p.left.length=l.length+1 by rw [hl];rfl);have hby:∀h,(⟨(c::l).toArray⟩:ByteArray)[0]'h=c:=mk_at (j:=0) rfl;have hsz:=size_mk (c::l);have he:=Zcb (c::l) 1;rw [show(c::l).drop 1=l from rfl]at he;have hlc:(c::l).length=l.length+1:=rfl;rw [hlc]at hsz he;have hlt:(0:Int) < (l.length:Int)+1:=by omega
 have hle:(1:Int)≤(l.length:Int)+1:=by omega
 have hne:((c::l) !=[])=true:=by rw [bne_iff_ne];exact List.cons_ne_nil _ _
 have hne2:((c::l)==[])=false:=rfl;have HM0:=Zh (Zbc true wA);have c2:=HA.out.at_.c2;obtain⟨ao,cap,hop⟩:=HA.out.own.shape;have c5:=HA.out.at_.c5;rw [hop]at c5;clear hlc;go_wp2_with fail;refine HM0.out.mono ?_;rintro e w1 ⟨rfl,⟨_,rfl⟩ | ⟨h,_⟩⟩
 case inr=>cases h
 clear HM0
 by_cases h40:(c.toNat:Int)=40
 case pos=>
  have f0:=HA.out.at_.fz 0;have HP1:=Zh (HA.out.at_.setN 0 (.string ⟨l.toArray⟩) { p with left:=l } rfl);have HK1:=Zh ((KeepT.refl (fun j=>j=b) w1).setCell (p:=⟨b,0,none⟩) (.inl rfl) (.string ⟨l.toArray⟩));go_upto_region 18 with fail;clear f0 c0 c2 c5;have H1:=Zh (HA.out.own_ HK1.out HP1.out rfl HA.out.gr HA.out.pt);have HZ1:=Zh ((HK1.out.block _ (Zaa HZ.out) (fun e=>Zax HA.out.at_ ⟨_,_,HZ.out⟩ e.symm)).trans HZ.out);generalize w1.setCell _ _=w4 at *;have HGR:=Zh (breGroup b B N HRR.out { p with left:=l } m w4 (by have:=HPL.out;have:=HLL.out;show l.length≤N;omega) (by have:=HML.out;have:=HLL.out;show m+1+l.length≤100000;omega) (Nat.le_trans HBW.out H1.out.lt) H1.out.re);go_wp2_with fail;refine HGR.out.mono ?_;clear HGR;rintro e w5 (⟨rfl,hk⟩ | ⟨nc,x,kid,p6,rfl,hns,hi,hok,htr,hon,hle6⟩)
  ·unfold died
   exact⟨rfl,.inl ⟨rfl,H1.out.died_of hk⟩⟩
  have H6:=Zh (H1.out.trans hon);have HZ6:=Zh ((hon.keep.block _ (Zaa HZ1.out) (fun e=>by
   rcases e with e | e
   ·exact Zax H1.out.at_ ⟨_,_,HZ1.out⟩ e.symm
   ·exact Zcu H1.out.own ⟨_,_,HZ1.out⟩ e)).trans HZ1.out)
  have HNS:=Zh hns;have HNI:=Zh hi;have HN1:=Zh (hi.one hns htr.one);have HOK:=Zh hok;have HTR:=Zh (htr.mono (S':=fun j=>j < w.heap.size∨j=w.heap.size) (fun j _ e=>by have:=Zaa HZ1.out;rcases e with e | e <;> omega));have HLE:=Zh hle6;clear hns hi hok htr hon hle6;go_wp2_with (refine wpList_store_row rfl 242 _ _ (by with_reducible rfl) w.heap.size nc rfl rfl 242 bndZ HZ6.out (Zar HNS.out) (by rw [Zap,HNS.out]) HN1.out ?_);refine bodyPost_ret (v:= .agg nc) (results_cell_row (p:=2) (by kernel_rfl) _ _ w.heap.size 242 nc (0,0) _ rfl (setRow_heap _ _ _ _ _ _ HZ6.out) Tryz.underlying242 rfl (Zar HNS.out)) rfl ?_;exact .inr ⟨nc,x,kid,p6,rfl,HNS.out,HNI.out,HOK.out,HTR.out.keptRow nc,H6.out.row (Zaw nc) (Nat.le_refl _) ⟨_,_,HZ6.out⟩,by have h9:p6.left.length≤l.length:=HLE.out;have h8:=HLL.out;omega⟩
 have h40b:((c.toNat:Int)==40)=false:=Zf h40;clear h40
 by_cases h49:(c.toNat:Int)=49
 case pos=>
  have hnn:IntKind.u8.wrap ((c.toNat:Int) - 48)=1:=by rw [h49];decide
  by_cases hng:1≤p.gr
  case neg=>
   have hngi:¬(1:Int)≤(p.gr:Int):=by omega
   have HM:=Zh (Zbc false w1);clear hng;go_wp2_with fail;refine HM.out.mono ?_;rintro e w2 ⟨rfl,⟨h,_⟩ | ⟨_,rfl⟩⟩
   ·cases h
   unfold died;go_wp2_with fail;exact⟨rfl,.inl ⟨rfl,HA.out.keep⟩⟩
  have hngi:(1:Int)≤(p.gr:Int):=by omega
  have HCN:=Zh (Zcn 1 w1 HA.out.own HMM.out);rw [hop]at HCN;clear hng;go_wp2_with fail;refine HCN.out.mono ?_;rintro e w2 ⟨⟨bc,rfl⟩,rfl⟩;have HM:=Zh (Zbc (!bc) w2);go_wp2_with fail;refine HM.out.mono ?_;rintro e w3 ⟨rfl,⟨_,rfl⟩ | ⟨_,rfl⟩⟩
  case inr=>
   unfold died;go_wp2_with fail;exact⟨rfl,.inl ⟨rfl,HA.out.keep⟩⟩
  have f0:=HA.out.at_.fz 0;have P0:=HA.out.at_.setN 0 (.string ⟨l.toArray⟩) { p with left:=l } rfl;have u4:=P0.c4;have f4:=P0.fz 4;have HP1:=Zh (P0.setN 4 (.bool true) { p with left:=l,rf:=true } rfl);have HK1:=Zh (((KeepT.refl (fun j=>j=b) w3).setCell (p:=⟨b,0,none⟩) (.inl rfl) (.string ⟨l.toArray⟩)).setCell (p:=⟨b,4,none⟩) (.inl rfl) (.bool true));have HNG:=Zh (Zdn 6 1);clear P0 HM HCN;go_upto_region 22 with fail;clear f0 u4 f4 c0 c2 c5;have H1:=Zh (HA.out.own_ HK1.out HP1.out rfl HA.out.gr HA.out.pt);have HZ1:=Zh ((HK1.out.block _ (Zaa HZ.out) (fun e=>Zax HA.out.at_ ⟨_,_,HZ.out⟩ e.symm)).trans HZ.out);generalize (w3.setCell _ _).setCell _ _=w4 at *;have HND:=Zh (Zci { p with left:=l,rf:=true } b _ w4 H1.out.at_ HNG.out.size HNG.out.one H1.out.pt);go_wp2_with fail;refine HND.out.mono ?_;clear HND;generalize ((Tryz.zeroCells242.setIfInBounds 0 (.int .i64 6)).setIfInBounds 258 (.int .i64 ((1:Nat):Int)))=nc at *;rintro e w5 ⟨hk5,rfl | ⟨rfl,hp5,hpt⟩⟩
  ·unfold died
   exact⟨rfl,.inl ⟨rfl,H1.out.keep.trans hk5 (fun i _ e=> .inl e)⟩⟩
  have H5:=Zh (H1.out.own_ hk5 hp5 rfl H1.out.gr hpt);have HZ5:=Zh ((hk5.block _ (Zaa HZ1.out) (fun e=>Zax H1.out.at_ ⟨_,_,HZ1.out⟩ e.symm)).trans HZ1.out);clear hk5 hp5 hpt;go_wp2_with (refine wpList_store_row rfl 242 _ _ (by with_reducible rfl) w.heap.size nc rfl rfl 242 bndZ HZ5.out (Zar HNG.out.size) (by rw [Zap,HNG.out.size]) HNG.out.one ?_);refine bodyPost_ret (v:= .agg nc) (results_cell_row (p:=2) (by kernel_rfl) _ _ w.heap.size 242 nc (0,0) _ rfl (setRow_heap _ _ _ _ _ _ HZ5.out) Tryz.underlying242 rfl (Zar HNG.out.size)) rfl ?_;exact .inr ⟨nc,_,_,_,rfl,HNG.out.size,HNG.out.is,Zcv 6 0 _ 1 (by decide) (by decide) (fun _=>by decide),.nil,H5.out.row (Zaw nc) (Nat.le_refl _) ⟨_,_,HZ5.out⟩,by have h8:=HLL.out;show l.length≤_;omega⟩
 have h49b:((c.toNat:Int)==49)=false:=Zf h49;clear h49
 by_cases h50:(c.toNat:Int)=50
 case pos=>
  have hnn:IntKind.u8.wrap ((c.toNat:Int) - 48)=2:=by rw [h50];decide
  by_cases hng:2≤p.gr
  case neg=>
   have hngi:¬(2:Int)≤(p.gr:Int):=by omega
   have HM:=Zh (Zbc false w1);clear hng;go_wp2_with fail;refine HM.out.mono ?_;rintro e w2 ⟨rfl,⟨h,_⟩ | ⟨_,rfl⟩⟩
   ·cases h
   unfold died;go_wp2_with fail;exact⟨rfl,.inl ⟨rfl,HA.out.keep⟩⟩
  have hngi:(2:Int)≤(p.gr:Int):=by omega
  have HCN:=Zh (Zcn 2 w1 HA.out.own HMM.out);rw [hop]at HCN;clear hng;go_wp2_with fail;refine HCN.out.mono ?_;rintro e w2 ⟨⟨bc,rfl⟩,rfl⟩;have HM:=Zh (Zbc (!bc) w2);go_wp2_with fail;refine HM.out.mono ?_;rintro e w3 ⟨rfl,⟨_,rfl⟩ | ⟨_,rfl⟩⟩
  case inr=>
   unfold died;go_wp2_with fail;exact⟨rfl,.inl ⟨rfl,HA.out.keep⟩⟩
  have f0:=HA.out.at_.fz 0;have P0:=HA.out.at_.setN 0 (.string ⟨l.toArray⟩) { p with left:=l } rfl;have u4:=P0.c4;have f4:=P0.fz 4;have HP1:=Zh (P0.setN 4 (.bool true) { p with left:=l,rf:=true } rfl);have HK1:=Zh (((KeepT.refl (fun j=>j=b) w3).setCell (p:=⟨b,0,none⟩) (.inl rfl) (.string ⟨l.toArray⟩)).setCell (p:=⟨b,4,none⟩) (.inl rfl) (.bool true));have HNG:=Zh (Zdn 6 2);clear P0 HM HCN;go_upto_region 22 with fail;clear f0 u4 f4 c0 c2 c5;have H1:=Zh (HA.out.own_ HK1.out HP1.out rfl HA.out.gr HA.out.pt);have HZ1:=Zh ((HK1.out.block _ (Zaa HZ.out) (fun e=>Zax HA.out.at_ ⟨_,_,HZ.out⟩ e.symm)).trans HZ.out);generalize (w3.setCell _ _).setCell _ _=w4 at *;have HND:=Zh (Zci { p with left:=l,rf:=true } b _ w4 H1.out.at_ HNG.out.size HNG.out.one H1.out.pt);go_wp2_with fail;refine HND.out.mono ?_;clear HND;generalize ((Tryz.zeroCells242.setIfInBounds 0 (.int .i64 6)).setIfInBounds 258 (.int .i64 ((2:Nat):Int)))=nc at *;rintro e w5 ⟨hk5,rfl | ⟨rfl,hp5,hpt⟩⟩
  ·unfold died
   exact⟨rfl,.inl ⟨rfl,H1.out.keep.trans hk5 (fun i _ e=> .inl e)⟩⟩
  have H5:=Zh (H1.out.own_ hk5 hp5 rfl H1.out.gr hpt);have HZ5:=Zh ((hk5.block _ (Zaa HZ1.out) (fun e=>Zax H1.out.at_ ⟨_,_,HZ1.out⟩ e.symm)).trans HZ1.out);clear hk5 hp5 hpt;go_wp2_with (refine wpList_store_row rfl 242 _ _ (by with_reducible rfl) w.heap.size nc rfl rfl 242 bndZ HZ5.out (Zar HNG.out.size) (by rw [Zap,HNG.out.size]) HNG.out.one ?_);refine bodyPost_ret (v:= .agg nc) (results_cell_row (p:=2) (by kernel_rfl) _ _ w.heap.size 242 nc (0,0) _ rfl (setRow_heap _ _ _ _ _ _ HZ5.out) Tryz.underlying242 rfl (Zar HNG.out.size)) rfl ?_;exact .inr ⟨nc,_,_,_,rfl,HNG.out.size,HNG.out.is,Zcv 6 0 _ 2 (by decide) (by decide) (fun _=>by decide),.nil,H5.out.row (Zaw nc) (Nat.le_refl _) ⟨_,_,HZ5.out⟩,by have h8:=HLL.out;show l.length≤_;omega⟩
 have h50b:((c.toNat:Int)==50)=false:=Zf h50;clear h50
 by_cases h51:(c.toNat:Int)=51
 case pos=>
  have hnn:IntKind.u8.wrap ((c.toNat:Int) - 48)=3:=by rw [h51];decide
  by_cases hng:3≤p.gr
  case neg=>
   have hngi:¬(3:Int)≤(p.gr:Int):=by omega
   have HM:=Zh (Zbc false w1);clear hng;go_wp2_with fail;refine HM.out.mono ?_;rintro e w2 ⟨rfl,⟨h,_⟩ | ⟨_,rfl⟩⟩
   ·cases h
   unfold died;go_wp2_with fail;exact⟨rfl,.inl ⟨rfl,HA.out.keep⟩⟩
  have hngi:(3:Int)≤(p.gr:Int):=by omega
  have HCN:=Zh (Zcn 3 w1 HA.out.own HMM.out);rw [hop]at HCN;clear hng;go_wp2_with fail;refine HCN.out.mono ?_;rintro e w2 ⟨⟨bc,rfl⟩,rfl⟩;have HM:=Zh (Zbc (!bc) w2);go_wp2_with fail;refine HM.out.mono ?_;rintro e w3 ⟨rfl,⟨_,rfl⟩ | ⟨_,rfl⟩⟩
  case inr=>
   unfold died;go_wp2_with fail;exact⟨rfl,.inl ⟨rfl,HA.out.keep⟩⟩
  have f0:=HA.out.at_.fz 0;have P0:=HA.out.at_.setN 0 (.string ⟨l.toArray⟩) { p with left:=l } rfl;have u4:=P0.c4;have f4:=P0.fz 4;have HP1:=Zh (P0.setN 4 (.bool true) { p with left:=l,rf:=true } rfl);have HK1:=Zh (((KeepT.refl (fun j=>j=b) w3).setCell (p:=⟨b,0,none⟩) (.inl rfl) (.string ⟨l.toArray⟩)).setCell (p:=⟨b,4,none⟩) (.inl rfl) (.bool true));have HNG:=Zh (Zdn 6 3);clear P0 HM HCN;go_upto_region 22 with fail;clear f0 u4 f4 c0 c2 c5;have H1:=Zh (HA.out.own_ HK1.out HP1.out rfl HA.out.gr HA.out.pt);have HZ1:=Zh ((HK1.out.block _ (Zaa HZ.out) (fun e=>Zax HA.out.at_ ⟨_,_,HZ.out⟩ e.symm)).trans HZ.out);generalize (w3.setCell _ _).setCell _ _=w4 at *;have HND:=Zh (Zci { p with left:=l,rf:=true } b _ w4 H1.out.at_ HNG.out.size HNG.out.one H1.out.pt);go_wp2_with fail;refine HND.out.mono ?_;clear HND;generalize ((Tryz.zeroCells242.setIfInBounds 0 (.int .i64 6)).setIfInBounds 258 (.int .i64 ((3:Nat):Int)))=nc at *;rintro e w5 ⟨hk5,rfl | ⟨rfl,hp5,hpt⟩⟩
  ·unfold died
   exact⟨rfl,.inl ⟨rfl,H1.out.keep.trans hk5 (fun i _ e=> .inl e)⟩⟩
  have H5:=Zh (H1.out.own_ hk5 hp5 rfl H1.out.gr hpt);have HZ5:=Zh ((hk5.block _ (Zaa HZ1.out) (fun e=>Zax H1.out.at_ ⟨_,_,HZ1.out⟩ e.symm)).trans HZ1.out);clear hk5 hp5 hpt;go_wp2_with (refine wpList_store_row rfl 242 _ _ (by with_reducible rfl) w.heap.size nc rfl rfl 242 bndZ HZ5.out (Zar HNG.out.size) (by rw [Zap,HNG.out.size]) HNG.out.one ?_);refine bodyPost_ret (v:= .agg nc) (results_cell_row (p:=2) (by kernel_rfl) _ _ w.heap.size 242 nc (0,0) _ rfl (setRow_heap _ _ _ _ _ _ HZ5.out) Tryz.underlying242 rfl (Zar HNG.out.size)) rfl ?_;exact .inr ⟨nc,_,_,_,rfl,HNG.out.size,HNG.out.is,Zcv 6 0 _ 3 (by decide) (by decide) (fun _=>by decide),.nil,H5.out.row (Zaw nc) (Nat.le_refl _) ⟨_,_,HZ5.out⟩,by have h8:=HLL.out;show l.length≤_;omega⟩
 have h51b:((c.toNat:Int)==51)=false:=Zf h51;clear h51
 by_cases h52:(c.toNat:Int)=52
 case pos=>
  have hnn:IntKind.u8.wrap ((c.toNat:Int) - 48)=4:=by rw [h52];decide
  by_cases hng:4≤p.gr
  case neg=>
   have hngi:¬(4:Int)≤(p.gr:Int):=by omega
   have HM:=Zh (Zbc false w1);clear hng;go_wp2_with fail;refine HM.out.mono ?_;rintro e w2 ⟨rfl,⟨h,_⟩ | ⟨_,rfl⟩⟩
   ·cases h
   unfold died;go_wp2_with fail;exact⟨rfl,.inl ⟨rfl,HA.out.keep⟩⟩
  have hngi:(4:Int)≤(p.gr:Int):=by omega
  have HCN:=Zh (Zcn 4 w1 HA.out.own HMM.out);rw [hop]at HCN;clear hng;go_wp2_with fail;refine HCN.out.mono ?_;rintro e w2 ⟨⟨bc,rfl⟩,rfl⟩;have HM:=Zh (Zbc (!bc) w2);go_wp2_with fail;refine HM.out.mono ?_;rintro e w3 ⟨rfl,⟨_,rfl⟩ | ⟨_,rfl⟩⟩
  case inr=>
   unfold died;go_wp2_with fail;exact⟨rfl,.inl ⟨rfl,HA.out.keep⟩⟩
  have f0:=HA.out.at_.fz 0;have P0:=HA.out.at_.setN 0 (.string ⟨l.toArray⟩) { p with left:=l } rfl;have u4:=P0.c4;have f4:=P0.fz 4;have HP1:=Zh (P0.setN 4 (.bool true) { p with left:=l,rf:=true } rfl);have HK1:=Zh (((KeepT.refl (fun j=>j=b) w3).setCell (p:=⟨b,0,none⟩) (.inl rfl) (.string ⟨l.toArray⟩)).setCell (p:=⟨b,4,none⟩) (.inl rfl) (.bool true));have HNG:=Zh (Zdn 6 4);clear P0 HM HCN;go_upto_region 22 with fail;clear f0 u4 f4 c0 c2 c5;have H1:=Zh (HA.out.own_ HK1.out HP1.out rfl HA.out.gr HA.out.pt);have HZ1:=Zh ((HK1.out.block _ (Zaa HZ.out) (fun e=>Zax HA.out.at_ ⟨_,_,HZ.out⟩ e.symm)).trans HZ.out);generalize (w3.setCell _ _).setCell _ _=w4 at *;have HND:=Zh (Zci { p with left:=l,rf:=true } b _ w4 H1.out.at_ HNG.out.size HNG.out.one H1.out.pt);go_wp2_with fail;refine HND.out.mono ?_;clear HND;generalize ((Tryz.zeroCells242.setIfInBounds 0 (.int .i64 6)).setIfInBounds 258 (.int .i64 ((4:Nat):Int)))=nc at *;rintro e w5 ⟨hk5,rfl | ⟨rfl,hp5,hpt⟩⟩
  ·unfold died
   exact⟨rfl,.inl ⟨rfl,H1.out.keep.trans hk5 (fun i _ e=> .inl e)⟩⟩
  have H5:=Zh (H1.out.own_ hk5 hp5 rfl H1.out.gr hpt);have HZ5:=Zh ((hk5.block _ (Zaa HZ1.out) (fun e=>Zax H1.out.at_ ⟨_,_,HZ1.out⟩ e.symm)).trans HZ1.out);clear hk5 hp5 hpt;go_wp2_with (refine wpList_store_row rfl 242 _ _ (by with_reducible rfl) w.heap.size nc rfl rfl 242 bndZ HZ5.out (Zar HNG.out.size) (by rw [Zap,HNG.out.size]) HNG.out.one ?_);refine bodyPost_ret (v:= .agg nc) (results_cell_row (p:=2) (by kernel_rfl) _ _ w.heap.size 242 nc (0,0) _ rfl (setRow_heap _ _ _ _ _ _ HZ5.out) Tryz.underlying242 rfl (Zar HNG.out.size)) rfl ?_;exact .inr ⟨nc,_,_,_,rfl,HNG.out.size,HNG.out.is,Zcv 6 0 _ 4 (by decide) (by decide) (fun _=>by decide),.nil,H5.out.row (Zaw nc) (Nat.le_refl _) ⟨_,_,HZ5.out⟩,by have h8:=HLL.out;show l.length≤_;omega⟩
 have h52b:((c.toNat:Int)==52)=false:=Zf h52;clear h52
 by_cases h53:(c.toNat:Int)=53
 case pos=>
  have hnn:IntKind.u8.wrap ((c.toNat:Int) - 48)=5:=by rw [h53];decide
  by_cases hng:5≤p.gr
  case neg=>
   have hngi:¬(5:Int)≤(p.gr:Int):=by omega
   have HM:=Zh (Zbc false w1);clear hng;go_wp2_with fail;refine HM.out.mono ?_;rintro e w2 ⟨rfl,⟨h,_⟩ | ⟨_,rfl⟩⟩
   ·cases h
   unfold died;go_wp2_with fail;exact⟨rfl,.inl ⟨rfl,HA.out.keep⟩⟩
  have hngi:(5:Int)≤(p.gr:Int):=by omega
  have HCN:=Zh (Zcn 5 w1 HA.out.own HMM.out);rw [hop]at HCN;clear hng;go_wp2_with fail;refine HCN.out.mono ?_;rintro e w2 ⟨⟨bc,rfl⟩,rfl⟩;have HM:=Zh (Zbc (!bc) w2);go_wp2_with fail;refine HM.out.mono ?_;rintro e w3 ⟨rfl,⟨_,rfl⟩ | ⟨_,rfl⟩⟩
  case inr=>
   unfold died;go_wp2_with fail;exact⟨rfl,.inl ⟨rfl,HA.out.keep⟩⟩
  have f0:=HA.out.at_.fz 0;have P0:=HA.out.at_.setN 0 (.string ⟨l.toArray⟩) { p with left:=l } rfl;have u4:=P0.c4;have f4:=P0.fz 4;have HP1:=Zh (P0.setN 4 (.bool true) { p with left:=l,rf:=true } rfl);have HK1:=Zh (((KeepT.refl (fun j=>j=b) w3).setCell (p:=⟨b,0,none⟩) (.inl rfl) (.string ⟨l.toArray⟩)).setCell (p:=⟨b,4,none⟩) (.inl rfl) (.bool true));have HNG:=Zh (Zdn 6 5);clear P0 HM HCN;go_upto_region 22 with fail;clear f0 u4 f4 c0 c2 c5;have H1:=Zh (HA.out.own_ HK1.out HP1.out rfl HA.out.gr HA.out.pt);have HZ1:=Zh ((HK1.out.block _ (Zaa HZ.out) (fun e=>Zax HA.out.at_ ⟨_,_,HZ.out⟩ e.symm)).trans HZ.out);generalize (w3.setCell _ _).setCell _ _=w4 at *;have HND:=Zh (Zci { p with left:=l,rf:=true } b _ w4 H1.out.at_ HNG.out.size HNG.out.one H1.out.pt);go_wp2_with fail;refine HND.out.mono ?_;clear HND;generalize ((Tryz.zeroCells242.setIfInBounds 0 (.int .i64 6)).setIfInBounds 258 (.int .i64 ((5:Nat):Int)))=nc at *;rintro e w5 ⟨hk5,rfl | ⟨rfl,hp5,hpt⟩⟩
  ·unfold died
   exact⟨rfl,.inl ⟨rfl,H1.out.keep.trans hk5 (fun i _ e=> .inl e)⟩⟩
  have H5:=Zh (H1.out.own_ hk5 hp5 rfl H1.out.gr hpt);have HZ5:=Zh ((hk5.block _ (Zaa HZ1.out) (fun e=>Zax H1.out.at_ ⟨_,_,HZ1.out⟩ e.symm)).trans HZ1.out);clear hk5 hp5 hpt;go_wp2_with (refine wpList_store_row rfl 242 _ _ (by with_reducible rfl) w.heap.size nc rfl rfl 242 bndZ HZ5.out (Zar HNG.out.size) (by rw [Zap,HNG.out.size]) HNG.out.one ?_);refine bodyPost_ret (v:= .agg nc) (results_cell_row (p:=2) (by kernel_rfl) _ _ w.heap.size 242 nc (0,0) _ rfl (setRow_heap _ _ _ _ _ _ HZ5.out) Tryz.underlying242 rfl (Zar HNG.out.size)) rfl ?_;exact .inr ⟨nc,_,_,_,rfl,HNG.out.size,HNG.out.is,Zcv 6 0 _ 5 (by decide) (by decide) (fun _=>by decide),.nil,H5.out.row (Zaw nc) (Nat.le_refl _) ⟨_,_,HZ5.out⟩,by have h8:=HLL.out;show l.length≤_;omega⟩
 have h53b:((c.toNat:Int)==53)=false:=Zf h53;clear h53
 by_cases h54:(c.toNat:Int)=54
 case pos=>
  have hnn:IntKind.u8.wrap ((c.toNat:Int) - 48)=6:=by rw [h54];decide
  by_cases hng:6≤p.gr
  case neg=>
   have hngi:¬(6:Int)≤(p.gr:Int):=by omega
   have HM:=Zh (Zbc false w1);clear hng;go_wp2_with fail;refine HM.out.mono ?_;rintro e w2 ⟨rfl,⟨h,_⟩ | ⟨_,rfl⟩⟩
   ·cases h
   unfold died;go_wp2_with fail;exact⟨rfl,.inl ⟨rfl,HA.out.keep⟩⟩
  have hngi:(6:Int)≤(p.gr:Int):=by omega
  have HCN:=Zh (Zcn 6 w1 HA.out.own HMM.out);rw [hop]at HCN;clear hng;go_wp2_with fail;refine HCN.out.mono ?_;rintro e w2 ⟨⟨bc,rfl⟩,rfl⟩;have HM:=Zh (Zbc (!bc) w2);go_wp2_with fail;refine HM.out.mono ?_;rintro e w3 ⟨rfl,⟨_,rfl⟩ | ⟨_,rfl⟩⟩
  case inr=>
   unfold died;go_wp2_with fail;exact⟨rfl,.inl ⟨rfl,HA.out.keep⟩⟩
  have f0:=HA.out.at_.fz 0;have P0:=HA.out.at_.setN 0 (.string ⟨l.toArray⟩) { p with left:=l } rfl;have u4:=P0.c4;have f4:=P0.fz 4;have HP1:=Zh (P0.setN 4 (.bool true) { p with left:=l,rf:=true } rfl);have HK1:=Zh (((KeepT.refl (fun j=>j=b) w3).setCell (p:=⟨b,0,none⟩) (.inl rfl) (.string ⟨l.toArray⟩)).setCell (p:=⟨b,4,none⟩) (.inl rfl) (.bool true));have HNG:=Zh (Zdn 6 6);clear P0 HM HCN;go_upto_region 22 with fail;clear f0 u4 f4 c0 c2 c5;have H1:=Zh (HA.out.own_ HK1.out HP1.out rfl HA.out.gr HA.out.pt);have HZ1:=Zh ((HK1.out.block _ (Zaa HZ.out) (fun e=>Zax HA.out.at_ ⟨_,_,HZ.out⟩ e.symm)).trans HZ.out);generalize (w3.setCell _ _).setCell _ _=w4 at *;have HND:=Zh (Zci { p with left:=l,rf:=true } b _ w4 H1.out.at_ HNG.out.size HNG.out.one H1.out.pt);go_wp2_with fail;refine HND.out.mono ?_;clear HND;generalize ((Tryz.zeroCells242.setIfInBounds 0 (.int .i64 6)).setIfInBounds 258 (.int .i64 ((6:Nat):Int)))=nc at *;rintro e w5 ⟨hk5,rfl | ⟨rfl,hp5,hpt⟩⟩
  ·unfold died
   exact⟨rfl,.inl ⟨rfl,H1.out.keep.trans hk5 (fun i _ e=> .inl e)⟩⟩
  have H5:=Zh (H1.out.own_ hk5 hp5 rfl H1.out.gr hpt);have HZ5:=Zh ((hk5.block _ (Zaa HZ1.out) (fun e=>Zax H1.out.at_ ⟨_,_,HZ1.out⟩ e.symm)).trans HZ1.out);clear hk5 hp5 hpt;go_wp2_with (refine wpList_store_row rfl 242 _ _ (by with_reducible rfl) w.heap.size nc rfl rfl 242 bndZ HZ5.out (Zar HNG.out.size) (by rw [Zap,HNG.out.size]) HNG.out.one ?_);refine bodyPost_ret (v:= .agg nc) (results_cell_row (p:=2) (by kernel_rfl) _ _ w.heap.size 242 nc (0,0) _ rfl (setRow_heap _ _ _ _ _ _ HZ5.out) Tryz.underlying242 rfl (Zar HNG.out.size)) rfl ?_;exact .inr ⟨nc,_,_,_,rfl,HNG.out.size,HNG.out.is,Zcv 6 0 _ 6 (by decide) (by decide) (fun _=>by decide),.nil,H5.out.row (Zaw nc) (Nat.le_refl _) ⟨_,_,HZ5.out⟩,by have h8:=HLL.out;show l.length≤_;omega⟩
 have h54b:((c.toNat:Int)==54)=false:=Zf h54;clear h54
 by_cases h55:(c.toNat:Int)=55
 case pos=>
  have hnn:IntKind.u8.wrap ((c.toNat:Int) - 48)=7:=by rw [h55];decide
  by_cases hng:7≤p.gr
  case neg=>
   have hngi:¬(7:Int)≤(p.gr:Int):=by omega
   have HM:=Zh (Zbc false w1);clear hng;go_wp2_with fail;refine HM.out.mono ?_;rintro e w2 ⟨rfl,⟨h,_⟩ | ⟨_,rfl⟩⟩
   ·cases h
   unfold died;go_wp2_with fail;exact⟨rfl,.inl ⟨rfl,HA.out.keep⟩⟩
  have hngi:(7:Int)≤(p.gr:Int):=by omega
  have HCN:=Zh (Zcn 7 w1 HA.out.own HMM.out);rw [hop]at HCN;clear hng;go_wp2_with fail;refine HCN.out.mono ?_;rintro e w2 ⟨⟨bc,rfl⟩,rfl⟩;have HM:=Zh (Zbc (!bc) w2);go_wp2_with fail;refine HM.out.mono ?_;rintro e w3 ⟨rfl,⟨_,rfl⟩ | ⟨_,rfl⟩⟩
  case inr=>
   unfold died;go_wp2_with fail;exact⟨rfl,.inl ⟨rfl,HA.out.keep⟩⟩
  have f0:=HA.out.at_.fz 0;have P0:=HA.out.at_.setN 0 (.string ⟨l.toArray⟩) { p with left:=l } rfl;have u4:=P0.c4;have f4:=P0.fz 4;have HP1:=Zh (P0.setN 4 (.bool true) { p with left:=l,rf:=true } rfl);have HK1:=Zh (((KeepT.refl (fun j=>j=b) w3).setCell (p:=⟨b,0,none⟩) (.inl rfl) (.string ⟨l.toArray⟩)).setCell (p:=⟨b,4,none⟩) (.inl rfl) (.bool true));have HNG:=Zh (Zdn 6 7);clear P0 HM HCN;go_upto_region 22 with fail;clear f0 u4 f4 c0 c2 c5;have H1:=Zh (HA.out.own_ HK1.out HP1.out rfl HA.out.gr HA.out.pt);have HZ1:=Zh ((HK1.out.block _ (Zaa HZ.out) (fun e=>Zax HA.out.at_ ⟨_,_,HZ.out⟩ e.symm)).trans HZ.out);generalize (w3.setCell _ _).setCell _ _=w4 at *;have HND:=Zh (Zci { p with left:=l,rf:=true } b _ w4 H1.out.at_ HNG.out.size HNG.out.one H1.out.pt);go_wp2_with fail;refine HND.out.mono ?_;clear HND;generalize ((Tryz.zeroCells242.setIfInBounds 0 (.int .i64 6)).setIfInBounds 258 (.int .i64 ((7:Nat):Int)))=nc at *;rintro e w5 ⟨hk5,rfl | ⟨rfl,hp5,hpt⟩⟩
  ·unfold died
   exact⟨rfl,.inl ⟨rfl,H1.out.keep.trans hk5 (fun i _ e=> .inl e)⟩⟩
  have H5:=Zh (H1.out.own_ hk5 hp5 rfl H1.out.gr hpt);have HZ5:=Zh ((hk5.block _ (Zaa HZ1.out) (fun e=>Zax H1.out.at_ ⟨_,_,HZ1.out⟩ e.symm)).trans HZ1.out);clear hk5 hp5 hpt;go_wp2_with (refine wpList_store_row rfl 242 _ _ (by with_reducible rfl) w.heap.size nc rfl rfl 242 bndZ HZ5.out (Zar HNG.out.size) (by rw [Zap,HNG.out.size]) HNG.out.one ?_);refine bodyPost_ret (v:= .agg nc) (results_cell_row (p:=2) (by kernel_rfl) _ _ w.heap.size 242 nc (0,0) _ rfl (setRow_heap _ _ _ _ _ _ HZ5.out) Tryz.underlying242 rfl (Zar HNG.out.size)) rfl ?_;exact .inr ⟨nc,_,_,_,rfl,HNG.out.size,HNG.out.is,Zcv 6 0 _ 7 (by decide) (by decide) (fun _=>by decide),.nil,H5.out.row (Zaw nc) (Nat.le_refl _) ⟨_,_,HZ5.out⟩,by have h8:=HLL.out;show l.length≤_;omega⟩
 have h55b:((c.toNat:Int)==55)=false:=Zf h55;clear h55
 by_cases h56:(c.toNat:Int)=56
 case pos=>
  have hnn:IntKind.u8.wrap ((c.toNat:Int) - 48)=8:=by rw [h56];decide
  by_cases hng:8≤p.gr
  case neg=>
   have hngi:¬(8:Int)≤(p.gr:Int):=by omega
   have HM:=Zh (Zbc false w1);clear hng;go_wp2_with fail;refine HM.out.mono ?_;rintro e w2 ⟨rfl,⟨h,_⟩ | ⟨_,rfl⟩⟩
   ·cases h
   unfold died;go_wp2_with fail;exact⟨rfl,.inl ⟨rfl,HA.out.keep⟩⟩
  have hngi:(8:Int)≤(p.gr:Int):=by omega
  have HCN:=Zh (Zcn 8 w1 HA.out.own HMM.out);rw [hop]at HCN;clear hng;go_wp2_with fail;refine HCN.out.mono ?_;rintro e w2 ⟨⟨bc,rfl⟩,rfl⟩;have HM:=Zh (Zbc (!bc) w2);go_wp2_with fail;refine HM.out.mono ?_;rintro e w3 ⟨rfl,⟨_,rfl⟩ | ⟨_,rfl⟩⟩
  case inr=>
   unfold died;go_wp2_with fail;exact⟨rfl,.inl ⟨rfl,HA.out.keep⟩⟩
  have f0:=HA.out.at_.fz 0;have P0:=HA.out.at_.setN 0 (.string ⟨l.toArray⟩) { p with left:=l } rfl;have u4:=P0.c4;have f4:=P0.fz 4;have HP1:=Zh (P0.setN 4 (.bool true) { p with left:=l,rf:=true } rfl);have HK1:=Zh (((KeepT.refl (fun j=>j=b) w3).setCell (p:=⟨b,0,none⟩) (.inl rfl) (.string ⟨l.toArray⟩)).setCell (p:=⟨b,4,none⟩) (.inl rfl) (.bool true));have HNG:=Zh (Zdn 6 8);clear P0 HM HCN;go_upto_region 22 with fail;clear f0 u4 f4 c0 c2 c5;have H1:=Zh (HA.out.own_ HK1.out HP1.out rfl HA.out.gr HA.out.pt);have HZ1:=Zh ((HK1.out.block _ (Zaa HZ.out) (fun e=>Zax HA.out.at_ ⟨_,_,HZ.out⟩ e.symm)).trans HZ.out);generalize (w3.setCell _ _).setCell _ _=w4 at *;have HND:=Zh (Zci { p with left:=l,rf:=true } b _ w4 H1.out.at_ HNG.out.size HNG.out.one H1.out.pt);go_wp2_with fail;refine HND.out.mono ?_;clear HND;generalize ((Tryz.zeroCells242.setIfInBounds 0 (.int .i64 6)).setIfInBounds 258 (.int .i64 ((8:Nat):Int)))=nc at *;rintro e w5 ⟨hk5,rfl | ⟨rfl,hp5,hpt⟩⟩
  ·unfold died
   exact⟨rfl,.inl ⟨rfl,H1.out.keep.trans hk5 (fun i _ e=> .inl e)⟩⟩
  have H5:=Zh (H1.out.own_ hk5 hp5 rfl H1.out.gr hpt);have HZ5:=Zh ((hk5.block _ (Zaa HZ1.out) (fun e=>Zax H1.out.at_ ⟨_,_,HZ1.out⟩ e.symm)).trans HZ1.out);clear hk5 hp5 hpt;go_wp2_with (refine wpList_store_row rfl 242 _ _ (by with_reducible rfl) w.heap.size nc rfl rfl 242 bndZ HZ5.out (Zar HNG.out.size) (by rw [Zap,HNG.out.size]) HNG.out.one ?_);refine bodyPost_ret (v:= .agg nc) (results_cell_row (p:=2) (by kernel_rfl) _ _ w.heap.size 242 nc (0,0) _ rfl (setRow_heap _ _ _ _ _ _ HZ5.out) Tryz.underlying242 rfl (Zar HNG.out.size)) rfl ?_;exact .inr ⟨nc,_,_,_,rfl,HNG.out.size,HNG.out.is,Zcv 6 0 _ 8 (by decide) (by decide) (fun _=>by decide),.nil,H5.out.row (Zaw nc) (Nat.le_refl _) ⟨_,_,HZ5.out⟩,by have h8:=HLL.out;show l.length≤_;omega⟩
 have h56b:((c.toNat:Int)==56)=false:=Zf h56;clear h56
 by_cases h57:(c.toNat:Int)=57
 case pos=>
  have hnn:IntKind.u8.wrap ((c.toNat:Int) - 48)=9:=by rw [h57];decide
  by_cases hng:9≤p.gr
  case neg=>
   have hngi:¬(9:Int)≤(p.gr:Int):=by omega
   have HM:=Zh (Zbc false w1);clear hng;go_wp2_with fail;refine HM.out.mono ?_;rintro e w2 ⟨rfl,⟨h,_⟩ | ⟨_,rfl⟩⟩
   ·cases h
   unfold died;go_wp2_with fail;exact⟨rfl,.inl ⟨rfl,HA.out.keep⟩⟩
  have hngi:(9:Int)≤(p.gr:Int):=by omega
  have HCN:=Zh (Zcn 9 w1 HA.out.own HMM.out);rw [hop]at HCN;clear hng;go_wp2_with fail;refine HCN.out.mono ?_;rintro e w2 ⟨⟨bc,rfl⟩,rfl⟩;have HM:=Zh (Zbc (!bc) w2);go_wp2_with fail;refine HM.out.mono ?_;rintro e w3 ⟨rfl,⟨_,rfl⟩ | ⟨_,rfl⟩⟩
  case inr=>
   unfold died;go_wp2_with fail;exact⟨rfl,.inl ⟨rfl,HA.out.keep⟩⟩
  have f0:=HA.out.at_.fz 0;have P0:=HA.out.at_.setN 0 (.string ⟨l.toArray⟩) { p with left:=l } rfl;have u4:=P0.c4;have f4:=P0.fz 4;have HP1:=Zh (P0.setN 4 (.bool true) { p with left:=l,rf:=true } rfl);have HK1:=Zh (((KeepT.refl (fun j=>j=b) w3).setCell (p:=⟨b,0,none⟩) (.inl rfl) (.string ⟨l.toArray⟩)).setCell (p:=⟨b,4,none⟩) (.inl rfl) (.bool true));have HNG:=Zh (Zdn 6 9);clear P0 HM HCN;go_upto_region 22 with fail;clear f0 u4 f4 c0 c2 c5;have H1:=Zh (HA.out.own_ HK1.out HP1.out rfl HA.out.gr HA.out.pt);have HZ1:=Zh ((HK1.out.block _ (Zaa HZ.out) (fun e=>Zax HA.out.at_ ⟨_,_,HZ.out⟩ e.symm)).trans HZ.out);generalize (w3.setCell _ _).setCell _ _=w4 at *;have HND:=Zh (Zci { p with left:=l,rf:=true } b _ w4 H1.out.at_ HNG.out.size HNG.out.one H1.out.pt);go_wp2_with fail;refine HND.out.mono ?_;clear HND;generalize ((Tryz.zeroCells242.setIfInBounds 0 (.int .i64 6)).setIfInBounds 258 (.int .i64 ((9:Nat):Int)))=nc at *;rintro e w5 ⟨hk5,rfl | ⟨rfl,hp5,hpt⟩⟩
  ·unfold died
   exact⟨rfl,.inl ⟨rfl,H1.out.keep.trans hk5 (fun i _ e=> .inl e)⟩⟩
  have H5:=Zh (H1.out.own_ hk5 hp5 rfl H1.out.gr hpt);have HZ5:=Zh ((hk5.block _ (Zaa HZ1.out) (fun e=>Zax H1.out.at_ ⟨_,_,HZ1.out⟩ e.symm)).trans HZ1.out);clear hk5 hp5 hpt;go_wp2_with (refine wpList_store_row rfl 242 _ _ (by with_reducible rfl) w.heap.size nc rfl rfl 242 bndZ HZ5.out (Zar HNG.out.size) (by rw [Zap,HNG.out.size]) HNG.out.one ?_);refine bodyPost_ret (v:= .agg nc) (results_cell_row (p:=2) (by kernel_rfl) _ _ w.heap.size 242 nc (0,0) _ rfl (setRow_heap _ _ _ _ _ _ HZ5.out) Tryz.underlying242 rfl (Zar HNG.out.size)) rfl ?_;exact .inr ⟨nc,_,_,_,rfl,HNG.out.size,HNG.out.is,Zcv 6 0 _ 9 (by decide) (by decide) (fun _=>by decide),.nil,H5.out.row (Zaw nc) (Nat.le_refl _) ⟨_,_,HZ5.out⟩,by have h8:=HLL.out;show l.length≤_;omega⟩
 have h57b:((c.toNat:Int)==57)=false:=Zf h57;clear h57
 by_cases h123:(c.toNat:Int)=123
 case pos=>
  go_wp2_with fail;exact⟨rfl,.inl ⟨rfl,HA.out.keep⟩⟩
 have h123b:((c.toNat:Int)==123)=false:=Zf h123;clear h123
 by_cases h125:(c.toNat:Int)=125
 case pos=>
  go_wp2_with fail;exact⟨rfl,.inl ⟨rfl,HA.out.keep⟩⟩
 have h125b:((c.toNat:Int)==125)=false:=Zf h125;clear h125
 by_cases h41:(c.toNat:Int)=41
 case pos=>
  go_wp2_with fail;exact⟨rfl,.inl ⟨rfl,HA.out.keep⟩⟩
 have h41b:((c.toNat:Int)==41)=false:=Zf h41;clear h41;have HSF:=Zh (breSelf p c l b B m w1 hl HA.out.re (by have:=HML.out;have:=HLL.out;have:=HPL.out;omega));go_wp2_with fail;refine HSF.out.mono ?_;clear HSF;rintro e w5 (⟨rfl,hk⟩ | ⟨nc,x,kid,p6,rfl,hns,hi,hok,htr,hon,hle6⟩)
 ·unfold died
  exact⟨rfl,.inl ⟨rfl,HA.out.died_of hk⟩⟩
 have H6:=Zh (HA.out.trans hon);have HZ6:=Zh ((hon.keep.block _ (Zaa HZ.out) (fun e=>by
  rcases e with e | e
  ·exact Zax HA.out.at_ ⟨_,_,HZ.out⟩ e.symm
  ·exact Zcu HA.out.own ⟨_,_,HZ.out⟩ e)).trans HZ.out)
 have HNS:=Zh hns;have HNI:=Zh hi;have HN1:=Zh (hi.one hns htr.one);have HOK:=Zh hok;have HTR:=Zh (htr.mono (S':=fun j=>j < w.heap.size∨j=w.heap.size) (fun j _ e=>by have:=Zaa HZ.out;rcases e with e | e <;> omega));have HLE:=Zh hle6;clear hns hi hok htr hon hle6;go_wp2_with (refine wpList_store_row rfl 242 _ _ (by with_reducible rfl) w.heap.size nc rfl rfl 242 bndZ HZ6.out (Zar HNS.out) (by rw [Zap,HNS.out]) HN1.out ?_);refine bodyPost_ret (v:= .agg nc) (results_cell_row (p:=2) (by kernel_rfl) _ _ w.heap.size 242 nc (0,0) _ rfl (setRow_heap _ _ _ _ _ _ HZ6.out) Tryz.underlying242 rfl (Zar HNS.out)) rfl ?_;exact .inr ⟨nc,x,kid,p6,rfl,HNS.out,HNI.out,HOK.out,HTR.out.keptRow nc,H6.out.row (Zaw nc) (Nat.le_refl _) ⟨_,_,HZ6.out⟩,by have h9:=HLE.out;have h8:=HLL.out;omega⟩
end Go.Proofs.YtndjgbehbgcpkaaGreatDoor
