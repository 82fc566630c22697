/- The reference's reader of command lines: a letter. -/
import Derived.Test.YtndjgbehbgcpkaaGreatDoorBuild
import Derived.Deep.CutRange
import Derived.Deep.RegionHeld3
import Derived.Test.YtndjgbehbgcpkaaGreatDoorInv
import Derived.Test.YtndjgbehbgcpkaaGreatDoorPrd
set_option linter.unusedVariables false
set_option linter.unusedSimpArgs false
set_option maxRecDepth 100000
set_option maxHeartbeats 4000000
namespace Go.Proofs.YtndjgbehbgcpkaaGreatDoor
open Go Go.Proofs Go.RowKit Go.Ink Go.Sort
theorem refLetter (c:Cm)(hc:CmOk c)(s:List UInt8)(w:World)(hs:s.length≤1000000):
 Calls Tryz.prog 84 #[.agg (cmC c),.string ⟨s.toArray⟩] w fun e w'=>CmdE c e∧Below w.heap.size w w':=by
 have hsz:=size_mk s;have HSU:=Zh (fun(x:Cm) (hx:CmOk x) (t:List UInt8) (X:World) (ht:t.length≤1000000)=>refSuffix x hx t X ht);go_enter Tryz.func84,Tryz.ntmps84;go_upto_region 1 with fail;generalize hwA:(w.alloc _).alloc _=wA;obtain⟨old,HZ,HOS⟩:∃old:Array Value,Hid (wA.heap[w.heap.size+1]? =some (.cells old 35 (0,0)))∧Hid (old.size=15):=⟨cm0,Zh (hwA▸heap_alloc2_new _ _ _),Zh rfl⟩;have HCX:=Zh (show CmAt wA w.heap.size c from hwA▸heap_alloc2_old _ _ _);have HBX:=Zh (show Below w.heap.size w wA from hwA▸(Zab w _).trans ((Zab _ _).mono (Zab w _).size));have HBL:=Zh (refBlanks s 0 wA hs (by omega));have HNX:=Zh (Zbk hc);have HSX:=Zh (show old.size=(cmC c).size from HOS.out);have HOX:=Zh (show Zcf c c from⟨rfl,rfl,hc⟩);clear hwA;go_wp2_with fail;refine HBL.out.mono ?_;rintro e w1 ⟨⟨m,rfl,-,hm⟩,rfl⟩;have hml:m≤s.length:=by omega
 have hmi:(m:Int)≤(s.length:Int):=by omega
 have he1:=Zcg s m;obtain⟨t,ht⟩:∃t,s.drop m=t:=⟨_,rfl⟩;have htl:t.length≤1000000:=by rw [← ht,List.length_drop];omega
 rw [ht]at he1;clear ht hm HBL;have hst:=size_mk t;have q2:w1.cell? ⟨w.heap.size,2,none⟩=some (.int .u8 c.nm):=HCX.out.cel 2 rfl
 by_cases h0:t=[]
 case pos=>
  subst h0
  by_cases h107:c.nm=107
  case pos=>
   have h107b:(c.nm==107)=true:=Zt h107;have h107c:(c.nm !=107)=false:=by rw [h107];rfl
   clear h107
   go_wp2_with (first
    | (refine wpList_load_row rfl 35 _ (by with_reducible rfl) w.heap.size rfl 35 (cmC c) (0,0) _ HCX.out Tryz.underlying35 rfl Zaf ?_)
    | (refine wpList_store_row rfl 35 _ _ (by with_reducible rfl) (w.heap.size+1) (cmC c) rfl rfl 35 old HZ.out Zaf HSX.out HNX.out ?_))
   refine bodyPost_ret (v:= .tuple #[.agg (cmC c),.int .i64 211]) (Zag (p:=4) (q:=5) (by kernel_rfl) _ _ (w.heap.size+1) 35 (cmC c) (0,0) _ _ rfl rfl (setRow_heap _ _ _ _ _ _ HZ.out) Tryz.underlying35 rfl Zaf) rfl ?_;exact⟨⟨_,211,rfl,rfl,rfl,hc⟩,Zah HBX.out (Nat.le_succ _) _⟩
  have h107b:(c.nm==107)=false:=Zf h107;have h107c:(c.nm !=107)=true:=bne_iff_ne.2 h107
  go_wp2_with (first
   | (refine wpList_load_row rfl 35 _ (by with_reducible rfl) w.heap.size rfl 35 (cmC c) (0,0) _ HCX.out Tryz.underlying35 rfl Zaf ?_)
   | (refine wpList_store_row rfl 35 _ _ (by with_reducible rfl) (w.heap.size+1) (cmC c) rfl rfl 35 old HZ.out Zaf HSX.out HNX.out ?_))
  refine bodyPost_ret (v:= .tuple #[.agg (cmC c),.int .i64 0]) (Zag (p:=4) (q:=5) (by kernel_rfl) _ _ (w.heap.size+1) 35 (cmC c) (0,0) _ _ rfl rfl (setRow_heap _ _ _ _ _ _ HZ.out) Tryz.underlying35 rfl Zaf) rfl ?_;exact⟨⟨_,0,rfl,rfl,rfl,hc⟩,Zah HBX.out (Nat.le_succ _) _⟩
 obtain⟨d,hkd⟩:∃d,t[0]? =some d:=⟨_,Zg (List.length_pos_iff.2 h0)⟩;have hby:=Zak hkd;have htp:0 < t.length:=List.length_pos_iff.2 h0;have h0b:(t==[])=false:=Zf h0;have HT0:=Zh h0;clear h0 hkd;go_upto_region 2 with fail
 go_cut [6] from 12 to 24 (fun v wx=>IsBo v∧wx=w1)
 case first=>
  by_cases h97:(97:Int)≤(d.toNat:Int)
  case neg=>
   go_wp2_with fail;go_meet
   case rel=>exact⟨⟨_,rfl⟩,rfl⟩
  by_cases h122:(d.toNat:Int)≤122
  case neg=>
   go_wp2_with fail;go_meet
   case rel=>exact⟨⟨_,rfl⟩,rfl⟩
  go_wp2_with fail;go_meet
  case rel=>exact⟨⟨_,rfl⟩,rfl⟩
 case rest=>
  obtain⟨⟨b1,rfl⟩,hw⟩:=hcut;subst hw;go_upto_region 3 with fail
  go_cut [7] from 24 to 41 (fun v wx=>IsBo v∧wx=wc)
  case first=>
   by_cases h65:(65:Int)≤(d.toNat:Int)
   case neg=>
    go_wp2_with fail;go_meet
    case rel=>exact⟨⟨_,rfl⟩,rfl⟩
   by_cases h90:(d.toNat:Int)≤90
   case neg=>
    go_wp2_with fail;go_meet
    case rel=>exact⟨⟨_,rfl⟩,rfl⟩
   go_wp2_with fail;go_meet
   case rel=>exact⟨⟨_,rfl⟩,rfl⟩
  case rest=>
   obtain⟨⟨b2,rfl⟩,hw⟩:=hcut;subst hw;clear q2;go_upto_region 4 with fail
   go_cut [44] from 41 to 45 (fun v wx=>IsBo v∧wx=wc)
   case first=>
    cases b1 <;> cases b2 <;> (go_wp2_with fail;go_meet;case rel=>exact⟨⟨_,rfl⟩,rfl⟩)
   case rest=>
    obtain⟨⟨b3,rfl⟩,hw⟩:=hcut;subst hw;cases b3
    case false=>
     go_wp2_with (first
      | (refine wpList_load_row rfl 35 _ (by with_reducible rfl) w.heap.size rfl 35 (cmC c) (0,0) _ HCX.out Tryz.underlying35 rfl Zaf ?_)
      | (refine wpList_store_row rfl 35 _ _ (by with_reducible rfl) (w.heap.size+1) (cmC c) rfl rfl 35 old HZ.out Zaf HSX.out HNX.out ?_))
     refine bodyPost_ret (v:= .tuple #[.agg (cmC c),.int .i64 211]) (Zag (p:=4) (q:=5) (by kernel_rfl) _ _ (w.heap.size+1) 35 (cmC c) (0,0) _ _ rfl rfl (setRow_heap _ _ _ _ _ _ HZ.out) Tryz.underlying35 rfl Zaf) rfl ?_;exact⟨⟨_,211,rfl,rfl,rfl,hc⟩,Zah HBX.out (Nat.le_succ _) _⟩
    have HZX:=HZ;have u7:wc.cell? ⟨w.heap.size,7,none⟩=some (.int .u8 c.lt):=HCX.out.cel 7 rfl;have g7:=HCX.out.fz 7;have HC2:=Zh (HCX.out.setN 7 (.int .u8 (d.toNat:Int)) { c with lt:=(d.toNat:Int) } rfl);have HZ2:=Zh (show(wc.setCell ⟨w.heap.size,7,none⟩ (.int .u8 (d.toNat:Int))).heap[w.heap.size+1]? =some (.cells old 35 (0,0)) from(Below.heap_setCell _ _ _ _ (show w.heap.size+1≠w.heap.size by omega)).trans HZX.out);have HB2:=Zh (HBX.out.setCell (p:=⟨w.heap.size,7,none⟩) (Nat.le_refl _) (.int .u8 (d.toNat:Int)));have HO2:=Zh (show Zcf c { c with lt:=(d.toNat:Int) } from⟨HOX.out.1,HOX.out.2.1,⟨HOX.out.2.2.lv,HOX.out.2.2.sv,HOX.out.2.2.dre,HOX.out.2.2.re,HOX.out.2.2.sub⟩⟩);go_upto_region 6 with fail;clear u7 g7;obtain⟨x,hx⟩:∃x:Cm,{ c with lt:=(d.toNat:Int) }=x:=⟨_,rfl⟩;rw [hx]at HC2 HO2;clear hx;generalize wc.setCell _ _=wS at *;have he2:=Zcg t 1;have ht1:(1:Int)≤(t.length:Int):=by omega
    obtain⟨t2,ht2⟩:∃t2,t.drop 1=t2:=⟨_,rfl⟩;have HTD:=Zh (show t2.length≤1000000 by rw [← ht2,List.length_drop];omega);rw [ht2]at he2;have HSC:=Zh (HSU.out x HO2.out.2.2 t2);clear ht2;have HSV:=Zh (fun(X:World) (hb:Below wS.heap.size wS X)=>(hb.block _ (Zaa HC2.out)).trans HC2.out);have HX:=Zh (Below.refl wS.heap.size wS);refine wp_region_noPanic ?_;refine wp_region_any (by kernel_rfl) ?_;change wpAny _ _ _ _ _ _ _ wS.drew;refine Zba 6 6 (Array.replicate 8 false) (fun X=>X.heap[w.heap.size]? =some (.cells (cmC x) 35 (0,0))) (by kernel_rfl) (HSV.out _ HX.out.drew) (fun hHeld=>?_);simp only [List.take_succ_cons,List.take_zero,List.drop_succ_cons,List.drop_zero];refine Zad (i:=0) (v:=_) rfl (by kernel_rfl) (by kernel_rfl) (by kernel_rfl) (fun _ _ _ h=>h) (Fil.yieldsIf_load_row (by rfl) 35 _ rfl w.heap.size rfl 35 (cmC x) (0,0) _ (fun X hX=>hX) Tryz.underlying35 rfl Zaf) (by assumption) ?_
    (try simp only [Act.put,Zs1,Zs2,Zs3])
    refine Zad (i:=1) (v:=?_) rfl (by kernel_rfl) (by kernel_rfl) (by kernel_rfl) (fun _ _ _ h=>h) (.inl ⟨by rfl,?_⟩) (by assumption) ?_;rotate_left
    ·intro w hSw
     (try dsimp only at hSw)
     go_simp
     (try with_reducible rfl)
    (try simp only [Act.put,Zs1,Zs2,Zs3])
    refine Zad (i:=2) (v:=?_) rfl (by kernel_rfl) (by kernel_rfl) (by kernel_rfl) (fun _ _ _ h=>h) (.inl ⟨by rfl,?_⟩) (by assumption) ?_;rotate_left
    ·intro w hSw
     (try dsimp only at hSw)
     go_simp
     (try with_reducible rfl)
    (try simp only [Act.put,Zs1,Zs2,Zs3])
    refine wpAnyH_ready (rs:=[3]) (by kernel_rfl) (by simp) ?_;refine AllReadyH.consL rfl (fun K hK=>?_) ?_
    ·go_simp
     (with_reducible refine(HSC.out _ HTD.out).mono ?_)
     rintro e w2 ⟨⟨c3,er,rfl,h1,h2,h3⟩,hbl⟩;have HBC:=Zh ((HX.out.drew).trans (hbl.mono (HX.out.drew).size));have HO3:=Zh (show Zcf x c3 from⟨h1,h2,h3⟩);clear hbl h1 h2 h3;refine hK.out _ _ ?_ (fun hHeld=>?_)
     ·first | exact HSV.out _ HX.out.drew | exact HSV.out _ HBC.out
     clear hK K
     (try simp only [Zs1])
     refine Zad (i:=4) (v:=?_) rfl (by kernel_rfl) (by kernel_rfl) (by kernel_rfl) (fun _ _ _ h=>h) (.inl ⟨by rfl,?_⟩) (by assumption) ?_;rotate_left
     ·intro w hSw
      (try dsimp only at hSw)
      go_simp
      (try with_reducible rfl)
     (try simp only [Act.put,Zs1,Zs2,Zs3])
     refine Zad (i:=5) (v:=?_) rfl (by kernel_rfl) (by kernel_rfl) (by kernel_rfl) (fun _ _ _ h=>h) (.inl ⟨by rfl,?_⟩) (by assumption) ?_;rotate_left
     ·intro w hSw
      (try dsimp only at hSw)
      go_simp
      (try with_reducible rfl)
     (try simp only [Act.put,Zs1,Zs2,Zs3])
     refine wpAnyH_done (by kernel_rfl) ?_ _;have HZ3:=Zh ((HBC.out.block _ (Zaa HZ2.out)).trans HZ2.out);have HB3:=Zh (HB2.out.trans (HBC.out.mono HB2.out.size));have HN3:=Zh (Zbk HO3.out.2.2);have HS3:=Zh (show old.size=(cmC c3).size from HOS.out);change wpList _ _ _ _ _ _;go_wp2_with (refine wpList_store_row rfl 35 _ _ (by with_reducible rfl) (w.heap.size+1) (cmC c3) rfl rfl 35 old HZ3.out Zaf HS3.out HN3.out ?_);refine NoPanic.normal ?_;go_wp2_with fail;refine bodyPost_ret (v:= .tuple #[.agg (cmC c3),.int .i64 er]) (Zag (p:=4) (q:=5) (by kernel_rfl) _ _ (w.heap.size+1) 35 (cmC c3) (0,0) _ _ rfl rfl (setRow_heap _ _ _ _ _ _ HZ3.out) Tryz.underlying35 rfl Zaf) rfl ?_;exact⟨⟨_,er,rfl,HO3.out.1.trans HO2.out.1,HO3.out.2.1.trans HO2.out.2.1,HO3.out.2.2⟩,Zah HB3.out (Nat.le_succ _) _⟩
    exact AllReadyH.nil
end Go.Proofs.YtndjgbehbgcpkaaGreatDoor
