/- The reference's reader of patterns: a part of a class. -/
import Derived.Test.YtndjgbehbgcpkaaGreatDoorPrh
import Derived.Deep.CutRange
set_option linter.unusedVariables false
set_option linter.unusedSimpArgs false
set_option maxRecDepth 100000
set_option maxHeartbeats 4000000
namespace Go.Proofs.YtndjgbehbgcpkaaGreatDoor
open Go Go.Proofs Go.RowKit Go.Ink Go.Sort
theorem Zau {P:Program}{fn:Func}{p q r:Tmp}{ty:TypeId}(h:fn.results=#[.cell p ty,.tmp q,.tmp r])(tmps:Array Value)(w:World)(g:Nat)(t:TypeId)(cs:Array Value)(fr:Nat×Nat)(d:TypeDesc)(v u:Value)
 (hp:tmps.getD p undef= .pointer (some ⟨g,0,none⟩)) (hq:tmps.getD q undef=v) (hr:tmps.getD r undef=u) (hg:w.heap[g]? =some (.cells cs t fr))
 (hu:P.underlying ty=some d) (hd:(match d with | .struct _ | .array _ _=>true | _=>false)=true) (hi:(P.info? ty).map (·.size)=some cs.size):
 (results fn tmps).run P w= .ok (.tuple #[.agg cs,v,u]) w:=by
 have hp':tmps[p]?.getD undef= .pointer (some ⟨g,0,none⟩):=by simpa using hp
 have hq':tmps[q]?.getD undef=v:=by simpa using hq
 have hr':tmps[r]?.getD undef=u:=by simpa using hr
 simp [results,h,hp',hq',hr',asAddr,run_loadVar_row w g t ty cs fr d hg hu hd hi]
theorem extr_mid (s:List UInt8)(a b:Nat)(h:a≤b):(⟨s.toArray⟩:ByteArray).extract a b=⟨((s.drop a).take (b - a)).toArray⟩:=by
 have e:=extr_takeP s a (b - a)
 rwa [show a+(b - a)=b by omega]at e
def PartE (s:List UInt8)(a:Nat)(e:Ending):Prop:=∃(cs:Array Value) (n:Nat) (ok:Bool),e= .returned (.tuple #[.agg cs,.int .i64 (n:Int),.bool ok])∧SetC cs∧(ok=true→a < n∧n≤s.length)∧part8 s a=(if ok=true then some n else none)
theorem PartE.mk {s:List UInt8}{a:Nat}(cs:Array Value)(z:Int)(n:Nat)(hz:z=(n:Int))(ok:Bool)(h1:SetC cs)(h2:ok=true→a < n∧n≤s.length)(h3:part8 s a=if ok=true then some n else none):PartE s a (.returned (.tuple #[.agg cs,.int .i64 z,.bool ok])):=⟨cs,n,ok,by rw [hz],h1,h2,h3⟩
theorem heapD {w:World}{g:Nat}{o:Obj}(h:w.heap[g]? =some o)(n:Nat):(w.drewN n).heap[g]? =some o:=h
theorem belowD {B:Nat}{a w:World}(h:Below B a w)(n:Nat):Below B a (w.drewN n):=⟨h.os,h.tape,h.output,h.size,h.block⟩
theorem refPart (s:List UInt8)(a:Nat)(w:World)(hs:s.length≤100000)(ha:a≤100000):
 Calls Tryz.prog 220 #[.string ⟨s.toArray⟩,.int .i64 (a:Int)] w fun e w'=>PartE s a e∧Below w.heap.size w w':=by
 have hsz:=size_mk s;have HSP:=Zh (fun(X:World) (j:Nat) (hj:j≤1000000)=>refSpecial s j X (by omega) hj);have HCL:=Zh (fun(X:World) (n:List UInt8) (hn:n.length≤100000)=>refClass n X hn);go_enter Tryz.func220,Tryz.ntmps220;go_upto_region 2 with fail;generalize hwA:(w.alloc _).alloc _=wA;have HZ:=Zh (show wA.heap[w.heap.size]? =some (.cells zset 148 (0,0)) from hwA▸heap_alloc2_old _ _ _);have HC:=Zh (show wA.heap[w.heap.size+1]? =some (.cells zset 148 (0,0)) from hwA▸heap_alloc2_new _ _ _);have HB:=Zh (show Below w.heap.size w wA from hwA▸(Zab w _).trans ((Zab _ _).mono (Zab w _).size));have HOK:=Zh Zca;obtain⟨b,hb⟩:∃b,spB s a=b:=⟨_,rfl⟩;have HSA:=Zh (HSP.out wA a (by omega));rw [hb]at HSA;have HBB:=Zh (show b=true→a+1 < s.length from fun e=>spB_lt (hb.trans e));have HSB:=Zh hb;clear hb;clear hwA;have HSZ:=Zh (show(Tryz.prog.info? 148).map (·.size)=some (zset).size by rw [HOK.out.1];exact Zcp);have HON:=Zh HOK.out.one
 by_cases hlt:a < s.length
 case neg=>
  have hki:¬(a:Int) < (s.length:Int):=by omega
  have hkj:(s.length:Int)≤(a:Int):=by omega
  have HP8:=Zh (part8_past hlt);clear hlt
  go_wp2_with (first
   | (refine wpList_load_row rfl 148 _ (by with_reducible rfl) (w.heap.size+1) rfl 148 (zset) (0,0) _ HC.out Tryz.underlying148 rfl HSZ.out ?_)
   | (refine wpList_store_row rfl 148 _ _ (by with_reducible rfl) w.heap.size (zset) rfl rfl 148 zset HZ.out HSZ.out (Zca.1.trans HOK.out.1.symm) HON.out ?_))
  refine bodyPost_ret (v:= .tuple #[.agg (zset),.int .i64 (0),.bool false]) (Zau (p:=4) (q:=5) (r:=6) (by kernel_rfl) _ _ w.heap.size 148 (zset) (0,0) _ _ _ rfl rfl rfl (setRow_heap _ _ _ _ _ _ HZ.out) Tryz.underlying148 rfl HSZ.out) rfl ?_;exact⟨.mk zset 0 0 rfl false HOK.out (fun h=>by cases h) HP8.out,Zah HB.out (Nat.le_refl _) _⟩
 have hki:(a:Int) < (s.length:Int):=by omega
 have hkn:¬(s.length:Int)≤(a:Int):=by omega
 go_wp2_with fail;refine HSA.out.mono ?_;rintro e w1 ⟨rfl,rfl⟩;obtain⟨d,hkd⟩:∃d,s[a]? =some d:=⟨_,Zg hlt⟩;have hby:=Zak hkd;obtain⟨hz0,hz1,hz2,hz3⟩:=Zew a s.length hlt;have HD:=Zh (show d.toNat < 256 from d.toNat_lt);have HKD:=Zh hkd;clear hkd;cases b
 case true=>
  have hl2:a+1 < s.length:=HBB.out rfl;obtain⟨f,hkf⟩:∃f,s[a+1]? =some f:=⟨_,Zg hl2⟩;have hby2:=Zak hkf;have HKF:=Zh hkf;obtain⟨hy0,hy1,hy2,hy3,hy4⟩:=idx_two a s.length hl2;clear hkf HBB;go_wp2_with fail
  go_loop [8] (fun iv=>∃i:Nat,iv= .int .i64 (i:Int)∧a+2≤i∧i≤s.length+2∧Hid (∀j,a+2≤j→j < i→endB s j=false)) (fun iv=>s.length+2 - (intOf iv).toNat)
  case atStart=>exact⟨a+2,by go_num,Nat.le_refl _,by omega,Zh (fun j h1 h2=>absurd h1 (by omega))⟩
  case round=>
   obtain⟨i,rfl,hi1,hi2,HNB⟩:=hrel
   by_cases hil:i+1 < s.length
   case neg=>
    have hili:¬(i:Int)+1 < (s.length:Int):=by omega
    have HP8:=Zh (part8_none HKD.out HSB.out (fun j hj=>by
     by_cases hji:j < i
     ·exact HNB.out j hj hji
     ·exact endB_past (by omega)))
    clear hil
    go_wp2_with (first
     | (refine wpList_load_row rfl 148 _ (by with_reducible rfl) (w.heap.size+1) rfl 148 (zset) (0,0) _ HC.out Tryz.underlying148 rfl HSZ.out ?_)
     | (refine wpList_store_row rfl 148 _ _ (by with_reducible rfl) w.heap.size (zset) rfl rfl 148 zset HZ.out HSZ.out (Zca.1.trans HOK.out.1.symm) HON.out ?_))
    refine bodyPost_ret (v:= .tuple #[.agg (zset),.int .i64 (0),.bool false]) (Zau (p:=4) (q:=5) (r:=6) (by kernel_rfl) _ _ w.heap.size 148 (zset) (0,0) _ _ _ rfl rfl rfl (setRow_heap _ _ _ _ _ _ HZ.out) Tryz.underlying148 rfl HSZ.out) rfl ?_;exact⟨.mk zset 0 0 rfl false HOK.out (fun h=>by cases h) HP8.out,Zah HB.out (Nat.le_refl _) _⟩
   have hili:(i:Int)+1 < (s.length:Int):=by omega
   by_cases h58:(f.toNat:Int)=58
   case neg=>
    have h58b:((f.toNat:Int)==58)=false:=Zf h58;have HP8:=Zh (part8_not58 HKD.out HSB.out HKF.out h58)
    go_wp2_with (first
     | (refine wpList_load_row rfl 148 _ (by with_reducible rfl) (w.heap.size+1) rfl 148 (zset) (0,0) _ HC.out Tryz.underlying148 rfl HSZ.out ?_)
     | (refine wpList_store_row rfl 148 _ _ (by with_reducible rfl) w.heap.size (zset) rfl rfl 148 zset HZ.out HSZ.out (Zca.1.trans HOK.out.1.symm) HON.out ?_))
    refine bodyPost_ret (v:= .tuple #[.agg (zset),.int .i64 (0),.bool false]) (Zau (p:=4) (q:=5) (r:=6) (by kernel_rfl) _ _ w.heap.size 148 (zset) (0,0) _ _ _ rfl rfl rfl (setRow_heap _ _ _ _ _ _ HZ.out) Tryz.underlying148 rfl HSZ.out) rfl ?_;exact⟨.mk zset 0 0 rfl false HOK.out (fun h=>by cases h) HP8.out,Zah HB.out (Nat.le_refl _) _⟩
   have h58b:((f.toNat:Int)==58)=true:=Zt h58;have HF58:=Zh (show s[a+1]? =some 58 by rw [HKF.out,u8_eq (n:=58) (by omega) h58];rfl);clear h58;have hi0:i < s.length:=by omega
   have hi0i:(i:Int) < (s.length:Int):=by omega
   obtain⟨x,hkx⟩:∃x,s[i]? =some x:=⟨_,Zg hi0⟩;have hbx:=Zak hkx;obtain⟨y,hky⟩:∃y,s[i+1]? =some y:=⟨_,Zg hil⟩;have hbz:=Zak hky;obtain⟨hx0,hx1,hx2,hx3⟩:=Zew i s.length hi0;have HEB:=Zh (endB_at hkx hky);clear hkx hky
   by_cases hx58:(x.toNat:Int)=58
   case neg=>
    have hx58b:((x.toNat:Int)==58)=false:=Zf hx58;have HNX:=Zh (show∀j,a+2≤j→j < i+1→endB s j=false from fun j h1 h2=>by
     rcases Nat.lt_or_ge j i with h3 | h3
     ·exact HNB.out j h1 h3
     ·obtain rfl:j=i:=by omega
      rw [HEB.out,show(x==58)=false by rw [beq_eq_false_iff_ne];intro e;rw [e]at hx58;exact hx58 rfl]
      rfl)
    go_wp2_with fail;go_round
    case rel=>exact⟨i+1,by go_num,by omega,by omega,HNX⟩
    case measure=>simp [intOf] <;> omega
   have hx58b:((x.toNat:Int)==58)=true:=Zt hx58;have HX58:=Zh (u8_eq (n:=58) (by omega) hx58);clear hx58
   by_cases hy93:(y.toNat:Int)=93
   case neg=>
    have hy93b:((y.toNat:Int)==93)=false:=Zf hy93;have HNX:=Zh (show∀j,a+2≤j→j < i+1→endB s j=false from fun j h1 h2=>by
     rcases Nat.lt_or_ge j i with h3 | h3
     ·exact HNB.out j h1 h3
     ·obtain rfl:j=i:=by omega
      rw [HEB.out,show(y==93)=false by rw [beq_eq_false_iff_ne];intro e;rw [e]at hy93;exact hy93 rfl];exact Bool.and_false _)
    go_wp2_with fail;go_round
    case rel=>exact⟨i+1,by go_num,by omega,by omega,HNX⟩
    case measure=>simp [intOf] <;> omega
   have hy93b:((y.toNat:Int)==93)=true:=Zt hy93;have HEY:=Zh (show endB s i=true by rw [HEB.out,HX58.out,u8_eq (n:=93) (by omega) hy93];rfl);clear hy93;have he:=extr_mid s (a+2) i hi1;obtain⟨u,hu⟩:∃u,(s.drop (a+2)).take (i - (a+2))=u:=⟨_,rfl⟩;have HUL:=Zh (show u.length≤100000 by rw [← hu,List.length_take,List.length_drop];omega);have HPC:=Zh (part8_cls HKD.out HSB.out HF58.out hi1 hi0 HEY.out HNB.out);rw [hu]at he HPC;have hai:(a:Int)+2≤(i:Int):=by omega
   have hii:(i:Int)≤(s.length:Int):=by omega
   have HIL:=Zh (show a < i+2∧i+2≤s.length from⟨by omega,by omega⟩);have HCU:=Zh (HCL.out w1 u HUL.out);clear hu hil hi0;go_wp2_with fail;refine HCU.out.mono ?_;rintro e w2 ⟨⟨cs,rfl,hcs⟩,hb2⟩;obtain⟨ok,hok⟩:∃ok,known u=ok:=⟨_,rfl⟩;rw [hok]at HPC ⊢;have HP8:=HPC;clear hok;have HCO:=Zh hcs;have HB2:=Zh (HB.out.trans (hb2.mono HB.out.size));have HZ2:=Zh ((hb2.block _ (Zaa HZ.out)).trans HZ.out);have HW2:=Zh (show w.heap.size < w2.heap.size from Nat.lt_of_lt_of_le (Zaa HZ.out) hb2.size);clear hb2 hcs HSZ HON
   go_upto_region 10 with(first
    | (refine wpList_store_row rfl 148 _ _ (by with_reducible rfl) _ cs rfl rfl 148 zset (Zae _ _) (by rw [HCO.out.1];exact Zcp) (by rw [HCO.out.1,Zca.1]) HCO.out.one ?_))
   have hbN:=Zab w2 (.cells zset 148);have HCX:=Zh (setRow_heap _ _ _ cs _ _ (Zae w2 (.cells zset 148)));have HZX:=Zh ((setRow_other (w2.alloc (.cells zset 148)) _ _ cs (show w.heap.size≠w2.heap.size from Nat.ne_of_lt HW2.out)).trans ((hbN.block _ (Zaa HZ2.out)).trans HZ2.out));have HBX:=Zh (Zah (HB2.out.trans (hbN.mono HB2.out.size)) (Nat.le_of_lt HW2.out) cs);have HOK:=HCO;clear hbN;change Code.wp _ _ _ _ ((w2.alloc (.cells zset 148)).setRow w2.heap.size cs);generalize (w2.alloc (.cells zset 148)).setRow w2.heap.size cs=wX at *;have HSZ:=Zh (show(Tryz.prog.info? 148).map (·.size)=some (cs).size by rw [HCO.out.1];exact Zcp);have HON:=Zh HCO.out.one
   go_wp2_with (first
    | (refine wpList_load_row rfl 148 _ (by with_reducible rfl) w2.heap.size rfl 148 (cs) (0,0) _ HCX.out Tryz.underlying148 rfl HSZ.out ?_)
    | (refine wpList_store_row rfl 148 _ _ (by with_reducible rfl) w.heap.size (cs) rfl rfl 148 zset HZX.out HSZ.out (Zca.1.trans HOK.out.1.symm) HON.out ?_))
   refine bodyPost_ret (v:= .tuple #[.agg (cs),.int .i64 ((i:Int)+2),.bool ok]) (Zau (p:=4) (q:=5) (r:=6) (by kernel_rfl) _ _ w.heap.size 148 (cs) (0,0) _ _ _ rfl rfl rfl (setRow_heap _ _ _ _ _ _ HZX.out) Tryz.underlying148 rfl HSZ.out) rfl ?_;exact⟨.mk cs _ (i+2) (by omega) ok HOK.out (fun _=>HIL.out) HP8.out,Zah HBX.out (Nat.le_refl _) _⟩
 case false=>
  clear HBB;go_upto_region 12 with fail
  go_cut [79] from 61 to 80 (fun v wx=>(∃x:Bool,v= .bool x∧(x=true↔(s[a+1]? =some 45∧a+2 < s.length∧¬s[a+2]? =some 93)))∧wx=w1)
  case first=>
   by_cases hl3:a+2 < s.length
   case neg=>
    have hl3i:¬(a:Int)+2 < (s.length:Int):=by omega
    have HIF:=Zh (show(false=true↔(s[a+1]? =some 45∧a+2 < s.length∧¬s[a+2]? =some 93)) from⟨fun e=>Bool.noConfusion e,fun e=>absurd e.2.1 hl3⟩);clear hl3;go_wp2_with fail;go_meet
    case rel=>exact⟨⟨false,rfl,HIF.out⟩,rfl⟩
   have hl3i:(a:Int)+2 < (s.length:Int):=by omega
   obtain⟨f,hkf⟩:∃f,s[a+1]? =some f:=⟨_,Zg (by omega)⟩;have hby2:=Zak hkf;obtain⟨f3,hkf3⟩:∃f,s[a+2]? =some f:=⟨_,Zg hl3⟩;have hby3:=Zak hkf3;obtain⟨hy0,hy1,hy2,hy3,hy4⟩:=idx_two a s.length (by omega);have HL3:=Zh hl3;have HKF:=Zh hkf;have HKF3:=Zh hkf3;clear hkf hkf3 hl3
   by_cases h45:(f.toNat:Int)=45
   case neg=>
    have h45b:((f.toNat:Int)==45)=false:=Zf h45;have HIF:=Zh (show(false=true↔(s[a+1]? =some 45∧a+2 < s.length∧¬s[a+2]? =some 93)) from⟨fun e=>Bool.noConfusion e,fun e=>by
     have:=Option.some.inj (HKF.out.symm.trans e.1);rw [this]at h45;exact absurd rfl h45⟩)
    go_wp2_with fail;go_meet
    case rel=>exact⟨⟨false,rfl,HIF.out⟩,rfl⟩
   have h45b:((f.toNat:Int)==45)=true:=Zt h45;have HF45:=Zh (show s[a+1]? =some 45 by rw [HKF.out,u8_eq (n:=45) (by omega) h45];rfl);clear h45
   by_cases h93:(f3.toNat:Int)=93
   case pos=>
    have h93b:((f3.toNat:Int)==93)=true:=Zt h93;have HIF:=Zh (show(false=true↔(s[a+1]? =some 45∧a+2 < s.length∧¬s[a+2]? =some 93)) from⟨fun e=>Bool.noConfusion e,fun e=>by
     refine absurd ?_ e.2.2;rw [HKF3.out,u8_eq (n:=93) (by omega) h93]
     rfl⟩)
    have h93c:((f3.toNat:Int) !=93)=false:=by rw [h93];rfl
    clear h93;go_wp2_with fail;go_meet
    case rel=>exact⟨⟨false,rfl,HIF.out⟩,rfl⟩
   have h93b:((f3.toNat:Int)==93)=false:=Zf h93;have HIF:=Zh (show s[a+1]? =some 45∧a+2 < s.length∧¬s[a+2]? =some 93 from⟨HF45.out,HL3.out,fun e=>by
    have:=Option.some.inj (HKF3.out.symm.trans e);rw [this]at h93;exact absurd rfl h93⟩)
   have h93c:((f3.toNat:Int) !=93)=true:=bne_iff_ne.2 h93;go_wp2_with fail;go_meet
   case rel=>exact⟨⟨true,rfl,⟨fun _=>HIF.out,fun _=>rfl⟩⟩,rfl⟩
  case rest=>
   obtain⟨⟨b,rfl,hb⟩,hw⟩:=hcut;have HB3:=Zh hb;subst hw;have hd8:(d.toNat:Int) < 256:=by have:=HD.out;omega
   cases b
   case false=>
    have HP8:=Zh (part8_one HKD.out HSB.out (fun e=>by have:=HB3.out.2 e;cases this));clear hb HB3;obtain⟨v0,hv0⟩:=HOK.out.2 d.toNat HD.out;have u0:wc.cell? ⟨w.heap.size+1,d.toNat,none⟩=some (.bool v0):=by rw [Lib.cell_of_heap HC.out];exact hv0
    have g0:wc.frozen? ⟨w.heap.size+1,d.toNat,none⟩=false:=Lib.frozen_of_heap HC.out d.toNat;have HC2:=Zh (Zay (j:=d.toNat) HC.out (.bool true));have HY2:=Zh (show(wc.setCell ⟨w.heap.size+1,d.toNat,none⟩ (.bool true)).heap[w.heap.size]? =some (.cells zset 148 (0,0)) from(Below.heap_setCell _ _ _ _ (show w.heap.size≠w.heap.size+1 by omega)).trans HZ.out);have HB2:=Zh (HB.out.setCell (p:=⟨w.heap.size+1,d.toNat,none⟩) (Nat.le_succ _) (.bool true));have HOK2:=Zh (HOK.out.set d.toNat true);have HAL:=Zh (show a < a+1∧a+1≤s.length from⟨by omega,by omega⟩);clear hv0 HOK HSZ HON;go_upto_region 21 with fail;clear u0 g0;have HOK:=HOK2;clear HOK2;generalize wc.setCell _ _=wY at *;generalize zset.setIfInBounds d.toNat (.bool true)=cs at *;have HSZ:=Zh (show(Tryz.prog.info? 148).map (·.size)=some (cs).size by rw [HOK.out.1];exact Zcp);have HON:=Zh HOK.out.one
    go_wp2_with (first
     | (refine wpList_load_row rfl 148 _ (by with_reducible rfl) (w.heap.size+1) rfl 148 (cs) (0,0) _ HC2.out Tryz.underlying148 rfl HSZ.out ?_)
     | (refine wpList_store_row rfl 148 _ _ (by with_reducible rfl) w.heap.size (cs) rfl rfl 148 zset HY2.out HSZ.out (Zca.1.trans HOK.out.1.symm) HON.out ?_))
    refine bodyPost_ret (v:= .tuple #[.agg (cs),.int .i64 ((a:Int)+1),.bool true]) (Zau (p:=4) (q:=5) (r:=6) (by kernel_rfl) _ _ w.heap.size 148 (cs) (0,0) _ _ _ rfl rfl rfl (setRow_heap _ _ _ _ _ _ HY2.out) Tryz.underlying148 rfl HSZ.out) rfl ?_;exact⟨.mk cs _ (a+1) (by omega) true HOK.out (fun _=>HAL.out) HP8.out,Zah HB2.out (Nat.le_refl _) _⟩
   have hl3:a+2 < s.length:=(hb.1 rfl).2.1;clear hb;obtain⟨f3,hkf3⟩:∃f,s[a+2]? =some f:=⟨_,Zg hl3⟩;have hby3:=Zak hkf3;obtain⟨hy0,hy1,hy2,hy3,hy4⟩:=idx_two a s.length (by omega);have hl3i:(a:Int)+2 < (s.length:Int):=by omega
   have HAL:=Zh (show a < a+3∧a+3≤s.length from⟨by omega,by omega⟩);have HF3:=Zh (show f3.toNat < 256 from f3.toNat_lt);have HPR:=Zh (part8_range HKD.out HSB.out (HB3.out.1 rfl).1 hkf3 (fun e=>(HB3.out.1 rfl).2.2 (e▸hkf3)));have HCD:=Zh (fun n=>heapD HC.out n);have HZD:=Zh (fun n=>heapD HZ.out n);have HBD:=Zh (fun n=>belowD HB.out n);have HSD:=Zh (fun X=>HSP.out X (a+2) (by omega));rw [show(((a+2):Nat):Int)=(a:Int)+2 by omega]at HSD;obtain⟨sb,hsb⟩:∃sb,spB s (a+2)=sb:=⟨_,rfl⟩;rw [hsb]at HSD HPR;clear hkf3 hl3 hsb;have hw3:wrap64 (f3.toNat:Int)=(f3.toNat:Int):=by have h:=HF3.out;unfold wrap64;omega
   have hw2:IntKind.i64.wrap ((a:Int)+2)=(a:Int)+2:=IntWalk.i64_in _ (by omega)
   by_cases hgt:(f3.toNat:Int) < (d.toNat:Int)
   case pos=>
    have hgb:decide ((f3.toNat:Int) < (d.toNat:Int))=true:=decide_eq_true hgt;have hgc:decide ((d.toNat:Int) > (f3.toNat:Int))=true:=decide_eq_true hgt;have hgn:decide (f3.toNat < d.toNat)=true:=decide_eq_true (by omega);have hgm:decide (d.toNat > f3.toNat)=true:=decide_eq_true (by omega);have HP8:=Zh (show part8 s a=none from by rw [HPR.out,if_pos (.inl (by omega))]);clear hgt;go_wp2_with fail
    go_quiet (fail)
    have HC2:=Zh (HCD.out nq);have HZ2:=Zh (HZD.out nq);have HB2:=Zh (HBD.out nq);clear HC HZ HB HCD HZD HBD;generalize wc.drewN nq=wY at *
    go_wp2_with (first
     | (refine wpList_load_row rfl 148 _ (by with_reducible rfl) (w.heap.size+1) rfl 148 (zset) (0,0) _ HC2.out Tryz.underlying148 rfl HSZ.out ?_)
     | (refine wpList_store_row rfl 148 _ _ (by with_reducible rfl) w.heap.size (zset) rfl rfl 148 zset HZ2.out HSZ.out (Zca.1.trans HOK.out.1.symm) HON.out ?_))
    refine bodyPost_ret (v:= .tuple #[.agg (zset),.int .i64 (0),.bool false]) (Zau (p:=4) (q:=5) (r:=6) (by kernel_rfl) _ _ w.heap.size 148 (zset) (0,0) _ _ _ rfl rfl rfl (setRow_heap _ _ _ _ _ _ HZ2.out) Tryz.underlying148 rfl HSZ.out) rfl ?_;exact⟨.mk zset 0 0 rfl false HOK.out (fun h=>by cases h) HP8.out,Zah HB2.out (Nat.le_refl _) _⟩
   have hgb:decide ((f3.toNat:Int) < (d.toNat:Int))=false:=decide_eq_false hgt;have hgc:decide ((d.toNat:Int) > (f3.toNat:Int))=false:=decide_eq_false hgt;have hgn:decide (f3.toNat < d.toNat)=false:=decide_eq_false (by omega);have hgm:decide (d.toNat > f3.toNat)=false:=decide_eq_false (by omega);have HNG:=Zh (show¬f3.toNat < d.toNat by omega);clear hgt;go_wp2_with fail
   go_quiet ((go_at_call 245;exact Calls.quiet_of_same (HSD.out _)))
   have HC2:=Zh (HCD.out nq);have HZ2:=Zh (HZD.out nq);have HB2:=Zh (HBD.out nq);clear HC HZ HB HCD HZD HBD HSD;generalize wc.drewN nq=wY at *;cases sb
   case true=>
    have HP8:=Zh (show part8 s a=none from by rw [HPR.out,if_pos (.inr rfl)])
    go_wp2_with (first
     | (refine wpList_load_row rfl 148 _ (by with_reducible rfl) (w.heap.size+1) rfl 148 (zset) (0,0) _ HC2.out Tryz.underlying148 rfl HSZ.out ?_)
     | (refine wpList_store_row rfl 148 _ _ (by with_reducible rfl) w.heap.size (zset) rfl rfl 148 zset HZ2.out HSZ.out (Zca.1.trans HOK.out.1.symm) HON.out ?_))
    refine bodyPost_ret (v:= .tuple #[.agg (zset),.int .i64 (0),.bool false]) (Zau (p:=4) (q:=5) (r:=6) (by kernel_rfl) _ _ w.heap.size 148 (zset) (0,0) _ _ _ rfl rfl rfl (setRow_heap _ _ _ _ _ _ HZ2.out) Tryz.underlying148 rfl HSZ.out) rfl ?_;exact⟨.mk zset 0 0 rfl false HOK.out (fun h=>by cases h) HP8.out,Zah HB2.out (Nat.le_refl _) _⟩
   have HP8:=Zh (show part8 s a=some (a+3) from by rw [HPR.out,if_neg (fun e=>by rcases e with e | e;exact HNG.out e;cases e)]);clear HSZ HON;go_wp2_with fail
   go_loopw [11] (fun kv wr=>∃k:Nat,kv= .int .i64 (k:Int)∧k≤256∧Hid (∃cs,wr.heap[w.heap.size+1]? =some (.cells cs 148 (0,0))∧SetC cs)∧Hid (wr.heap[w.heap.size]? =some (.cells zset 148 (0,0))∧Below w.heap.size w wr)) (fun kv _=>256 - (intOf kv).toNat)
   case atStart=>exact⟨d.toNat,rfl,Nat.le_of_lt HD.out,Zh ⟨_,HC2.out,HOK.out⟩,Zh ⟨HZ2.out,HB2.out⟩⟩
   case round=>
    clear HOK HC2 HZ2 HB2;obtain⟨k,rfl,hk,HX,HY⟩:=hrel;obtain⟨cs,hcs,hok⟩:=HX.out;have HC2:=Zh hcs;have HOK:=Zh hok;have HZ2:=Zh HY.out.1;have HB2:=Zh HY.out.2;clear hcs hok HX HY
    by_cases hlt2:k≤f3.toNat
    case neg=>
     have hki2:¬(k:Int)≤(f3.toNat:Int):=by omega
     clear hlt2;have HSZ:=Zh (show(Tryz.prog.info? 148).map (·.size)=some (cs).size by rw [HOK.out.1];exact Zcp);have HON:=Zh HOK.out.one
     go_wp2_with (first
      | (refine wpList_load_row rfl 148 _ (by with_reducible rfl) (w.heap.size+1) rfl 148 (cs) (0,0) _ HC2.out Tryz.underlying148 rfl HSZ.out ?_)
      | (refine wpList_store_row rfl 148 _ _ (by with_reducible rfl) w.heap.size (cs) rfl rfl 148 zset HZ2.out HSZ.out (Zca.1.trans HOK.out.1.symm) HON.out ?_))
     refine bodyPost_ret (v:= .tuple #[.agg (cs),.int .i64 ((a:Int)+3),.bool true]) (Zau (p:=4) (q:=5) (r:=6) (by kernel_rfl) _ _ w.heap.size 148 (cs) (0,0) _ _ _ rfl rfl rfl (setRow_heap _ _ _ _ _ _ HZ2.out) Tryz.underlying148 rfl HSZ.out) rfl ?_;exact⟨.mk cs _ (a+3) (by omega) true HOK.out (fun _=>HAL.out) HP8.out,Zah HB2.out (Nat.le_refl _) _⟩
    have hki2:(k:Int)≤(f3.toNat:Int):=by omega
    have hk256:k < 256:=by have:=HF3.out;omega
    have hk256i:(k:Int) < 256:=by omega
    obtain⟨v0,hv0⟩:=HOK.out.2 k hk256;have u0:wr.cell? ⟨w.heap.size+1,k,none⟩=some (.bool v0):=by rw [Lib.cell_of_heap HC2.out];exact hv0
    have g0:wr.frozen? ⟨w.heap.size+1,k,none⟩=false:=Lib.frozen_of_heap HC2.out k;have HC3:=Zh (Zay (j:=k) HC2.out (.bool true));have HZ3:=Zh (show(wr.setCell ⟨w.heap.size+1,k,none⟩ (.bool true)).heap[w.heap.size]? =some (.cells zset 148 (0,0)) from(Below.heap_setCell _ _ _ _ (show w.heap.size≠w.heap.size+1 by omega)).trans HZ2.out);have HB3:=Zh (HB2.out.setCell (p:=⟨w.heap.size+1,k,none⟩) (Nat.le_succ _) (.bool true));clear hv0;go_wp2_with fail;go_roundw
    case rel=>exact⟨k+1,by go_num,by omega,Zh ⟨_,HC3.out,HOK.out.set k true⟩,Zh ⟨HZ3.out,HB3.out⟩⟩
    case measure=>simp [intOf] <;> omega
end Go.Proofs.YtndjgbehbgcpkaaGreatDoor
