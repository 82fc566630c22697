/- The reference's reader of patterns: a class between brackets. -/
import Derived.Test.YtndjgbehbgcpkaaGreatDoorPri
set_option linter.unusedVariables false
set_option linter.unusedSimpArgs false
set_option maxRecDepth 100000
set_option maxHeartbeats 4000000
namespace Go.Proofs.YtndjgbehbgcpkaaGreatDoor
open Go Go.Proofs Go.RowKit Go.Ink Go.Sort
def Set8 (s:List UInt8)(a:Nat)(r:Option Nat):Prop:=(¬s[a]? =some 91∧r=none)∨(s[a]? =some 91∧Pars8 s (set0 s a) true r)
theorem Set8.det {s:List UInt8}{a:Nat}{r r':Option Nat}(h:Set8 s a r)(h':Set8 s a r'):r=r':=by
 rcases h with⟨h1,rfl⟩ | ⟨h1,h2⟩ <;> rcases h' with⟨k1,rfl⟩ | ⟨k1,k2⟩
 ·rfl
 ·exact absurd k1 h1
 ·exact absurd h1 k1
 ·exact h2.det k2
def ParsE (s:List UInt8)(a:Nat)(e:Ending):Prop:=∃(cs:Array Value) (n:Nat) (er:Int),e= .returned (.tuple #[.agg cs,.int .i64 (n:Int),.int .i64 er])∧SetC cs∧(er=0→a < n∧n≤s.length)∧Set8 s a (if er=0 then some n else none)
theorem ParsE.mk {s:List UInt8}{a:Nat}(cs:Array Value)(z:Int)(n:Nat)(hz:z=(n:Int))(er:Int)(h1:SetC cs)(h2:er=0→a < n∧n≤s.length)(h3:Set8 s a (if er=0 then some n else none)):ParsE s a (.returned (.tuple #[.agg cs,.int .i64 z,.int .i64 er])):=⟨cs,n,er,by rw [hz],h1,h2,h3⟩
theorem alloc3_0 (w:World)(a b c:Obj):(((w.alloc a).alloc b).alloc c).heap[w.heap.size]? =some a:=(Below.heap_alloc _ _ _ (by simp <;> omega)).trans (heap_alloc2_old _ _ _)
theorem alloc3_1 (w:World)(a b c:Obj):(((w.alloc a).alloc b).alloc c).heap[w.heap.size+1]? =some b:=(Below.heap_alloc _ _ _ (by simp <;> omega)).trans (heap_alloc2_new _ _ _)
theorem alloc3_2 (w:World)(a b c:Obj):(((w.alloc a).alloc b).alloc c).heap[w.heap.size+2]? =some c:=by
 have h:=heap_alloc2_new (w.alloc a) b c
 rwa [show(w.alloc a).heap.size+1=w.heap.size+2 by simp]at h
theorem alloc3_below (w:World)(a b c:Obj):Below w.heap.size w (((w.alloc a).alloc b).alloc c):=
 ((Zab w _).trans ((Zab _ _).mono (Zab w _).size)).trans ((Zab _ _).mono (by simp <;> omega))
def GeB (s:List UInt8)(i:Nat)(f:Bool)(v:Value):Prop:=∃b:Bool,v= .bool b∧(b=false→f=false∧s[i]? =some 93)∧(b=true→f=true∨¬s[i]? =some 93)
theorem GeB.mk {s:List UInt8}{i:Nat}{f:Bool}(b:Bool)(h:b=false→f=false∧s[i]? =some 93)(h2:b=true→f=true∨¬s[i]? =some 93):GeB s i f (.bool b):=⟨b,rfl,h,h2⟩
theorem refSetParse (s:List UInt8)(a:Nat)(w:World)(hs:s.length≤100000)(ha:a < s.length):
 Calls Tryz.prog 196 #[.string ⟨s.toArray⟩,.int .i64 (a:Int)] w fun e w'=>ParsE s a e∧Below w.heap.size w w':=by
 have hsz:=size_mk s;have HPA:=Zh (fun(X:World) (j:Nat) (hj:j≤100000)=>refPart s j X hs hj);go_enter Tryz.func196,Tryz.ntmps196;go_upto_region 2 with fail;generalize hwA:((w.alloc _).alloc _).alloc _=wA;have HZ:=Zh (show wA.heap[w.heap.size]? =some (.cells zset 148 (0,0)) from hwA▸alloc3_0 _ _ _ _);have HC:=Zh (show wA.heap[w.heap.size+1]? =some (.cells zset 148 (0,0)) from hwA▸alloc3_1 _ _ _ _);have HN:=Zh (show wA.heap[w.heap.size+2]? =some (.cells zset 148 (0,0)) from hwA▸alloc3_2 _ _ _ _);have HB:=Zh (show Below w.heap.size w wA from hwA▸alloc3_below _ _ _ _);have HOC:=Zh Zca;have HOK:=Zh Zca;clear hwA;have HSZ:=Zh (show(Tryz.prog.info? 148).map (·.size)=some (zset).size by rw [HOK.out.1];exact Zcp);have HON:=Zh HOK.out.one;have hki:(a:Int) < (s.length:Int):=by omega
 have hkn:¬(s.length:Int)≤(a:Int):=by omega
 have hk0:¬(a:Int) < 0:=by omega
 obtain⟨d,hkd⟩:∃d,s[a]? =some d:=⟨_,Zg ha⟩;have hby:=Zak hkd;have HKD:=Zh hkd;obtain⟨hz0,hz1,hz2,hz3⟩:=Zew a s.length ha;clear hkd
 by_cases h91:(d.toNat:Int)=91
 case neg=>
  have h91b:((d.toNat:Int)==91)=false:=Zf h91;have h91c:((d.toNat:Int) !=91)=true:=bne_iff_ne.2 h91;have HS8:=Zh (show Set8 s a none from .inl ⟨fun e=>by have:=Option.some.inj (HKD.out.symm.trans e);rw [this]at h91;exact h91 rfl,rfl⟩)
  go_wp2_with (first
   | (refine wpList_load_row rfl 148 _ (by with_reducible rfl) (w.heap.size+2) rfl 148 (zset) (0,0) _ HN.out Tryz.underlying148 rfl HSZ.out ?_)
   | (refine wpList_store_row rfl 148 _ _ (by with_reducible rfl) w.heap.size (zset) rfl rfl 148 zset HZ.out HSZ.out (Zca.1.trans HOK.out.1.symm) HON.out ?_))
  refine bodyPost_ret (v:= .tuple #[.agg (zset),.int .i64 (0),.int .i64 90]) (Zau (p:=4) (q:=5) (r:=6) (by kernel_rfl) _ _ w.heap.size 148 (zset) (0,0) _ _ _ rfl rfl rfl (setRow_heap _ _ _ _ _ _ HZ.out) Tryz.underlying148 rfl HSZ.out) rfl ?_;exact⟨.mk zset 0 0 rfl 90 HOK.out (fun h=>by cases h) HS8.out,Zah HB.out (Nat.le_refl _) _⟩
 have h91b:((d.toNat:Int)==91)=true:=Zt h91;have h91c:((d.toNat:Int) !=91)=false:=by rw [h91];rfl
 have HD91:=Zh (show s[a]? =some 91 by rw [HKD.out,u8_eq (n:=91) (by omega) h91];rfl);clear h91;go_upto_region 5 with fail
 go_cut [10] from 34 to 44 (fun v wx=>(∃x:Bool,v= .bool x∧(x=true→s[a+1]? =some 94)∧(x=false→¬s[a+1]? =some 94))∧wx=wA)
 case first=>
  by_cases hl2:a+1 < s.length
  case neg=>
   have hl2i:¬(a:Int)+1 < (s.length:Int):=by omega
   have HN9:=Zh (show¬s[a+1]? =some 94 by rw [List.getElem?_eq_none (by omega)];intro e;cases e);clear hl2;go_wp2_with fail;go_meet
   case rel=>exact⟨⟨false,rfl,fun h=>Bool.noConfusion h,fun _=>HN9.out⟩,rfl⟩
  have hl2i:(a:Int)+1 < (s.length:Int):=by omega
  obtain⟨f,hkf⟩:∃f,s[a+1]? =some f:=⟨_,Zg hl2⟩;have hby2:=Zak hkf;have HKF:=Zh hkf;clear hkf hl2
  by_cases h94:(f.toNat:Int)=94
  case pos=>
   have h94b:((f.toNat:Int)==94)=true:=Zt h94;have HN9:=Zh (show s[a+1]? =some 94 by rw [HKF.out,u8_eq (n:=94) (by omega) h94];rfl);clear h94;go_wp2_with fail;go_meet
   case rel=>exact⟨⟨_,rfl,fun _=>HN9.out,fun h=>Bool.noConfusion h⟩,rfl⟩
  have h94b:((f.toNat:Int)==94)=false:=Zf h94;have HN9:=Zh (show¬s[a+1]? =some 94 from fun e=>by have:=Option.some.inj (HKF.out.symm.trans e);rw [this]at h94;exact h94 rfl);go_wp2_with fail;go_meet
  case rel=>exact⟨⟨_,rfl,fun h=>Bool.noConfusion h,fun _=>HN9.out⟩,rfl⟩
 case rest=>
  obtain⟨⟨b,rfl,hb,hbn⟩,hw⟩:=hcut;subst hw;have HBN:=Zh hbn;clear hbn
  go_upto_if 44 with fail
  go_cut [9] from 44 to 47 (fun v wx=>(∃i:Nat,v= .int .i64 (i:Int)∧a < i∧i≤s.length∧i=set0 s a)∧wx=wc)
  case first=>
   cases b
   case false=>
    have HI0:=Zh (show a+1=set0 s a by unfold set0;rw [if_neg (HBN.out rfl)]);clear hb;go_wp2_with fail;go_meet
    case rel=>exact⟨⟨a+1,by go_num,by omega,by omega,HI0.out⟩,rfl⟩
   have HLB:=Zh (show a+2≤s.length from(List.getElem?_eq_some_iff.1 (hb rfl)).1);have HI0:=Zh (show a+2=set0 s a by unfold set0;rw [if_pos (hb rfl)]);clear hb;go_wp2_with fail;go_meet
   case rel=>exact⟨⟨a+2,by go_num,by omega,HLB.out,HI0.out⟩,rfl⟩
  case rest=>
   obtain⟨⟨i,rfl,hi1,hi2,hi0⟩,hw⟩:=hcut;subst hw;have HI0:=Zh hi0;clear hi0;clear HSZ HON HOK;go_wp2_with fail
   go_loopw [9,11,12,13,14,15] (fun iv fv _ _ _ _ wr=>∃(fb:Bool) (i:Nat),fv= .bool fb∧iv= .int .i64 (i:Int)∧a < i∧i≤s.length∧Hid (∀r,Pars8 s i fb r→Pars8 s (set0 s a) true r)∧Hid (∃cs,wr.heap[w.heap.size+1]? =some (.cells cs 148 (0,0))∧SetC cs)∧Hid (wr.heap[w.heap.size]? =some (.cells zset 148 (0,0))∧wr.heap[w.heap.size+2]? =some (.cells zset 148 (0,0))∧Below w.heap.size w wr)) (fun iv _ _ _ _ _ _=>s.length - (intOf iv).toNat)
   case atStart=>exact⟨true,i,rfl,rfl,hi1,hi2,Zh (fun r h=>HI0.out▸h),Zh ⟨_,HC.out,HOC.out⟩,Zh ⟨HZ.out,HN.out,HB.out⟩⟩
   case round=>
    clear HC HOC HZ HN HB HI0 hi1 hi2 i;obtain⟨fb,i,rfl,rfl,hi1,hi2,HPI8,HX,HY⟩:=hrel;obtain⟨cs,hcs,hok⟩:=HX.out;have HC:=Zh hcs;have HOC:=Zh hok;have HZ:=Zh HY.out.1;have HN:=Zh HY.out.2.1;have HB:=Zh HY.out.2.2;clear hcs hok HX HY;go_upto_region 9 with fail
    go_cut [59] from 47 to 60 (fun v wx=>GeB s i fb v∧wx=wr)
    case first=>
     cases fb
     case true=>
      go_wp2_with fail;go_meet
      case rel=>exact⟨.mk true (fun h=>Bool.noConfusion h) (fun _=> .inl rfl),rfl⟩
     by_cases hil:i < s.length
     case neg=>
      have hili:¬(i:Int) < (s.length:Int):=by omega
      have hilj:(s.length:Int)≤(i:Int):=by omega
      have HN9:=Zh (show¬s[i]? =some 93 by rw [List.getElem?_eq_none (by omega)];intro e;cases e);clear hil;go_wp2_with fail;go_meet
      case rel=>exact⟨.mk true (fun h=>Bool.noConfusion h) (fun _=> .inr HN9.out),rfl⟩
     have hili:(i:Int) < (s.length:Int):=by omega
     have hilj:¬(s.length:Int)≤(i:Int):=by omega
     obtain⟨x,hkx⟩:∃x,s[i]? =some x:=⟨_,Zg hil⟩;have hbx:=Zak hkx;have HKX:=Zh hkx;clear hkx hil
     by_cases h93:(x.toNat:Int)=93
     case pos=>
      have h93b:((x.toNat:Int)==93)=true:=Zt h93;have h93c:((x.toNat:Int) !=93)=false:=by rw [h93];rfl
      have HN9:=Zh (show s[i]? =some 93 by rw [HKX.out,u8_eq (n:=93) (by omega) h93];rfl);clear h93;go_wp2_with fail;go_meet
      case rel=>exact⟨.mk false (fun _=>⟨rfl,HN9.out⟩) (fun h=>Bool.noConfusion h),rfl⟩
     have h93b:((x.toNat:Int)==93)=false:=Zf h93;have h93c:((x.toNat:Int) !=93)=true:=bne_iff_ne.2 h93;have HN9:=Zh (show¬s[i]? =some 93 from fun e=>by have:=Option.some.inj (HKX.out.symm.trans e);rw [this]at h93;exact h93 rfl);go_wp2_with fail;go_meet
     case rel=>exact⟨.mk true (fun h=>Bool.noConfusion h) (fun _=> .inr HN9.out),rfl⟩
    case rest=>
     obtain⟨⟨b3,rfl,hb3,hb4⟩,hw⟩:=hcut;subst hw;have HB4:=Zh hb4;clear hb4;cases b3
     case false=>
      have HIL:=Zh (show a < i+1∧i+1≤s.length from⟨by omega,(List.getElem?_eq_some_iff.1 (hb3 rfl).2).1⟩);have HS8:=Zh (show Set8 s a (some (i+1)) from .inr ⟨HD91.out,HPI8.out _ (by rw [(hb3 rfl).1];exact .stop i (hb3 rfl).2)⟩);have hi3:(i:Int)+1≤(s.length:Int):=by have:=HIL.out;omega
      clear hb3 hi1;go_wp2_with fail
      go_loopw [16] (fun kv wr=>∃k:Nat,kv= .int .i64 (k:Int)∧k≤256∧Hid (∃cs,wr.heap[w.heap.size+1]? =some (.cells cs 148 (0,0))∧SetC cs)∧Hid (wr.heap[w.heap.size]? =some (.cells zset 148 (0,0))∧wr.heap[w.heap.size+2]? =some (.cells zset 148 (0,0))∧Below w.heap.size w wr)) (fun kv _=>256 - (intOf kv).toNat)
      case atStart=>exact⟨0,rfl,by omega,Zh ⟨_,HC.out,HOC.out⟩,Zh ⟨HZ.out,HN.out,HB.out⟩⟩
      case round=>
       clear HC HOC HZ HN HB;obtain⟨k,rfl,hk,HX,HY⟩:=hrel;obtain⟨cs,hcs,hok⟩:=HX.out;have HC:=Zh hcs;have HOC:=Zh hok;have HZ:=Zh HY.out.1;have HN:=Zh HY.out.2.1;have HB:=Zh HY.out.2.2;clear hcs hok HX HY
       by_cases hlt:k < 256
       case neg=>
        have hki2:¬(k:Int) < 256:=by omega
        clear hlt;have HSZ:=Zh (show(Tryz.prog.info? 148).map (·.size)=some (cs).size by rw [HOC.out.1];exact Zcp);have HON:=Zh HOC.out.one
        go_wp2_with (first
         | (refine wpList_load_row rfl 148 _ (by with_reducible rfl) (w.heap.size+1) rfl 148 (cs) (0,0) _ HC.out Tryz.underlying148 rfl HSZ.out ?_)
         | (refine wpList_store_row rfl 148 _ _ (by with_reducible rfl) w.heap.size (cs) rfl rfl 148 zset HZ.out HSZ.out (Zca.1.trans HOC.out.1.symm) HON.out ?_))
        refine bodyPost_ret (v:= .tuple #[.agg (cs),.int .i64 ((i:Int)+1),.int .i64 0]) (Zau (p:=4) (q:=5) (r:=6) (by kernel_rfl) _ _ w.heap.size 148 (cs) (0,0) _ _ _ rfl rfl rfl (setRow_heap _ _ _ _ _ _ HZ.out) Tryz.underlying148 rfl HSZ.out) rfl ?_;exact⟨.mk cs _ (i+1) (by omega) 0 HOC.out (fun _=>HIL.out) HS8.out,Zah HB.out (Nat.le_refl _) _⟩
       have hki2:(k:Int) < 256:=by omega
       cases b
       case false=>
        have HSZ:=Zh (show(Tryz.prog.info? 148).map (·.size)=some (cs).size by rw [HOC.out.1];exact Zcp);have HON:=Zh HOC.out.one
        go_wp2_with (first
         | (refine wpList_load_row rfl 148 _ (by with_reducible rfl) (w.heap.size+1) rfl 148 (cs) (0,0) _ HC.out Tryz.underlying148 rfl HSZ.out ?_)
         | (refine wpList_store_row rfl 148 _ _ (by with_reducible rfl) w.heap.size (cs) rfl rfl 148 zset HZ.out HSZ.out (Zca.1.trans HOC.out.1.symm) HON.out ?_))
        refine bodyPost_ret (v:= .tuple #[.agg (cs),.int .i64 ((i:Int)+1),.int .i64 0]) (Zau (p:=4) (q:=5) (r:=6) (by kernel_rfl) _ _ w.heap.size 148 (cs) (0,0) _ _ _ rfl rfl rfl (setRow_heap _ _ _ _ _ _ HZ.out) Tryz.underlying148 rfl HSZ.out) rfl ?_;exact⟨.mk cs _ (i+1) (by omega) 0 HOC.out (fun _=>HIL.out) HS8.out,Zah HB.out (Nat.le_refl _) _⟩
       obtain⟨v0,hv0⟩:=HOC.out.2 k hlt;have u0:wr.cell? ⟨w.heap.size+1,k,none⟩=some (.bool v0):=by rw [Lib.cell_of_heap HC.out];exact hv0
       have g0:wr.frozen? ⟨w.heap.size+1,k,none⟩=false:=Lib.frozen_of_heap HC.out k;have HC3:=Zh (Zay (j:=k) HC.out (.bool (!v0)));have HZ3:=Zh (show(wr.setCell ⟨w.heap.size+1,k,none⟩ (.bool (!v0))).heap[w.heap.size]? =some (.cells zset 148 (0,0)) from(Below.heap_setCell _ _ _ _ (show w.heap.size≠w.heap.size+1 by omega)).trans HZ.out);have HN3:=Zh (show(wr.setCell ⟨w.heap.size+1,k,none⟩ (.bool (!v0))).heap[w.heap.size+2]? =some (.cells zset 148 (0,0)) from(Below.heap_setCell _ _ _ _ (show w.heap.size+2≠w.heap.size+1 by omega)).trans HN.out);have HB3:=Zh (HB.out.setCell (p:=⟨w.heap.size+1,k,none⟩) (Nat.le_succ _) (.bool (!v0)));clear hv0;go_wp2_with fail;go_roundw
       case rel=>exact⟨k+1,by go_num,by omega,Zh ⟨_,HC3.out,HOC.out.set k (!v0)⟩,Zh ⟨HZ3.out,HN3.out,HB3.out⟩⟩
       case measure=>simp [intOf] <;> omega
     clear hb3;have HPI:=Zh (HPA.out wc i (by omega));go_upto_region 11 with fail;go_wp2_with fail;refine HPI.out.mono ?_;rintro e w2 ⟨⟨cp,n,ok,rfl,hcp,hn,hp8⟩,hb2⟩;have HP8:=Zh hp8;clear hp8;have HCP:=Zh hcp;have HNN:=Zh hn;have HB2:=Zh hb2;clear hcp hn hb2 HPI HPA;go_upto_region 12 with(refine wpList_store_row rfl 148 _ _ (by with_reducible rfl) _ cp rfl rfl 148 zset (Zae _ _) (by rw [HCP.out.1];exact Zcp) (Zca.1.trans HCP.out.1.symm) HCP.out.one ?_);have hbN:=Zab w2 (.cells zset 148);have hwl:w.heap.size+2 < w2.heap.size:=Nat.lt_of_lt_of_le (Zaa HN.out) HB2.out.size;have HP:=Zh (setRow_heap _ _ _ cp _ _ (Zae w2 (.cells zset 148)));have HZP:=Zh ((setRow_other (w2.alloc (.cells zset 148)) _ _ cp (show w.heap.size≠w2.heap.size by omega)).trans ((hbN.block _ (by omega)).trans ((HB2.out.block _ (Zaa HZ.out)).trans HZ.out)));have HNP:=Zh ((setRow_other (w2.alloc (.cells zset 148)) _ _ cp (show w.heap.size+2≠w2.heap.size by omega)).trans ((hbN.block _ (by omega)).trans ((HB2.out.block _ (Zaa HN.out)).trans HN.out)));have HCX:=Zh ((setRow_other (w2.alloc (.cells zset 148)) _ _ cp (show w.heap.size+1≠w2.heap.size by omega)).trans ((hbN.block _ (by omega)).trans ((HB2.out.block _ (Zaa HC.out)).trans HC.out)));have HBP:=Zh (Zah ((HB.out.trans (HB2.out.mono HB.out.size)).trans (hbN.mono (by omega))) (show w.heap.size≤w2.heap.size by omega) cp);have HWL:=Zh hwl;clear hbN hwl HZ HN HC HB HB2;change Code.wp _ _ _ _ ((w2.alloc (.cells zset 148)).setRow w2.heap.size cp);generalize (w2.alloc (.cells zset 148)).setRow w2.heap.size cp=wP at *;obtain⟨gp,hgp⟩:∃gp,w2.heap.size=gp:=⟨_,rfl⟩;rw [hgp]at HP HWL ⊢;clear hgp;cases ok
     case false=>
      have HOK:=Zh Zca;have HS8:=Zh (show Set8 s a none from .inr ⟨HD91.out,HPI8.out _ (.bad i fb (HB4.out (by first | rfl | trivial)) HP8.out)⟩);have HSZ:=Zh (show(Tryz.prog.info? 148).map (·.size)=some (zset).size by rw [HOK.out.1];exact Zcp);have HON:=Zh HOK.out.one
      go_wp2_with (first
       | (refine wpList_load_row rfl 148 _ (by with_reducible rfl) (w.heap.size+1+1) rfl 148 (zset) (0,0) _ HNP.out Tryz.underlying148 rfl HSZ.out ?_)
       | (refine wpList_store_row rfl 148 _ _ (by with_reducible rfl) w.heap.size (zset) rfl rfl 148 zset HZP.out HSZ.out (Zca.1.trans HOK.out.1.symm) HON.out ?_))
      refine bodyPost_ret (v:= .tuple #[.agg (zset),.int .i64 (0),.int .i64 90]) (Zau (p:=4) (q:=5) (r:=6) (by kernel_rfl) _ _ w.heap.size 148 (zset) (0,0) _ _ _ rfl rfl rfl (setRow_heap _ _ _ _ _ _ HZP.out) Tryz.underlying148 rfl HSZ.out) rfl ?_;exact⟨.mk zset 0 0 rfl 90 HOK.out (fun h=>by cases h) HS8.out,Zah HBP.out (Nat.le_refl _) _⟩
     have HIN:=Zh (show i < n∧n≤s.length from HNN.out rfl);have HNX:=Zh (show∀r,Pars8 s n false r→Pars8 s (set0 s a) true r from fun r h=>HPI8.out r (.step i fb n r (HB4.out (by first | rfl | trivial)) HP8.out h));clear HNN;go_wp2_with fail
     go_loopw [15] (fun kv wr=>∃k:Nat,kv= .int .i64 (k:Int)∧k≤256∧Hid (∃cs,wr.heap[w.heap.size+1]? =some (.cells cs 148 (0,0))∧SetC cs)∧Hid (wr.heap[w.heap.size]? =some (.cells zset 148 (0,0))∧wr.heap[w.heap.size+2]? =some (.cells zset 148 (0,0))∧Below w.heap.size w wr)∧Hid (wr.heap[gp]? =some (.cells cp 148 (0,0)))) (fun kv _=>256 - (intOf kv).toNat)
     case atStart=>exact⟨0,rfl,by omega,Zh ⟨_,HCX.out,HOC.out⟩,Zh ⟨HZP.out,HNP.out,HBP.out⟩,HP⟩
     case round=>
      clear HCX HOC HZP HNP HBP HP;obtain⟨k,rfl,hk,HX,HY,HP⟩:=hrel;obtain⟨cs,hcs,hok⟩:=HX.out;have HC:=Zh hcs;have HOC:=Zh hok;have HZ:=Zh HY.out.1;have HN:=Zh HY.out.2.1;have HB:=Zh HY.out.2.2;clear hcs hok HX HY
      by_cases hlt:k < 256
      case neg=>
       have hki2:¬(k:Int) < 256:=by omega
       clear hlt;go_wp2_with fail;go_roundw
       case rel=>exact⟨false,n,rfl,rfl,by have:=HIN.out;omega,HIN.out.2,HNX,Zh ⟨_,HC.out,HOC.out⟩,Zh ⟨HZ.out,HN.out,HB.out⟩⟩
       case measure=>have:=HIN.out;simp [intOf] <;> omega
      have hki2:(k:Int) < 256:=by omega
      obtain⟨v0,hv0⟩:=HOC.out.2 k hlt;obtain⟨v1,hv1⟩:=HCP.out.2 k hlt;have u0:wr.cell? ⟨w.heap.size+1,k,none⟩=some (.bool v0):=by rw [Lib.cell_of_heap HC.out];exact hv0
      have g0:wr.frozen? ⟨w.heap.size+1,k,none⟩=false:=Lib.frozen_of_heap HC.out k;have u1:wr.cell? ⟨gp,k,none⟩=some (.bool v1):=by rw [Lib.cell_of_heap HP.out];exact hv1
      have HPK:=Zh (fun(v:Value)=>show(wr.setCell ⟨w.heap.size+1,k,none⟩ v).heap[gp]? =some (.cells cp 148 (0,0)) from(Below.heap_setCell _ _ _ _ (show gp≠w.heap.size+1 by have:=HWL.out;omega)).trans HP.out);clear hv0 hv1;cases v0
      case true=>
       have HC3:=Zh (Zay (j:=k) HC.out (.bool true));have HZ3:=Zh (show(wr.setCell ⟨w.heap.size+1,k,none⟩ (.bool true)).heap[w.heap.size]? =some (.cells zset 148 (0,0)) from(Below.heap_setCell _ _ _ _ (show w.heap.size≠w.heap.size+1 by omega)).trans HZ.out);have HN3:=Zh (show(wr.setCell ⟨w.heap.size+1,k,none⟩ (.bool true)).heap[w.heap.size+2]? =some (.cells zset 148 (0,0)) from(Below.heap_setCell _ _ _ _ (show w.heap.size+2≠w.heap.size+1 by omega)).trans HN.out);have HB3:=Zh (HB.out.setCell (p:=⟨w.heap.size+1,k,none⟩) (Nat.le_succ _) (.bool true));go_wp2_with fail;go_roundw
       case rel=>exact⟨k+1,by go_num,by omega,Zh ⟨_,HC3.out,HOC.out.set k true⟩,Zh ⟨HZ3.out,HN3.out,HB3.out⟩,Zh (HPK.out _)⟩
       case measure=>simp [intOf] <;> omega
      have HC3:=Zh (Zay (j:=k) HC.out (.bool v1));have HZ3:=Zh (show(wr.setCell ⟨w.heap.size+1,k,none⟩ (.bool v1)).heap[w.heap.size]? =some (.cells zset 148 (0,0)) from(Below.heap_setCell _ _ _ _ (show w.heap.size≠w.heap.size+1 by omega)).trans HZ.out);have HN3:=Zh (show(wr.setCell ⟨w.heap.size+1,k,none⟩ (.bool v1)).heap[w.heap.size+2]? =some (.cells zset 148 (0,0)) from(Below.heap_setCell _ _ _ _ (show w.heap.size+2≠w.heap.size+1 by omega)).trans HN.out);have HB3:=Zh (HB.out.setCell (p:=⟨w.heap.size+1,k,none⟩) (Nat.le_succ _) (.bool v1));go_wp2_with fail;go_roundw
      case rel=>exact⟨k+1,by go_num,by omega,Zh ⟨_,HC3.out,HOC.out.set k v1⟩,Zh ⟨HZ3.out,HN3.out,HB3.out⟩,Zh (HPK.out _)⟩
      case measure=>simp [intOf] <;> omega
open Go Go.Proofs Go.RowKit Go.Ink Go.Sort
def bnd (s:List UInt8)(a:Nat):Int×Bool×Int×Nat:=
 if isB s (dig s a).2.2 [44]=true then((dig s a).1,(dig s a).2.1,(if (dig s ((dig s a).2.2+1)).2.1=true then(dig s ((dig s a).2.2+1)).1 else -1),(dig s ((dig s a).2.2+1)).2.2)
 else((dig s a).1,(dig s a).2.1,(dig s a).1,(dig s a).2.2)
def badB (s:List UInt8)(x:Int×Bool×Int×Nat):Bool:=!x.2.1 || !isB s x.2.2.2 [92,125] || (decide (0≤x.2.2.1) && decide (x.2.2.1 < x.1)) || decide (255 < x.1) || decide (255 < x.2.2.1)
inductive Times9 (s:List UInt8):Nat→Nat→Nat×Nat×Bool→Prop
 | stop (a mn:Nat):isB s a [42]=false→isB s a [92,123]=false→Times9 s a mn (a,mn,false)
 | star (a mn:Nat) (r:Nat×Nat×Bool):isB s a [42]=true→Times9 s (a+1) (mn+1) r→Times9 s a mn r
 | bad (a mn:Nat):isB s a [42]=false→isB s a [92,123]=true→badB s (bnd s (a+2))=true→Times9 s a mn ((bnd s (a+2)).2.2.2,mn,true)
 | more (a mn:Nat) (r:Nat×Nat×Bool):isB s a [42]=false→isB s a [92,123]=true→badB s (bnd s (a+2))=false→Times9 s ((bnd s (a+2)).2.2.2+2) (mn+1) r→Times9 s a mn r
theorem Times9.det {s:List UInt8}{a mn:Nat}{r r':Nat×Nat×Bool}(h:Times9 s a mn r)(h':Times9 s a mn r'):r=r':=by
 induction h generalizing r' with
 | stop a mn h1 h2=>cases h' <;> simp_all
 | star a mn r h1 _ ih=>
   cases h' with
   | star _ _ _ _ h=>exact ih h
   | stop _ _ h2=>rw [h1]at h2;cases h2
   | bad _ _ h2=>rw [h1]at h2;cases h2
   | more _ _ _ h2=>rw [h1]at h2;cases h2
 | bad a mn h1 h2 h3=>cases h' <;> simp_all
 | more a mn r h1 h2 h3 _ ih=>
   cases h' with
   | star _ _ _ h4=>rw [h1]at h4;cases h4
   | stop _ _ _ h4=>rw [h2]at h4;cases h4
   | bad _ _ _ _ h4=>rw [h3]at h4;cases h4
   | more _ _ _ _ _ _ h=>exact ih h
structure Out9 where
 a:Nat
 gr:Nat
 mn:Nat
 bd:Bool
 en:Nat→Bool
inductive In9
 | part (f g:Bool) (st:Out9)
 | slash (st:Out9)
 | row (f g:Bool) (st:Out9)
def kcls (k:Int):Nat:=if k=4 then 4 else if k=5 then 5 else 0
def kindP (s:List UInt8)(f:Bool)(a:Nat)(c:UInt8):Nat:=
 if c=94∧f=true then 4 else if c=36∧(a+1=s.length∨isB s a [36,92,41]=true) then 5 else 0
def badP (f g:Bool)(c:UInt8):Bool:=c==42 && !f && !g
def endG (s:List UInt8)(n:Nat)(r:Out9):Out9:=if isB s r.a [92,41]=true∧n≤9 then { r with a:=r.a+2,en:=fun j=>if j=n then true else r.en j } else { r with bd:=true }
def goB (s:List UInt8)(st:Out9):Bool:=!st.bd && decide (st.a < s.length) && !isB s st.a [92,41] && decide (st.gr < 900)
inductive R9 (s:List UInt8):In9→Nat→Out9→Prop
 | slash (f g:Bool) (st r:Out9):s[st.a]? =some 92→R9 s (.slash st) 0 r→R9 s (.part f g st) 0 r
 | setNo (f g:Bool) (st:Out9):s[st.a]? =some 91→Set8 s st.a none→R9 s (.part f g st) 0 { st with bd:=true }
 | setYes (f g:Bool) (st:Out9) (n:Nat):s[st.a]? =some 91→Set8 s st.a (some n)→R9 s (.part f g st) 0 { st with a:=n,mn:=st.mn+1 }
 | other (f g:Bool) (st:Out9) (c:UInt8):s[st.a]? =some c→¬c=92→¬c=91→R9 s (.part f g st) (kindP s f st.a c) { st with a:=st.a+1,mn:=st.mn+1,bd:=badP f g c }
 | last (st:Out9):st.a+1=s.length→R9 s (.slash st) 0 { st with bd:=true }
 | group (st r:Out9) (k:Nat):s[st.a+1]? =some 40→R9 s (.row true false { st with a:=st.a+2,gr:=st.gr+1,mn:=st.mn+1 }) k r→R9 s (.slash st) 0 (endG s (st.gr+1) r)
 | ref (st:Out9) (c:UInt8):s[st.a+1]? =some c→49≤c.toNat→c.toNat≤57→R9 s (.slash st) 0 { st with a:=st.a+2,mn:=st.mn+1,bd:=!st.en (c.toNat - 48) }
 | byte (st:Out9) (c:UInt8):s[st.a+1]? =some c→¬c=40→¬(49≤c.toNat∧c.toNat≤57)→R9 s (.slash st) 0 { st with a:=st.a+2,mn:=st.mn+1,bd:=c==41 || c==123 || c==125 }
 | stop (f g:Bool) (st:Out9):goB s st=false→R9 s (.row f g st) 0 st
 | step (f g:Bool) (st st1 r:Out9) (k j:Nat):goB s st=true→R9 s (.part f g st) k st1→(st1.bd=true∨k=4∨k=5)→R9 s (.row false (k==4) st1) j r→R9 s (.row f g st) 0 r
 | times (f g:Bool) (st st1 r:Out9) (k j:Nat) (x:Nat×Nat×Bool):goB s st=true→R9 s (.part f g st) k st1→¬(st1.bd=true∨k=4∨k=5)→Times9 s st1.a st1.mn x→R9 s (.row false (k==4) { st1 with a:=x.1,mn:=x.2.1,bd:=x.2.2 }) j r→R9 s (.row f g st) 0 r
theorem R9.det {s:List UInt8}{i:In9}{k k':Nat}{o o':Out9}(h:R9 s i k o)(h':R9 s i k' o'):k=k'∧o=o':=by
 induction h generalizing k' o' with
 | slash f g st r h1 _ ih=>
   cases h' with
   | slash _ _ _ _ _ h2=>exact ih h2
   | setNo _ _ _ h2=>simp [h1]at h2
   | setYes _ _ _ _ h2=>simp [h1]at h2
   | other _ _ _ c h2 h3=>simp [h1]at h2;exact absurd h2.symm h3
 | setNo f g st h1 h2=>
   cases h' with
   | slash _ _ _ _ h3=>simp [h1]at h3
   | setNo=>exact⟨rfl,rfl⟩
   | setYes _ _ _ n h3 h4=>have:=h2.det h4;cases this
   | other _ _ _ c h3 h4 h5=>simp [h1]at h3;exact absurd h3.symm h5
 | setYes f g st n h1 h2=>
   cases h' with
   | slash _ _ _ _ h3=>simp [h1]at h3
   | setNo _ _ _ h3 h4=>have:=h2.det h4;cases this
   | setYes _ _ _ n h3 h4=>have:=h2.det h4;simp only [Option.some.injEq]at this;subst this;exact⟨rfl,rfl⟩
   | other _ _ _ c h3 h4 h5=>simp [h1]at h3;exact absurd h3.symm h5
 | other f g st c h1 h2 h3=>
   cases h' with
   | slash _ _ _ _ h4=>simp [h1]at h4;exact absurd h4 h2
   | setNo _ _ _ h4=>simp [h1]at h4;exact absurd h4 h3
   | setYes _ _ _ _ h4=>simp [h1]at h4;exact absurd h4 h3
   | other _ _ _ c h4=>simp [h1]at h4;subst h4;exact⟨rfl,rfl⟩
 | last st h1=>
   have hn:s[st.a+1]? =none:=List.getElem?_eq_none (by omega);cases h' with
   | last=>exact⟨rfl,rfl⟩
   | group _ _ _ h2=>simp [hn]at h2
   | ref _ _ h2=>simp [hn]at h2
   | byte _ _ h2=>simp [hn]at h2
 | group st r k h1 _ ih=>
   cases h' with
   | last _ h2=>rw [List.getElem?_eq_none (by omega)]at h1;cases h1
   | group _ _ _ _ h2=>rw [(ih h2).2];exact⟨rfl,rfl⟩
   | ref _ _ h2 h3=>simp [h1]at h2;subst h2;exact absurd h3 (by decide)
   | byte _ _ h2 h3=>simp [h1]at h2;exact absurd h2.symm h3
 | ref st c h1 h2 h3=>
   cases h' with
   | last _ h4=>rw [List.getElem?_eq_none (by omega)]at h1;cases h1
   | group _ _ _ h4=>simp [h1]at h4;subst h4;exact absurd h2 (by decide)
   | ref _ _ h4=>simp [h1]at h4;subst h4;exact⟨rfl,rfl⟩
   | byte _ _ h4 _ h5=>simp [h1]at h4;subst h4;exact absurd ⟨h2,h3⟩ h5
 | byte st c h1 h2 h3=>
   cases h' with
   | last _ h4=>rw [List.getElem?_eq_none (by omega)]at h1;cases h1
   | group _ _ _ h4=>simp [h1]at h4;exact absurd h4 h2
   | ref _ _ h4 h5 h6=>simp [h1]at h4;subst h4;exact absurd ⟨h5,h6⟩ h3
   | byte _ _ h4=>simp [h1]at h4;subst h4;exact⟨rfl,rfl⟩
 | stop f g st h1=>
   cases h' with
   | stop=>exact⟨rfl,rfl⟩
   | step _ _ _ _ _ _ _ h2=>rw [h1]at h2;cases h2
   | times _ _ _ _ _ _ _ _ h2=>rw [h1]at h2;cases h2
 | step f g st st1 r k j h1 _ h3 _ ih1 ih2=>
   cases h' with
   | stop _ _ _ h4=>rw [h1]at h4;cases h4
   | step _ _ _ _ _ _ _ _ h5 _ h7=>
     obtain⟨rfl,rfl⟩:=ih1 h5;exact⟨rfl,(ih2 h7).2⟩
   | times _ _ _ _ _ _ _ _ _ h5 h6=>
     obtain⟨rfl,rfl⟩:=ih1 h5;exact absurd h3 h6
 | times f g st st1 r k j x h1 _ h3 h4 _ ih1 ih2=>
   cases h' with
   | stop _ _ _ h5=>rw [h1]at h5;cases h5
   | step _ _ _ _ _ _ _ _ h5 h6=>
     obtain⟨rfl,rfl⟩:=ih1 h5;exact absurd h6 h3
   | times _ _ _ _ _ _ _ _ _ h5 _ h7 h8=>
     obtain⟨rfl,rfl⟩:=ih1 h5;obtain rfl:=h4.det h7;exact⟨rfl,(ih2 h8).2⟩
end Go.Proofs.YtndjgbehbgcpkaaGreatDoor
