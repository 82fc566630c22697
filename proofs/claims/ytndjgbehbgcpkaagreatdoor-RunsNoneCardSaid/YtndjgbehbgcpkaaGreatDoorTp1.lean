/- Templates: a template is read, or none. Printed by gtp1.py. -/
import Derived.Test.YtndjgbehbgcpkaaGreatDoorCb9
import Derived.Test.YtndjgbehbgcpkaaGreatDoorBr0
import Derived.Test.YtndjgbehbgcpkaaGreatDoorInv
import Derived.Deep.AppendLies
import Derived.Deep.LoopGhost
import Derived.Deep.Cut
set_option linter.unusedVariables false
set_option linter.unusedSimpArgs false
set_option maxRecDepth 100000
set_option maxHeartbeats 4000000
namespace Go.Proofs.YtndjgbehbgcpkaaGreatDoor
open Go Go.Proofs Go.RowKit Go.Ink Go.Sort
theorem pc_parts:∃(ie:TypeInfo) (z:Value),Tryz.prog.info? 204=some ie∧ie.zero=some z∧ie.size=1∧ie.bytes=16∧z.cells.size=1:=by
 have h:(Tryz.prog.info? 204).map (fun i=>(i.size,i.bytes,i.zero.map fun z=>z.cells.size))=some (1,16,some 1):=by kernel_rfl
 cases hi:Tryz.prog.info? 204 with
 | none=>rw [hi]at h;cases h
 | some ie=>
   rw [hi]at h;simp only [Option.map_some,Option.some.injEq,Prod.mk.injEq]at h;obtain⟨h1,h2,h3⟩:=h;cases hz:ie.zero with
   | none=>rw [hz]at h3;cases h3
   | some z=>
     rw [hz]at h3;simp only [Option.map_some,Option.some.injEq]at h3;exact⟨ie,z,rfl,hz,h1,h2,h3⟩
theorem Zev {ops:Array Oper}{o:Oper}{a:Act}{w:World}{K:Act→World→Prop}{Q:Exit→Act→World→Prop}{E:Prop}{v:Value}{n B:Nat}(hgd:o.guard=none)(s x:Operand)
 (ho:o.op= .call { callee:= .builtin .append,args:=#[s,x],argTypes:=#[198,198] })
 (hs:a.eval s=v) (hown:Zdf w B v n) (hB:B≤w.heap.size) (b:Nat) (hx:a.eval x= .slice (some ⟨b,0,none⟩) 1 1) (y:Value) (hy:PcV y) (T:TypeId) (hb:w.heap[b]? =some (.cells #[y] T (0,0))) (hn:n≤1000000)
 (h:∀g cap w',Zdf w' B (.slice (some ⟨g,0,none⟩) (n+1) cap) (n+1)→w.grownBy w' v.ownBlock→(v.ownBlock=some g∨g=w.heap.size)→g < w'.heap.size→K (a.put o.dst (.slice (some ⟨g,0,none⟩) (n+1) cap)) w'):
 if Region.wanted o (yielded ops a.tmps)=true then Oper.wp Tryz.prog o a w K Q else E:=by
 obtain⟨i0,z,hi,hz0,hz1,hz2,hz3⟩:=pc_parts;obtain⟨xs,hl,hp,hown⟩:=hown;refine step_append_lies w hgd s x 198 ho B 204 i0 z 1 16 Tryz.underlying198 hi hz0 hz1 hz2 hz3 (by decide) v n xs hs hown ⟨b,0,none⟩ 1 1 [y] hx rfl ?_ ?_ (by omega) (by unfold maxLen;omega) (by omega) hB _ rfl ?_
 ·exact fun j u hj=>World.news_of_block hb j u (by simpa using hj)
 ·intro u hu
  obtain rfl:=List.mem_singleton.1 hu;exact hy.one
 ·intro g cap w' k1 k2 k3 k4
  refine h g cap w' ⟨_,by rw [List.length_append,hl];rfl,fun q hq=>?_,k1⟩ k2 k3 k4;rcases List.mem_append.1 hq with hq | hq
  ·exact hp q hq
  ·obtain rfl:=List.mem_singleton.1 hq
   exact hy
theorem PcV.iface {v:Value}(h:PcV v):∃T u,v= .iface T u:=by
 rcases h with⟨z,rfl⟩ | ⟨t,rfl⟩
 ·exact⟨_,_,rfl⟩
 ·exact⟨_,_,rfl⟩
theorem pcs_far {w:World}{B n:Nat}{v:Value}{k:Nat}{cs:Array Value}{T:TypeId}{fr:Nat×Nat}(h:Zdf w B v n)(hk:w.heap[k]? =some (.cells cs T fr))(hT:T≠204):v.ownBlock≠some k:=fun e=>by
 obtain⟨_,cs',fr',hh⟩:=h.kind e;rw [hk]at hh;simp only [Option.some.injEq,Obj.cells.injEq]at hh;exact hT hh.2.1
def TpAt (w:World)(g:Nat)(v:Value):Prop:=w.heap[g]? =some (.cells #[v] 200 (0,0))
section
variable {w w':World}{g:Nat}{v:Value}
theorem TpAt.c0 (h:TpAt w g v):w.cell? ⟨g,0,none⟩=some v:=by rw [Lib.cell_of_heap h];rfl
theorem TpAt.fz (h:TpAt w g v)(j:Nat):w.frozen? ⟨g,j,none⟩=false:=Lib.frozen_of_heap h j
theorem TpAt.later (h:TpAt w g v)(hb:Below w.heap.size w w'):TpAt w' g v:=(hb.block g (Zaa h)).trans h
theorem TpAt.kept {S:Nat→Prop}(h:TpAt w g v)(hk:KeepT S w w')(hn:¬S g):TpAt w' g v:=(hk.block g (Zaa h) hn).trans h
theorem TpAt.set (h:TpAt w g v)(u:Value):TpAt (w.setCell ⟨g,0,none⟩ u) g u:=Zay (j:=0) h u
end
def TpW (w0 w:World)(g:Nat)(v:Value)(n:Nat):Prop:=TpAt w g v∧Zdf w w0.heap.size v n∧Below w0.heap.size w0 w
theorem TpW.later {w0 w w':World}{g n:Nat}{v:Value}(h:TpW w0 w g v n)(hb:Below w.heap.size w w'):TpW w0 w' g v n:=⟨h.1.later hb,h.2.1.later hb,h.2.2.trans (hb.mono h.2.2.size)⟩
theorem TpW.drew {w0 w:World}{g n:Nat}{v:Value}(h:TpW w0 w g v n):TpW w0 w.drew g v n:=h.later (Below.refl w.heap.size w).drew
theorem TpW.grown {w0 w wE:World}{g g1 cap n:Nat}{v:Value}(h:TpW w0 w g v n)(hg:w0.heap.size≤g)(hgr:w.grownBy wE v.ownBlock)(ho:Zdf wE w0.heap.size (.slice (some ⟨g1,0,none⟩) (n+1) cap) (n+1)):TpAt wE g v∧TpW w0 (wE.setCell ⟨g,0,none⟩ (.slice (some ⟨g1,0,none⟩) (n+1) cap)) g (.slice (some ⟨g1,0,none⟩) (n+1) cap) (n+1):=by
 have hE:TpAt wE g v:=h.1.kept (Zdb hgr) (pcs_far h.2.1 h.1 (by decide));have hk:=(KeepT.refl (fun j=>j=g) wE).setCell (p:=⟨g,0,none⟩) (.inl rfl) (.slice (some ⟨g1,0,none⟩) (n+1) cap);have hb:=h.2.2.trans (Zeh hgr h.2.2.size (fun k hk=>(h.2.1.kind hk).1));exact⟨hE,hE.set _,ho.kept hk (fun k hk2 e=>pcs_far ho hE (by decide) (e▸hk2)),hb.trans (hk.below hb.size (fun k hk=>by omega))⟩
theorem tplParse:TplP:=by
 intro s0 w hs0;have HIX:=Zh (fun(s:List UInt8) (X:World) (hs:s.length≤100000)=>idxAny 38 92 (by decide) (by decide) s hs X);go_enter Tryz.func100,Tryz.ntmps100;go_upto_region 2 with fail;generalize hwA:w.alloc _=wA;have HW:=Zh (show TpW w wA w.heap.size (.slice none 0 0) 0 from hwA▸⟨Zae _ _,Zdf.nil _ _,Zab w _⟩);clear hwA;go_wp2_with fail
 go_loopg [0,5] s0.length (fun g sv _ wr=>∃(s:List UInt8) (lv:Value) (n:Nat),sv= .string ⟨s.toArray⟩∧s.length=g∧s.length≤100000∧Hid (TpW w wr w.heap.size lv n)∧n+s.length≤100000)
 case atStart=>exact⟨s0,_,0,rfl,rfl,hs0,HW,by omega⟩
 case round=>
  clear HW;obtain⟨s,lv,n,rfl,hg,hs,HT,hn⟩:=hrel;obtain⟨ao,cap,hlv⟩:=HT.out.2.1.shape;subst hlv;have hsz:=size_mk s
  by_cases h0:s=[]
  case pos=>
   subst h0;have HN:=Zh hn;clear hs hn;go_wp2_with fail;go_returns;exact⟨⟨_,_,rfl,.inr ⟨_,_,n,rfl,HT.out.1,HT.out.2.1,by have:=HN.out;omega⟩⟩,HT.out.2.2⟩
  have h0b:(s==[])=false:=Zf h0;have h0e:s.isEmpty=false:=by cases s with | nil=>exact absurd rfl h0 | cons _ _=>rfl
  have h0n:(s !=[])=true:=bne_iff_ne.2 h0;have hl0:0 < s.length:=List.length_pos_iff.2 h0;have HI:=Zh (HIX.out s wr hs);have HLS:=Zh hs;have HNN:=Zh hn;have HGG:=Zh hg;have hl0i:(0:Int) < (s.length:Int):=by omega
  obtain⟨d,hkd⟩:∃d,s[0]? =some d:=⟨_,Zg hl0⟩;have hby:=Zak hkd;clear hkd h0 hs hn hg;go_upto_region 3 with fail;go_wp2_with fail;refine HI.out.mono ?_;rintro e w2 ⟨⟨z,rfl,hz⟩,hb2⟩;have HT2:=Zh (HT.out.later hb2);clear hb2 HI HT;have HZZ:=Zh hz;clear hz
  go_upto_if 13 with fail
  go_cut [5] from 14 to 16 (fun v wx=>(∃k:Nat,v= .int .i64 (k:Int)∧k≤s.length)∧wx=w2)
  case first=>
   by_cases hz0:z < 0
   case pos=>
    go_wp2_with fail;go_meet
    case rel=>exact⟨⟨s.length,rfl,Nat.le_refl _⟩,rfl⟩
   case neg=>
    have HN0:=Zh hz0;go_wp2_with fail;go_meet
    case rel=>
     have hn:=HN0.out;rcases HZZ.out with h | ⟨k,rfl,hk⟩
     ·omega
     ·exact⟨⟨k,rfl,Nat.le_of_lt hk⟩,rfl⟩
  case rest=>
   obtain⟨⟨k,rfl,hk⟩,hw⟩:=hcut;subst hw;go_upto_region 6 with fail;clear HZZ;have HKL:=Zh hk;have hki2:(k:Int)≤(s.length:Int):=by omega
   have hT:=HT2.out.1;have c0:=hT.c0;have HX:=HT2;have HNM:=Zh (show n≤1000000 by have:=HNN.out;omega)
   by_cases hk0:0 < k
   case pos=>
    have hk0i:(0:Int) < (k:Int):=by omega
    have he1:=Zcb s k;have he2:=mk_take s k;obtain⟨s1,hs1⟩:∃s1,s.drop k=s1:=⟨_,rfl⟩;obtain⟨s2,hs2⟩:∃s2,s.take k=s2:=⟨_,rfl⟩;have HS1:=Zh (show s1.length+k=s.length∧0 < k from⟨by rw [← hs1,List.length_drop];omega,hk0⟩);rw [hs1]at he1;rw [hs2]at he2;clear hs1 hs2 hk hk0;go_upto_region 7 with fail;refine wp_region_noPanic ?_;refine wp_region_any (by kernel_rfl) ?_;change wpAny _ _ _ _ _ _ _ wc.drew;have HD:=Zh HX.out.drew;refine Zba 13 13 (Array.replicate 14 false) (fun X=>X.cell? ⟨w.heap.size,0,none⟩=some (.slice ao n cap)) (by kernel_rfl) HD.out.1.c0 (fun hHeld=>?_);simp only [List.take_succ_cons,List.take_zero,List.drop_succ_cons,List.drop_zero];refine Zad (i:=0) (v:=?_) rfl (by kernel_rfl) (by kernel_rfl) (by kernel_rfl) (fun _ _ _ h=>h) (.inl ⟨by rfl,?_⟩) (by assumption) ?_;rotate_left
    ·intro w hSw
     (try dsimp only at hSw)
     go_simp
     (try with_reducible rfl)
    (try simp only [Act.put,Zs1,Zs2,Zs3])
    refine Zad (i:=1) (v:=?_) rfl (by kernel_rfl) (by kernel_rfl) (by kernel_rfl) (fun _ _ _ h=>h) (.inl ⟨by rfl,?_⟩) (by assumption) ?_;rotate_left
    ·intro w hSw
     (try dsimp only at hSw)
     go_simp
     (try with_reducible rfl)
    (try simp only [Act.put,Zs1,Zs2,Zs3])
    refine Zad (i:=2) (v:=?_) rfl (by kernel_rfl) (by kernel_rfl) (by kernel_rfl) (fun _ _ _ h=>h) (.inl ⟨by rfl,?_⟩) (by assumption) ?_;rotate_left
    ·intro w hSw
     (try dsimp only at hSw)
     go_simp
     (try with_reducible rfl)
    (try simp only [Act.put,Zs1,Zs2,Zs3])
    refine Zad (i:=3) (v:=?_) rfl (by kernel_rfl) (by kernel_rfl) (by kernel_rfl) (fun _ _ _ h=>h) (.inl ⟨by rfl,?_⟩) (by assumption) ?_;rotate_left
    ·intro w hSw
     (try dsimp only at hSw)
     go_simp
     (try with_reducible rfl)
    (try simp only [Act.put,Zs1,Zs2,Zs3])
    refine Zad (i:=4) (v:=?_) rfl (by kernel_rfl) (by kernel_rfl) (by kernel_rfl) (fun _ _ _ h=>h) (.inl ⟨by rfl,?_⟩) (by assumption) ?_;rotate_left
    ·intro w hSw
     (try dsimp only at hSw)
     go_simp
     (try with_reducible rfl)
    (try simp only [Act.put,Zs1,Zs2,Zs3])
    refine Zad (i:=5) (v:=?_) rfl (by kernel_rfl) (by kernel_rfl) (by kernel_rfl) (fun _ _ _ h=>h) (.inl ⟨by rfl,?_⟩) (by assumption) ?_;rotate_left
    ·intro w hSw
     (try dsimp only at hSw)
     go_simp
     (try with_reducible rfl)
    (try simp only [Act.put,Zs1,Zs2,Zs3])
    refine Zad (i:=6) (v:=?_) rfl (by kernel_rfl) (by kernel_rfl) (by kernel_rfl) (fun _ _ _ h=>h) (.inl ⟨by rfl,?_⟩) (by assumption) ?_;rotate_left
    ·intro w hSw
     (try dsimp only at hSw)
     go_simp
     (try with_reducible rfl)
    (try simp only [Act.put,Zs1,Zs2,Zs3])
    refine Zad (i:=7) (v:=?_) rfl (by kernel_rfl) (by kernel_rfl) (by kernel_rfl) (fun _ _ _ h=>h) (.inl ⟨by rfl,?_⟩) (by assumption) ?_;rotate_left
    ·intro w hSw
     (try dsimp only at hSw)
     go_simp
     (try with_reducible rfl)
    (try simp only [Act.put,Zs1,Zs2,Zs3])
    refine Zad (i:=8) (v:=?_) rfl (by kernel_rfl) (by kernel_rfl) (by kernel_rfl) (fun _ _ _ h=>h) (.inl ⟨by rfl,?_⟩) (by assumption) ?_;rotate_left
    ·intro w hSw
     (try dsimp only at hSw)
     go_simp
     (try with_reducible rfl)
    (try simp only [Act.put,Zs1,Zs2,Zs3])
    have HE:=Zh (HD.out.later (Zab wc.drew (.cells #[.iface 201 (.string ⟨s2.toArray⟩)] 204)));have HEB:=Zh (Zae wc.drew (.cells #[.iface 201 (.string ⟨s2.toArray⟩)] 204));obtain⟨wy,hwy⟩:∃wy,wc.drew.alloc (.cells #[.iface 201 (.string ⟨s2.toArray⟩)] 204)=wy:=⟨_,rfl⟩;rw [hwy]at HE HEB;refine wpAnyH_ready (rs:=[9]) (by kernel_rfl) (by simp) ?_;refine AllReadyH.consL rfl (fun K hK=>?_) ?_;rotate_left
    ·exact AllReadyH.nil
    go_simp
    (try rw [hwy])
    refine hK.out _ _ ?_ (fun hHeld=>?_)
    ·exact HE.out.1.c0
    clear hK K
    (try simp only [Act.put,Zs1,Zs2,Zs3])
    refine wpAnyH_ready (rs:=[10]) (by kernel_rfl) (by simp) ?_;refine AllReadyH.consL rfl (fun K hK=>?_) ?_;rotate_left
    ·exact AllReadyH.nil
    refine Zev (B:=w.heap.size) rfl (.tmp 22) (.tmp 27) rfl rfl HE.out.2.1 HE.out.2.2.size _ rfl _ (.inr ⟨s2,rfl⟩) _ HEB.out HNM.out ?_;intro g1 cap1 wE ho hgr hat hlt;have HG:=Zh (HE.out.grown (Nat.le_refl _) hgr ho);clear ho hgr hat hlt;refine hK.out _ _ ?_ (fun hHeld=>?_)
    ·exact HG.out.1.c0
    clear hK K
    (try simp only [Act.put,Zs1,Zs2,Zs3])
    refine Zad (i:=11) (v:=?_) rfl (by kernel_rfl) (by kernel_rfl) (by kernel_rfl) (fun _ _ _ h=>h) (.inl ⟨by rfl,?_⟩) (by assumption) ?_;rotate_left
    ·intro w hSw
     (try dsimp only at hSw)
     go_simp
     (try with_reducible rfl)
    (try simp only [Act.put,Zs1,Zs2,Zs3])
    refine Zad (i:=12) (v:=?_) rfl (by kernel_rfl) (by kernel_rfl) (by kernel_rfl) (fun _ _ _ h=>h) (.inl ⟨by rfl,?_⟩) (by assumption) ?_;rotate_left
    ·intro w hSw
     (try dsimp only at hSw)
     go_simp
     (try with_reducible rfl)
    (try simp only [Act.put,Zs1,Zs2,Zs3])
    refine wpAnyH_done (by kernel_rfl) ?_ _;change wpList _ _ _ _ _ _;have q0:=HG.out.1.c0;have g0:=HG.out.1.fz 0;clear c0;go_wp2_with fail;refine NoPanic.normal ?_;go_wp2_with fail
    go_roundg s1.length
    case measure=>have:=HS1.out;have:=HGG.out;omega
    case rel=>exact⟨s1,_,n+1,rfl,rfl,by have:=HS1.out;have:=HLS.out;omega,Zh HG.out.2,by have:=HS1.out;have:=HNN.out;omega⟩
   obtain rfl:k=0:=by omega
   clear hk0 hki2 hk;have hdb:(d.toNat:Int) < 256:=by have:=d.toNat_lt;omega
   by_cases h38:(d.toNat:Int)=38
   case pos=>
    have h38b:((d.toNat:Int)==38)=true:=Zt h38;have he1:=Zcb s 1;have hl1i:(1:Int)≤(s.length:Int):=by omega
    obtain⟨s1,hs1⟩:∃s1,s.drop 1=s1:=⟨_,rfl⟩;have HS1:=Zh (show s1.length+1=s.length from by rw [← hs1,List.length_drop];omega);rw [hs1]at he1;clear hs1 h38;go_upto_region 10 with fail;refine wp_region_noPanic ?_;refine wp_region_any (by kernel_rfl) ?_;change wpAny _ _ _ _ _ _ _ wc.drew;have HD:=Zh HX.out.drew;refine Zaq (i:=8) (v:=?_) rfl (by kernel_rfl) (by kernel_rfl) (by kernel_rfl) (fun _ _ _ h=>h) (.inl ⟨by rfl,?_⟩) ?_;rotate_left
    ·intro w
     go_simp
     (try with_reducible rfl)
    (try simp only [Act.put,Zs1,Zs2,Zs3])
    refine Zaq (i:=9) (v:=?_) rfl (by kernel_rfl) (by kernel_rfl) (by kernel_rfl) (fun _ _ _ h=>h) (.inl ⟨by rfl,?_⟩) ?_;rotate_left
    ·intro w
     go_simp
     (try with_reducible rfl)
    (try simp only [Act.put,Zs1,Zs2,Zs3])
    refine Zba 12 10 (((Array.replicate 14 false).setIfInBounds 8 true).setIfInBounds 9 true) (fun X=>X.cell? ⟨w.heap.size,0,none⟩=some (.slice ao n cap)) (by kernel_rfl) HD.out.1.c0 (fun hHeld=>?_);simp only [List.take_succ_cons,List.take_zero,List.drop_succ_cons,List.drop_zero];refine Zad (i:=0) (v:=?_) rfl (by kernel_rfl) (by kernel_rfl) (by kernel_rfl) (fun _ _ _ h=>h) (.inl ⟨by rfl,?_⟩) (by assumption) ?_;rotate_left
    ·intro w hSw
     (try dsimp only at hSw)
     go_simp
     (try with_reducible rfl)
    (try simp only [Act.put,Zs1,Zs2,Zs3])
    refine Zad (i:=1) (v:=?_) rfl (by kernel_rfl) (by kernel_rfl) (by kernel_rfl) (fun _ _ _ h=>h) (.inl ⟨by rfl,?_⟩) (by assumption) ?_;rotate_left
    ·intro w hSw
     (try dsimp only at hSw)
     go_simp
     (try with_reducible rfl)
    (try simp only [Act.put,Zs1,Zs2,Zs3])
    refine Zad (i:=2) (v:=?_) rfl (by kernel_rfl) (by kernel_rfl) (by kernel_rfl) (fun _ _ _ h=>h) (.inl ⟨by rfl,?_⟩) (by assumption) ?_;rotate_left
    ·intro w hSw
     (try dsimp only at hSw)
     go_simp
     (try with_reducible rfl)
    (try simp only [Act.put,Zs1,Zs2,Zs3])
    refine Zad (i:=3) (v:=?_) rfl (by kernel_rfl) (by kernel_rfl) (by kernel_rfl) (fun _ _ _ h=>h) (.inl ⟨by rfl,?_⟩) (by assumption) ?_;rotate_left
    ·intro w hSw
     (try dsimp only at hSw)
     go_simp
     (try with_reducible rfl)
    (try simp only [Act.put,Zs1,Zs2,Zs3])
    refine Zad (i:=4) (v:=?_) rfl (by kernel_rfl) (by kernel_rfl) (by kernel_rfl) (fun _ _ _ h=>h) (.inl ⟨by rfl,?_⟩) (by assumption) ?_;rotate_left
    ·intro w hSw
     (try dsimp only at hSw)
     go_simp
     (try with_reducible rfl)
    (try simp only [Act.put,Zs1,Zs2,Zs3])
    refine Zad (i:=5) (v:=?_) rfl (by kernel_rfl) (by kernel_rfl) (by kernel_rfl) (fun _ _ _ h=>h) (.inl ⟨by rfl,?_⟩) (by assumption) ?_;rotate_left
    ·intro w hSw
     (try dsimp only at hSw)
     go_simp
     (try with_reducible rfl)
    (try simp only [Act.put,Zs1,Zs2,Zs3])
    have HE:=Zh (HD.out.later (Zab wc.drew (.cells #[.iface 202 (.int .i64 0)] 204)));have HEB:=Zh (Zae wc.drew (.cells #[.iface 202 (.int .i64 0)] 204));obtain⟨wy,hwy⟩:∃wy,wc.drew.alloc (.cells #[.iface 202 (.int .i64 0)] 204)=wy:=⟨_,rfl⟩;rw [hwy]at HE HEB;refine wpAnyH_ready (rs:=[6]) (by kernel_rfl) (by simp) ?_;refine AllReadyH.consL rfl (fun K hK=>?_) ?_;rotate_left
    ·exact AllReadyH.nil
    go_simp
    (try rw [hwy])
    refine hK.out _ _ ?_ (fun hHeld=>?_)
    ·exact HE.out.1.c0
    clear hK K
    (try simp only [Act.put,Zs1,Zs2,Zs3])
    refine wpAnyH_ready (rs:=[7]) (by kernel_rfl) (by simp) ?_;refine AllReadyH.consL rfl (fun K hK=>?_) ?_;rotate_left
    ·exact AllReadyH.nil
    refine Zev (B:=w.heap.size) rfl (.tmp 41) (.tmp 43) rfl rfl HE.out.2.1 HE.out.2.2.size _ rfl _ (.inl ⟨0,rfl⟩) _ HEB.out HNM.out ?_;intro g1 cap1 wE ho hgr hat hlt;have HG:=Zh (HE.out.grown (Nat.le_refl _) hgr ho);clear ho hgr hat hlt;refine hK.out _ _ ?_ (fun hHeld=>?_)
    ·exact HG.out.1.c0
    clear hK K
    (try simp only [Act.put,Zs1,Zs2,Zs3])
    refine Zad (i:=10) (v:=?_) rfl (by kernel_rfl) (by kernel_rfl) (by kernel_rfl) (fun _ _ _ h=>h) (.inl ⟨by rfl,?_⟩) (by assumption) ?_;rotate_left
    ·intro w hSw
     (try dsimp only at hSw)
     go_simp
     (try with_reducible rfl)
    (try simp only [Act.put,Zs1,Zs2,Zs3])
    refine Zad (i:=11) (v:=?_) rfl (by kernel_rfl) (by kernel_rfl) (by kernel_rfl) (fun _ _ _ h=>h) (.inl ⟨by rfl,?_⟩) (by assumption) ?_;rotate_left
    ·intro w hSw
     (try dsimp only at hSw)
     go_simp
     (try with_reducible rfl)
    (try simp only [Act.put,Zs1,Zs2,Zs3])
    refine wpAnyH_done (by kernel_rfl) ?_ _;change wpList _ _ _ _ _ _;have q0:=HG.out.1.c0;have g0:=HG.out.1.fz 0;clear c0;go_wp2_with fail;refine NoPanic.normal ?_;go_wp2_with fail
    go_roundg s1.length
    case measure=>have:=HS1.out;have:=HGG.out;omega
    case rel=>exact⟨s1,_,n+1,rfl,rfl,by have:=HS1.out;have:=HLS.out;omega,Zh HG.out.2,by have:=HS1.out;have:=HNN.out;omega⟩
   have h38b:((d.toNat:Int)==38)=false:=Zf h38;clear h38
   by_cases hl1:s.length=1
   case pos=>
    have hl1i:(s.length:Int)=1:=by omega
    have hl1b:((s.length:Int)==1)=true:=Zt hl1i;clear hl1;go_wp2_with fail;go_returns;exact⟨⟨_,_,rfl,.inl rfl⟩,HX.out.2.2⟩
   have hl1i:¬(s.length:Int)=1:=by omega
   have hl1b:((s.length:Int)==1)=false:=Zf hl1i;have hl2:1 < s.length:=by omega
   have hl2i:(1:Int) < (s.length:Int):=by omega
   have hl2j:(2:Int)≤(s.length:Int):=by omega
   obtain⟨d1,hkd1⟩:∃d1,s[1]? =some d1:=⟨_,Zg hl2⟩;have hby1:=Zak hkd1;have HBH:=Zh (fun(X:World)=>tplBehind d1 X);have he1:=Zcb s 2;obtain⟨s1,hs1⟩:∃s1,s.drop 2=s1:=⟨_,rfl⟩;have HS1:=Zh (show s1.length+2=s.length from by rw [← hs1,List.length_drop];omega);rw [hs1]at he1;clear hs1 hkd1 hl1 hl2;go_upto_region 13 with fail;refine wp_region_noPanic ?_;refine wp_region_any (by kernel_rfl) ?_;change wpAny _ _ _ _ _ _ _ wc.drew;have HD:=Zh HX.out.drew;refine Zaq (i:=10) (v:=?_) rfl (by kernel_rfl) (by kernel_rfl) (by kernel_rfl) (fun _ _ _ h=>h) (.inl ⟨by rfl,?_⟩) ?_;rotate_left
   ·intro w
    go_simp
    (try with_reducible rfl)
   (try simp only [Act.put,Zs1,Zs2,Zs3])
   refine Zaq (i:=11) (v:=?_) rfl (by kernel_rfl) (by kernel_rfl) (by kernel_rfl) (fun _ _ _ h=>h) (.inl ⟨by rfl,?_⟩) ?_;rotate_left
   ·intro w
    go_simp
    (try with_reducible rfl)
   (try simp only [Act.put,Zs1,Zs2,Zs3])
   refine Zba 14 12 (((Array.replicate 16 false).setIfInBounds 10 true).setIfInBounds 11 true) (fun X=>X.cell? ⟨w.heap.size,0,none⟩=some (.slice ao n cap)) (by kernel_rfl) HD.out.1.c0 (fun hHeld=>?_);simp only [List.take_succ_cons,List.take_zero,List.drop_succ_cons,List.drop_zero];refine Zad (i:=0) (v:=?_) rfl (by kernel_rfl) (by kernel_rfl) (by kernel_rfl) (fun _ _ _ h=>h) (.inl ⟨by rfl,?_⟩) (by assumption) ?_;rotate_left
   ·intro w hSw
    (try dsimp only at hSw)
    go_simp
    (try with_reducible rfl)
   (try simp only [Act.put,Zs1,Zs2,Zs3])
   refine Zad (i:=1) (v:=?_) rfl (by kernel_rfl) (by kernel_rfl) (by kernel_rfl) (fun _ _ _ h=>h) (.inl ⟨by rfl,?_⟩) (by assumption) ?_;rotate_left
   ·intro w hSw
    (try dsimp only at hSw)
    go_simp
    (try with_reducible rfl)
   (try simp only [Act.put,Zs1,Zs2,Zs3])
   refine Zad (i:=2) (v:=?_) rfl (by kernel_rfl) (by kernel_rfl) (by kernel_rfl) (fun _ _ _ h=>h) (.inl ⟨by rfl,?_⟩) (by assumption) ?_;rotate_left
   ·intro w hSw
    (try dsimp only at hSw)
    go_simp
    (try with_reducible rfl)
   (try simp only [Act.put,Zs1,Zs2,Zs3])
   refine Zad (i:=3) (v:=?_) rfl (by kernel_rfl) (by kernel_rfl) (by kernel_rfl) (fun _ _ _ h=>h) (.inl ⟨by rfl,?_⟩) (by assumption) ?_;rotate_left
   ·intro w hSw
    (try dsimp only at hSw)
    go_simp
    (try with_reducible rfl)
   (try simp only [Act.put,Zs1,Zs2,Zs3])
   refine Zad (i:=4) (v:=?_) rfl (by kernel_rfl) (by kernel_rfl) (by kernel_rfl) (fun _ _ _ h=>h) (.inl ⟨by rfl,?_⟩) (by assumption) ?_;rotate_left
   ·intro w hSw
    (try dsimp only at hSw)
    go_simp
    (try with_reducible rfl)
   (try simp only [Act.put,Zs1,Zs2,Zs3])
   refine Zad (i:=5) (v:=?_) rfl (by kernel_rfl) (by kernel_rfl) (by kernel_rfl) (fun _ _ _ h=>h) (.inl ⟨by rfl,?_⟩) (by assumption) ?_;rotate_left
   ·intro w hSw
    (try dsimp only at hSw)
    go_simp
    (try with_reducible rfl)
   (try simp only [Act.put,Zs1,Zs2,Zs3])
   refine Zad (i:=6) (v:=?_) rfl (by kernel_rfl) (by kernel_rfl) (by kernel_rfl) (fun _ _ _ h=>h) (.inl ⟨by rfl,?_⟩) (by assumption) ?_;rotate_left
   ·intro w hSw
    (try dsimp only at hSw)
    go_simp
    (try with_reducible rfl)
   (try simp only [Act.put,Zs1,Zs2,Zs3])
   refine wpAnyH_ready (rs:=[7]) (by kernel_rfl) (by simp) ?_;refine AllReadyH.consL rfl (fun K hK=>?_) ?_;rotate_left
   ·exact AllReadyH.nil
   go_simp
   (with_reducible refine(HBH.out _).mono ?_)
   rintro e w5 ⟨⟨pv,rfl,hpv⟩,hb5⟩;obtain⟨pT,pu,rfl⟩:=hpv.iface;have HV:=Zh hpv;replace HD:=Zh (HD.out.later hb5);clear hb5 hpv;refine hK.out _ _ ?_ (fun hHeld=>?_)
   ·exact HD.out.1.c0
   clear hK K
   (try simp only [Act.put,Zs1,Zs2,Zs3])
   have HE:=Zh (HD.out.later (Zab w5 (.cells #[.iface pT pu] 204)));have HEB:=Zh (Zae w5 (.cells #[.iface pT pu] 204));obtain⟨wy,hwy⟩:∃wy,w5.alloc (.cells #[.iface pT pu] 204)=wy:=⟨_,rfl⟩;rw [hwy]at HE HEB;refine wpAnyH_ready (rs:=[8]) (by kernel_rfl) (by simp) ?_;refine AllReadyH.consL rfl (fun K hK=>?_) ?_;rotate_left
   ·exact AllReadyH.nil
   go_simp
   (try rw [hwy])
   refine hK.out _ _ ?_ (fun hHeld=>?_)
   ·exact HE.out.1.c0
   clear hK K
   (try simp only [Act.put,Zs1,Zs2,Zs3])
   refine wpAnyH_ready (rs:=[9]) (by kernel_rfl) (by simp) ?_;refine AllReadyH.consL rfl (fun K hK=>?_) ?_;rotate_left
   ·exact AllReadyH.nil
   refine Zev (B:=w.heap.size) rfl (.tmp 56) (.tmp 60) rfl rfl HE.out.2.1 HE.out.2.2.size _ rfl _ (HV.out) _ HEB.out HNM.out ?_;intro g1 cap1 wE ho hgr hat hlt;have HG:=Zh (HE.out.grown (Nat.le_refl _) hgr ho);clear ho hgr hat hlt;refine hK.out _ _ ?_ (fun hHeld=>?_)
   ·exact HG.out.1.c0
   clear hK K
   (try simp only [Act.put,Zs1,Zs2,Zs3])
   refine Zad (i:=12) (v:=?_) rfl (by kernel_rfl) (by kernel_rfl) (by kernel_rfl) (fun _ _ _ h=>h) (.inl ⟨by rfl,?_⟩) (by assumption) ?_;rotate_left
   ·intro w hSw
    (try dsimp only at hSw)
    go_simp
    (try with_reducible rfl)
   (try simp only [Act.put,Zs1,Zs2,Zs3])
   refine Zad (i:=13) (v:=?_) rfl (by kernel_rfl) (by kernel_rfl) (by kernel_rfl) (fun _ _ _ h=>h) (.inl ⟨by rfl,?_⟩) (by assumption) ?_;rotate_left
   ·intro w hSw
    (try dsimp only at hSw)
    go_simp
    (try with_reducible rfl)
   (try simp only [Act.put,Zs1,Zs2,Zs3])
   refine wpAnyH_done (by kernel_rfl) ?_ _;change wpList _ _ _ _ _ _;have q0:=HG.out.1.c0;have g0:=HG.out.1.fz 0;clear c0;go_wp2_with fail;refine NoPanic.normal ?_;go_wp2_with fail
   go_roundg s1.length
   case measure=>have:=HS1.out;have:=HGG.out;omega
   case rel=>exact⟨s1,_,n+1,rfl,rfl,by have:=HS1.out;have:=HLS.out;omega,Zh HG.out.2,by have:=HS1.out;have:=HNN.out;omega⟩
end Go.Proofs.YtndjgbehbgcpkaaGreatDoor
