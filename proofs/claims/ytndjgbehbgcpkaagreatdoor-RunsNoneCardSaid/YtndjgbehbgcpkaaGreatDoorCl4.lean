/- Classes of bytes: a set is added to. Printed by gcl4.py. -/
import Derived.Test.YtndjgbehbgcpkaaGreatDoorCl3
import Derived.Test.YtndjgbehbgcpkaaGreatDoorBr8
import Derived.Test.YtndjgbehbgcpkaaGreatDoorCb2
import Derived.Test.YtndjgbehbgcpkaaGreatDoorBra
import Derived.Deep.QuietTactic
import Derived.BigQuiet
set_option linter.unusedVariables false
set_option linter.unusedSimpArgs false
set_option maxRecDepth 100000
set_option maxHeartbeats 4000000
namespace Go.Proofs.YtndjgbehbgcpkaaGreatDoor
open Go Go.Proofs Go.RowKit Go.Ink Go.Sort
def BolA (cs:Array Value):Prop:=cs.size=256∧∀k,k < 256→∃b,cs[k]? =some (.bool b)
theorem BolA.set {cs:Array Value}(h:BolA cs)(i:Nat)(b:Bool):BolA (cs.setIfInBounds i (.bool b)):=by
 refine⟨by rw [Array.size_setIfInBounds];exact h.1,fun k hk=>?_⟩
 by_cases e:i=k
 ·subst e
  exact⟨b,by rw [Array.getElem?_setIfInBounds,if_pos rfl,if_pos (by rw [h.1];exact hk)]⟩
 ·obtain⟨x,hx⟩:=h.2 k hk
  exact⟨x,(Array.getElem?_setIfInBounds_ne e).trans hx⟩
theorem BolA.one {cs:Array Value}(h:BolA cs):cs.all (·.oneCell')=true:=by
 rw [Array.all_eq_true];intro i hi;obtain⟨b,hb⟩:=h.2 i (h.1▸hi);rw [Array.getElem?_eq_getElem hi]at hb;rw [Option.some.inj hb]
 rfl
theorem IsV.bools {w w':World}{b:Nat}{cs cs':Array Value}{T T':TypeId}{fr fr':Nat×Nat}(hk:KeepT (fun j=>j=b) w w')(hb:w.heap[b]? =some (.cells cs T fr))(hb':w'.heap[b]? =some (.cells cs' T' fr'))(hc:BolA cs){v:Value}(h:IsV w v):IsV w' v:=by
 have key:∀{j:Nat} {v:Value} {T2:TypeId} {fr2:Nat×Nat},(∀x,v≠ .bool x)→w.heap[j]? =some (.cells #[v] T2 fr2)→w'.heap[j]? =some (.cells #[v] T2 fr2):=fun {j v T2 fr2} hv hh=>by
  refine(hk.block j (Zaa hh) (fun e=>?_)).trans hh;subst e;rw [hb]at hh;cases hh;obtain⟨x,hx⟩:=hc.2 0 (by omega);exact hv x (Option.some.inj hx)
 have nb:∀{v:Value},IsV w v→∀x,v≠ .bool x:=fun {v} h x e=>by
  obtain⟨f,cap,e2⟩:=h.shape;rw [e2]at e;cases e
 induction h with
 | span b1 b2 x y h1 h2=>exact .span b1 b2 x y (key (fun _ e=>by cases e) h1) (key (fun _ e=>by cases e) h2)
 | some_ b2 g n cap cs2 T2 fr2 vs hb2 hn hg hcs hv ih=>
   by_cases e:g=b
   ·subst e
    rw [hb]at hg;cases hg;cases n with
    | zero=>exact .some_ b2 g 0 cap cs' T' fr' vs (key (fun _ e=>by cases e) hb2) hn hb' (fun i hi=>absurd hi (Nat.not_lt_zero i)) (fun i hi=>absurd hi (Nat.not_lt_zero i))
    | succ n=>
      obtain⟨x,hx⟩:=hc.2 0 (by omega);exact absurd (Option.some.inj ((hcs 0 (by omega)).symm.trans hx)) (nb (hv 0 (by omega)) x)
   ·exact .some_ b2 g n cap cs2 T2 fr2 vs (key (fun _ e=>by cases e) hb2) hn ((hk.block g (Zaa hg) e).trans hg) hcs ih
 | punct b1 b2 v1 v2 h1 h2 hv1 hv2 ih1 ih2=>exact .punct b1 b2 v1 v2 (key (nb hv1) h1) (key (nb hv2) h2) ih1 ih2
theorem AllReady.consL {P:Program}{Q:Exit→Act→World→Prop}{md:Region.Mode}{l:List Oper}{fuel:Nat}{listed:Array Bool}{a:Act}{w:World}{i:Nat}{o:Oper}{rs:List Nat}(ho:l[i]? =some o)
 (h:∀K':Act→World→Prop,(∀a w,wpAny P md l.toArray Q fuel (listed.setIfInBounds i true) a w→K' a w)→if Region.wanted o (yielded l.toArray a.tmps)=true then Oper.wp P o a w K' Q else K' (a.put o.dst undef) w)
 (hs:AllReady P md l.toArray Q fuel listed a w rs):AllReady P md l.toArray Q fuel listed a w (i::rs):=AllReady.cons (by simpa using ho) h hs
theorem clsAdd (w:World)(b:Nat)(cs:Array Value)(v:Value)(hb:w.heap[b]? =some (.cells cs 148 (0,0)))(hc:BolA cs)(hv:IsV w v):
 Calls Tryz.prog 225 #[.pointer (some ⟨b,0,none⟩),v] w fun e w'=>e= .returned (.tuple #[])∧∃cs',w'.heap[b]? =some (.cells cs' 148 (0,0))∧BolA cs'∧KeepT (fun j=>j=b) w w':=by
 obtain⟨fv,cap,hsh⟩:=hv.shape;have H0:=Zh (show∃cs',w.heap[b]? =some (.cells cs' 148 (0,0))∧BolA cs'∧KeepT (fun j=>j=b) w w from⟨cs,hb,hc,KeepT.refl _ _⟩);have HV0:=Zh hv;clear hb hc hv;subst hsh;go_enter Tryz.func225,Tryz.ntmps225;go_wp2_with fail
 go_loopw [5] (fun kv wr=>∃k:Nat,kv= .int .i64 (k:Int)∧k≤256∧Hid (IsV wr (.func (.func fv) #[] cap))∧Hid (∃cs',wr.heap[b]? =some (.cells cs' 148 (0,0))∧BolA cs'∧KeepT (fun j=>j=b) w wr)) (fun kv _=>256 - (intOf kv).toNat)
 case atStart=>exact⟨0,rfl,by omega,HV0,H0⟩
 case round=>
  clear HV0 H0;obtain⟨k,rfl,hk,HV,HX⟩:=hrel
  by_cases hlt:k < 256
  case neg=>
   have hki:¬(k:Int) < 256:=by omega
   clear hlt;go_wp2_with fail;go_returns;exact⟨rfl,HX.out⟩
  have hki:(k:Int) < 256:=by omega
  obtain⟨cs,hcs,hok,hkp⟩:=HX.out;obtain⟨x,hx⟩:=hok.2 k hlt;obtain⟨f2,cap2,hsh,hen,hcl⟩:=(HV.out.later (show Below wr.heap.size wr wr.drew from⟨rfl,rfl,rfl,Nat.le_refl _,fun _ _=>rfl⟩)).says;cases hsh;have HCD:=Zh (hcl (UInt8.ofNat k));have hnn:(((UInt8.ofNat k).toNat:Nat):Int)=(k:Int):=by simp;omega
  rw [hnn]at HCD;have cS:wr.cell? ⟨b,k,none⟩=some (.bool x):=by rw [Lib.cell_of_heap hcs];exact hx
  have g0:wr.frozen? ⟨b,k,none⟩=false:=Lib.frozen_of_heap hcs k;have HS2:=Zh (fun y:Bool=>Zay (w:=wr.drew) (j:=k) hcs (.bool y));have HK2:=Zh (fun y:Bool=>((KeepT.refl (fun j=>j=b) wr).drew.setCell (p:=⟨b,k,none⟩) (.inl rfl) (.bool y)));have HV2:=Zh (fun y:Bool=>HV.out.bools (HK2.out y) hcs (HS2.out y) hok);have HKP:=Zh hkp;have HOK:=Zh hok;have HLT:=Zh hlt;have hu8:IntKind.u8.wrap (k:Int)=(k:Int):=by show(k:Int) % 256=k;omega
  have hkn:(k:Int).toNat=k:=by omega
  have hen2:=fun args W=>hen args W;clear hcl hcs hx hok hkp hen hlt HX;go_wp2_with fail;cases x
  case false=>
   refine wp_region_noPanic ?_;refine wp_region_any (by kernel_rfl) ?_;change wpAny _ _ _ _ 16 _ _ wr.drew;refine Zaq (i:=0) (v:=?_) rfl (by kernel_rfl) (by kernel_rfl) (by kernel_rfl) (fun _ _ _ h=>h) (.inl ⟨by rfl,?_⟩) ?_;rotate_left
   ·intro w
    go_simp
    (try with_reducible rfl)
   (try simp only [Act.put,Zs1,Zs2,Zs3])
   refine Zaq (i:=1) (v:=?_) rfl (by kernel_rfl) (by kernel_rfl) (by kernel_rfl) (fun _ _ _ h=>h) (.inl ⟨by rfl,?_⟩) ?_;rotate_left
   ·intro w
    go_simp
    (try with_reducible rfl)
   (try simp only [Act.put,Zs1,Zs2,Zs3])
   refine Zaq (i:=2) (v:=?_) rfl (by kernel_rfl) (by kernel_rfl) (by kernel_rfl) (fun _ _ _ h=>h) (.inl ⟨by rfl,?_⟩) ?_;rotate_left
   ·intro w
    go_simp
    (try with_reducible rfl)
   (try simp only [Act.put,Zs1,Zs2,Zs3])
   refine Zaq (i:=3) (v:=?_) rfl (by kernel_rfl) (by kernel_rfl) (by kernel_rfl) (fun _ _ _ h=>h) (.inl ⟨by rfl,?_⟩) ?_;rotate_left
   ·intro w
    go_simp
    (try with_reducible rfl)
   (try simp only [Act.put,Zs1,Zs2,Zs3])
   refine Zaq (i:=4) (v:=?_) rfl (by kernel_rfl) (by kernel_rfl) (by kernel_rfl) (fun _ _ _ h=>h) (.inl ⟨by rfl,?_⟩) ?_;rotate_left
   ·intro w
    go_simp
    (try with_reducible rfl)
   (try simp only [Act.put,Zs1,Zs2,Zs3])
   refine Zaq (i:=5) (v:=?_) rfl (by kernel_rfl) (by kernel_rfl) (by kernel_rfl) (fun _ _ _ h=>h) (.inl ⟨by rfl,?_⟩) ?_;rotate_left
   ·intro w
    go_simp
    (try with_reducible rfl)
   (try simp only [Act.put,Zs1,Zs2,Zs3])
   refine Zaq (i:=13) (v:=?_) rfl (by kernel_rfl) (by kernel_rfl) (by kernel_rfl) (fun _ _ _ h=>h) (.inl ⟨by rfl,?_⟩) ?_;rotate_left
   ·intro w
    go_simp
    (try with_reducible rfl)
   (try simp only [Act.put,Zs1,Zs2,Zs3])
   refine wpAny_ready (rs:=[6]) (by kernel_rfl) (by simp) ?_;refine AllReady.consL rfl (fun K hK=>?_) AllReady.nil;go_simp;refine hK _ _ ?_;clear hK K
   (try simp only [Act.put,Zs1,Zs2,Zs3])
   refine Zaq (i:=7) (v:=?_) rfl (by kernel_rfl) (by kernel_rfl) (by kernel_rfl) (fun _ _ _ h=>h) (.inl ⟨by rfl,?_⟩) ?_;rotate_left
   ·intro w
    go_simp
    (try with_reducible rfl)
   (try simp only [Act.put,Zs1,Zs2,Zs3])
   refine Zaq (i:=8) (v:=?_) rfl (by kernel_rfl) (by kernel_rfl) (by kernel_rfl) (fun _ _ _ h=>h) (.inl ⟨by rfl,?_⟩) ?_;rotate_left
   ·intro w
    go_simp
    (try with_reducible rfl)
   (try simp only [Act.put,Zs1,Zs2,Zs3])
   refine Zaq (i:=9) (v:=?_) rfl (by kernel_rfl) (by kernel_rfl) (by kernel_rfl) (fun _ _ _ h=>h) (.inl ⟨by rfl,?_⟩) ?_;rotate_left
   ·intro w
    go_simp
    (try with_reducible rfl)
   (try simp only [Act.put,Zs1,Zs2,Zs3])
   refine Zaq (i:=10) (v:=?_) rfl (by kernel_rfl) (by kernel_rfl) (by kernel_rfl) (fun _ _ _ h=>h) (.inl ⟨by rfl,?_⟩) ?_;rotate_left
   ·intro w
    go_simp
    (try with_reducible rfl)
   (try simp only [Act.put,Zs1,Zs2,Zs3])
   refine wpAny_ready (rs:=[11]) (by kernel_rfl) (by simp) ?_;refine AllReady.consL rfl (fun K hK=>?_) AllReady.nil;go_simp
   (with_reducible refine(HCD.out).mono ?_)
   rintro e w2 ⟨⟨bb,rfl⟩,rfl⟩;refine hK _ _ ?_;clear hK K
   (try simp only [Act.put,Zs1,Zs2,Zs3])
   refine Zaq (i:=12) (v:=?_) rfl (by kernel_rfl) (by kernel_rfl) (by kernel_rfl) (fun _ _ _ h=>h) (.inl ⟨by rfl,?_⟩) ?_;rotate_left
   ·intro w
    go_simp
    (try with_reducible rfl)
   (try simp only [Act.put,Zs1,Zs2,Zs3])
   refine Zaq (i:=14) (v:=?_) rfl (by kernel_rfl) (by kernel_rfl) (by kernel_rfl) (fun _ _ _ h=>h) (.inl ⟨by rfl,?_⟩) ?_;rotate_left
   ·intro w
    go_simp
    (try with_reducible rfl)
   (try simp only [Act.put,Zs1,Zs2,Zs3])
   refine wpAny_ready (rs:=[15]) (by kernel_rfl) (by simp) ?_;refine AllReady.consL rfl (fun K hK=>?_) AllReady.nil;go_simp;refine hK _ _ ?_;clear hK K
   (try simp only [Act.put,Zs1,Zs2,Zs3])
   refine wpAny_done (by kernel_rfl) ?_ _;refine NoPanic.normal ?_;go_wp2_with fail;have HN1:=Zh (HV2.out bb);have HN2:=Zh (show∃cs',(wr.drew.setCell ⟨b,k,none⟩ (.bool bb)).heap[b]? =some (.cells cs' 148 (0,0))∧BolA cs'∧KeepT (fun j=>j=b) w _ from⟨_,HS2.out bb,HOK.out.set k bb,HKP.out.trans (HK2.out bb) (fun _ _ e=>e)⟩);go_roundw
   case rel=>exact⟨k+1,by go_num,by have:=HLT.out;omega,HN1,HN2⟩
   case measure=>have:=HLT.out;simp [intOf] <;> omega
  case true=>
   refine wp_region_noPanic ?_;refine wp_region_any (by kernel_rfl) ?_;change wpAny _ _ _ _ 16 _ _ wr.drew;refine Zaq (i:=0) (v:=?_) rfl (by kernel_rfl) (by kernel_rfl) (by kernel_rfl) (fun _ _ _ h=>h) (.inl ⟨by rfl,?_⟩) ?_;rotate_left
   ·intro w
    go_simp
    (try with_reducible rfl)
   (try simp only [Act.put,Zs1,Zs2,Zs3])
   refine Zaq (i:=1) (v:=?_) rfl (by kernel_rfl) (by kernel_rfl) (by kernel_rfl) (fun _ _ _ h=>h) (.inl ⟨by rfl,?_⟩) ?_;rotate_left
   ·intro w
    go_simp
    (try with_reducible rfl)
   (try simp only [Act.put,Zs1,Zs2,Zs3])
   refine Zaq (i:=2) (v:=?_) rfl (by kernel_rfl) (by kernel_rfl) (by kernel_rfl) (fun _ _ _ h=>h) (.inl ⟨by rfl,?_⟩) ?_;rotate_left
   ·intro w
    go_simp
    (try with_reducible rfl)
   (try simp only [Act.put,Zs1,Zs2,Zs3])
   refine Zaq (i:=3) (v:=?_) rfl (by kernel_rfl) (by kernel_rfl) (by kernel_rfl) (fun _ _ _ h=>h) (.inl ⟨by rfl,?_⟩) ?_;rotate_left
   ·intro w
    go_simp
    (try with_reducible rfl)
   (try simp only [Act.put,Zs1,Zs2,Zs3])
   refine Zaq (i:=4) (v:=?_) rfl (by kernel_rfl) (by kernel_rfl) (by kernel_rfl) (fun _ _ _ h=>h) (.inl ⟨by rfl,?_⟩) ?_;rotate_left
   ·intro w
    go_simp
    (try with_reducible rfl)
   (try simp only [Act.put,Zs1,Zs2,Zs3])
   refine Zaq (i:=5) (v:=?_) rfl (by kernel_rfl) (by kernel_rfl) (by kernel_rfl) (fun _ _ _ h=>h) (.inl ⟨by rfl,?_⟩) ?_;rotate_left
   ·intro w
    go_simp
    (try with_reducible rfl)
   (try simp only [Act.put,Zs1,Zs2,Zs3])
   refine Zaq (i:=13) (v:=?_) rfl (by kernel_rfl) (by kernel_rfl) (by kernel_rfl) (fun _ _ _ h=>h) (.inl ⟨by rfl,?_⟩) ?_;rotate_left
   ·intro w
    go_simp
    (try with_reducible rfl)
   (try simp only [Act.put,Zs1,Zs2,Zs3])
   refine wpAny_ready (rs:=[6]) (by kernel_rfl) (by simp) ?_;refine AllReady.consL rfl (fun K hK=>?_) AllReady.nil;go_simp;refine hK _ _ ?_;clear hK K
   (try simp only [Act.put,Zs1,Zs2,Zs3])
   refine Zaq (i:=7) (v:=?_) rfl (by kernel_rfl) (by kernel_rfl) (by kernel_rfl) (fun _ _ _ h=>h) (.inl ⟨by rfl,?_⟩) ?_;rotate_left
   ·intro w
    go_simp
    (try with_reducible rfl)
   (try simp only [Act.put,Zs1,Zs2,Zs3])
   refine Zaq (i:=8) (v:=undef) rfl (by kernel_rfl) (by kernel_rfl) (by kernel_rfl) (fun _ _ _ h=>h) (Or.inr ⟨by rfl,rfl⟩) ?_
   (try simp only [Act.put,Zs1,Zs2,Zs3])
   refine Zaq (i:=9) (v:=undef) rfl (by kernel_rfl) (by kernel_rfl) (by kernel_rfl) (fun _ _ _ h=>h) (Or.inr ⟨by rfl,rfl⟩) ?_
   (try simp only [Act.put,Zs1,Zs2,Zs3])
   refine Zaq (i:=10) (v:=undef) rfl (by kernel_rfl) (by kernel_rfl) (by kernel_rfl) (fun _ _ _ h=>h) (Or.inr ⟨by rfl,rfl⟩) ?_
   (try simp only [Act.put,Zs1,Zs2,Zs3])
   refine Zaq (i:=11) (v:=undef) rfl (by kernel_rfl) (by kernel_rfl) (by kernel_rfl) (fun _ _ _ h=>h) (Or.inr ⟨by rfl,rfl⟩) ?_
   (try simp only [Act.put,Zs1,Zs2,Zs3])
   refine Zaq (i:=12) (v:=?_) rfl (by kernel_rfl) (by kernel_rfl) (by kernel_rfl) (fun _ _ _ h=>h) (.inl ⟨by rfl,?_⟩) ?_;rotate_left
   ·intro w
    go_simp
    (try with_reducible rfl)
   (try simp only [Act.put,Zs1,Zs2,Zs3])
   refine Zaq (i:=14) (v:=?_) rfl (by kernel_rfl) (by kernel_rfl) (by kernel_rfl) (fun _ _ _ h=>h) (.inl ⟨by rfl,?_⟩) ?_;rotate_left
   ·intro w
    go_simp
    (try with_reducible rfl)
   (try simp only [Act.put,Zs1,Zs2,Zs3])
   refine wpAny_ready (rs:=[15]) (by kernel_rfl) (by simp) ?_;refine AllReady.consL rfl (fun K hK=>?_) AllReady.nil;go_simp;refine hK _ _ ?_;clear hK K
   (try simp only [Act.put,Zs1,Zs2,Zs3])
   refine wpAny_done (by kernel_rfl) ?_ _;refine NoPanic.normal ?_;go_wp2_with fail;have HN1:=Zh (HV2.out true);have HN2:=Zh (show∃cs',(wr.drew.setCell ⟨b,k,none⟩ (.bool true)).heap[b]? =some (.cells cs' 148 (0,0))∧BolA cs'∧KeepT (fun j=>j=b) w _ from⟨_,HS2.out true,HOK.out.set k true,HKP.out.trans (HK2.out true) (fun _ _ e=>e)⟩);go_roundw
   case rel=>exact⟨k+1,by go_num,by have:=HLT.out;omega,HN1,HN2⟩
   case measure=>have:=HLT.out;simp [intOf] <;> omega
open Go Go.Proofs Go.RowKit Go.Ink Go.Sort
theorem Zbx {P:Program}{fn:Func}{p q r:Tmp}{ty:TypeId}(h:fn.results=#[.cell p ty,.tmp q,.tmp r])(tmps:Array Value)(w:World)(g:Nat)(t:TypeId)(cs:Array Value)(fr:Nat×Nat)(d:TypeDesc)(v u:Value)
 (hp:tmps.getD p undef= .pointer (some ⟨g,0,none⟩)) (hq:tmps.getD q undef=v) (hr:tmps.getD r undef=u) (hg:w.heap[g]? =some (.cells cs t fr))
 (hu:P.underlying ty=some d) (hd:(match d with | .struct _ | .array _ _=>true | _=>false)=true) (hi:(P.info? ty).map (·.size)=some cs.size):
 (results fn tmps).run P w= .ok (.tuple #[.agg cs,v,u]) w:=by
 have hp':tmps[p]?.getD undef= .pointer (some ⟨g,0,none⟩):=by simpa using hp
 have hq':tmps[q]?.getD undef=v:=by simpa using hq
 have hr':tmps[r]?.getD undef=u:=by simpa using hr
 simp [results,h,hp',hq',hr',asAddr,run_loadVar_row w g t ty cs fr d hg hu hd hi]
theorem Zde {B:Nat}{a w:World}(h:Below B a w){g:Nat}(hg:B≤g)(cs:Array Value):Below B a (w.setRow g cs):=
 ⟨h.os,h.tape,h.output,by have:=h.size;simpa [World.setRow] using this,fun k hk=>(setRow_other _ _ _ _ (by omega)).trans (h.block k hk)⟩
noncomputable def zbl:Array Value:=Tryz.zeroCells148
theorem zbl_ok:BolA zbl:=by
 refine⟨zs256_size,fun k hk=>⟨false,?_⟩⟩
 show Tryz.zeroCells148[k]? =_
 rw [zs256,List.getElem?_toArray,List.getElem?_replicate,if_pos hk]
theorem BolA.fn {cs:Array Value}(h:BolA cs):∃f:Nat→Bool,∀j,j < 256→cs[j]? =some (.bool (f j)):=by
 refine⟨fun j=>match cs[j]? with | some (.bool b)=>b | _=>false,fun j hj=>?_⟩;obtain⟨b,hb⟩:=h.2 j hj;simp [hb]
theorem ClsEb.mk {s:List UInt8}{cs:Array Value}(h:BolA cs)(z:Int)(nx:Nat)(er:Int)(hz:z=(nx:Int))(hn:er=0→1≤nx∧nx≤s.length):ClsEb s (.returned (.tuple #[.agg cs,.int .i64 z,.int .i64 er])):=by
 obtain⟨f,hf⟩:=h.fn;exact⟨cs,f,nx,er,by rw [hz],h.1,hf,hn⟩
def lenV:Value→Nat
 | .string b=>b.size
 | _=>0
theorem lenV_mk (l:List UInt8):lenV (.string ⟨l.toArray⟩)=l.length:=size_mk l
def ClsAt (w wr:World):Prop:=∃cs,wr.heap[w.heap.size]? =some (.cells cs 148 (0,0))∧BolA cs∧Below w.heap.size w wr
theorem clsParse:ClsP:=by
 intro s w hs hx;have hsz:=size_mk s;have HLS:=Zh hs;have HX0:=Zh hx;have HMX:=Zh (fun(X:World) (h:Below w.heap.size w X)=>hx.later h);have HPT:=Zh (fun(t:List UInt8) (X:World)=>clsPart t X);have HHP:=Zh (fun(t:List UInt8) (X:World)=>strHas t [93] X);clear hx;go_enter Tryz.func201,Tryz.ntmps201;go_upto_region 1 with fail;generalize hwA:w.alloc _=wA;have HC:=Zh (show wA.heap[w.heap.size]? =some (.cells zbl 148 (0,0)) from hwA▸Zae _ _);have HB:=Zh (show Below w.heap.size w wA from hwA▸Zab w _);clear hwA;have HSZ:=Zh (show(Tryz.prog.info? 148).map (·.size)=some zbl.size by rw [zbl_ok.1];exact set256);have HON:=Zh zbl_ok.one;have h00:¬((0:Int) < 0):=by omega
 by_cases h0:s=[]
 case pos=>
  subst h0;clear hsz;have hsz:(⟨([]:List UInt8).toArray⟩:ByteArray).size=0:=rfl
  go_wp2_with (first
   | (refine wpList_load_row rfl 148 _ (by with_reducible rfl) w.heap.size rfl 148 (zbl) (0,0) _ HC.out Tryz.underlying148 rfl HSZ.out ?_)
   | (refine wpList_store_row rfl 148 _ _ (by with_reducible rfl) w.heap.size (zbl) rfl rfl 148 (zbl) HC.out HSZ.out rfl HON.out ?_))
  refine bodyPost_ret (v:= .tuple #[.agg (zbl),.int .i64 (0),.int .i64 90]) (Zbx (p:=4) (q:=5) (r:=6) (by kernel_rfl) _ _ w.heap.size 148 (zbl) (0,0) _ _ _ rfl rfl rfl (setRow_heap _ _ _ _ _ _ HC.out) Tryz.underlying148 rfl HSZ.out) rfl ?_;exact⟨.mk zbl_ok 0 0 90 rfl (fun h=>by cases h),Zde HB.out (Nat.le_refl _) _⟩
 have hl0:0 < s.length:=List.length_pos_iff.2 h0;have hl0i:¬(s.length:Int)≤0:=by omega
 have he0:(⟨s.toArray⟩:ByteArray).extract 0 s.length=⟨s.toArray⟩:=by rw [Zcb];rfl
 have HCT:=Zh (strCut s [91] wA);obtain⟨ok,hok⟩:∃ok,hasP s [91]=ok:=⟨_,rfl⟩;obtain⟨r0,hr0⟩:∃r,cutP s [91]=r:=⟨_,rfl⟩;have hr1:ok=true→r0.length < s.length:=fun e=>hr0▸cutP_lt (hok.trans e) (by simp);rw [hok,hr0]at HCT;clear hok hr0 hl0;go_wp2_with fail;refine HCT.out.mono ?_;rintro e wB ⟨rfl,rfl⟩;clear HCT;cases ok
 case false=>
  clear hr1
  go_wp2_with (first
   | (refine wpList_load_row rfl 148 _ (by with_reducible rfl) w.heap.size rfl 148 (zbl) (0,0) _ HC.out Tryz.underlying148 rfl HSZ.out ?_)
   | (refine wpList_store_row rfl 148 _ _ (by with_reducible rfl) w.heap.size (zbl) rfl rfl 148 (zbl) HC.out HSZ.out rfl HON.out ?_))
  refine bodyPost_ret (v:= .tuple #[.agg (zbl),.int .i64 (0),.int .i64 90]) (Zbx (p:=4) (q:=5) (r:=6) (by kernel_rfl) _ _ w.heap.size 148 (zbl) (0,0) _ _ _ rfl rfl rfl (setRow_heap _ _ _ _ _ _ HC.out) Tryz.underlying148 rfl HSZ.out) rfl ?_;exact⟨.mk zbl_ok 0 0 90 rfl (fun h=>by cases h),Zde HB.out (Nat.le_refl _) _⟩
 have hr1:=hr1 rfl;have HCT:=Zh (strCut r0 [94] wB);have hr2:=cutP_le r0 [94];obtain⟨ng,hng⟩:∃ok,hasP r0 [94]=ok:=⟨_,rfl⟩;obtain⟨r2,hr3⟩:∃r,cutP r0 [94]=r:=⟨_,rfl⟩;rw [hng,hr3]at HCT;rw [hr3]at hr2;have HR2:=Zh (show r2.length < s.length by omega);clear hng hr1 hr2 hr3;go_wp2_with fail;refine HCT.out.mono ?_;rintro e wC ⟨rfl,rfl⟩;clear HCT;have HAT:=Zh (show ClsAt w wC from⟨zbl,HC.out,zbl_ok,HB.out⟩);clear HC HB HSZ HON;go_wp2_with fail
 go_loopw [7,10] (fun rv fv wr=>∃(r:List UInt8) (fb:Bool),rv= .string ⟨r.toArray⟩∧fv= .bool fb∧Hid (r.length < s.length)∧Hid (ClsAt w wr)) (fun rv _ _=>lenV rv)
 case atStart=>exact⟨r2,true,rfl,rfl,HR2,HAT⟩
 case round=>
  clear HR2 HAT;obtain⟨r,fb,rfl,rfl,HR,HAT⟩:=hrel;have hrz:=size_mk r;have hgo:∀(P:Prop),P→P:=fun _ h=>h;have HPR:=Zh (fun(h:Below w.heap.size w wr)=>HPT.out r wr (by have:=HLS.out;have:=HR.out;omega) (HMX.out wr h));have HH:=Zh (HHP.out r wr);obtain⟨hb,hhb⟩:∃hb,hasP r [93]=hb:=⟨_,rfl⟩;rw [hhb]at HH;have HLR:=Zh (show hb=true→1≤r.length from fun e=>hasP_le (hhb.trans e));clear hhb hgo;obtain⟨cs,hcs,hok,hbl⟩:=HAT.out;have HCS:=Zh hcs;have HOK:=Zh hok;have HBL:=Zh hbl;have HPR:=Zh (HPR.out hbl);clear hcs hok hbl HAT;cases fb
  case true=>
   go_wp2_with fail;refine HPR.out.mono ?_;rintro e w2 ⟨⟨v,r3,ok,rfl,hv⟩,hb2⟩;clear HPR;have HC2:=Zh ((hb2.block _ (Zaa HCS.out)).trans HCS.out);have HB2:=Zh (HBL.out.trans (hb2.mono HBL.out.size));clear hb2;cases ok
   case false=>
    clear hv;have HSZ:=Zh (show(Tryz.prog.info? 148).map (·.size)=some zbl.size by rw [zbl_ok.1];exact set256);have HON:=Zh zbl_ok.one;have HZC:=Zh (show cs.size=zbl.size by rw [zbl_ok.1,HOK.out.1]);go_wp2_with (refine wpList_store_row rfl 148 _ _ (by with_reducible rfl) w.heap.size zbl rfl rfl 148 cs HC2.out HSZ.out HZC.out HON.out ?_);refine bodyPost_ret (v:= .tuple #[.agg zbl,.int .i64 0,.int .i64 90]) (Zbx (p:=4) (q:=5) (r:=6) (by kernel_rfl) _ _ w.heap.size 148 zbl (0,0) _ _ _ rfl rfl rfl (setRow_heap _ _ _ _ _ _ HC2.out) Tryz.underlying148 rfl HSZ.out) rfl ?_;exact⟨.mk zbl_ok 0 0 90 rfl (fun h=>by cases h),Zde HB2.out (Nat.le_refl _) _⟩
   have HV:=Zh (hv rfl).1;have HLE:=Zh (hv rfl).2;obtain⟨fv,cv,rfl⟩:=(hv rfl).1.shape;clear hv;have HAD:=Zh (clsAdd w2 w.heap.size cs _ HC2.out HOK.out HV.out);go_wp2_with fail;refine HAD.out.mono ?_;rintro e w3 ⟨rfl,cs3,hc3,ho3,hk3⟩;have HN:=Zh (show ClsAt w w3 from⟨cs3,hc3,ho3,HB2.out.trans (hk3.below HB2.out.size (fun i e=>e▸Nat.le_refl _))⟩);clear hc3 ho3 hk3 HAD;go_wp2_with fail;go_roundw
   case rel=>exact⟨r3,false,rfl,rfl,Zh (Nat.lt_trans HLE.out HR.out),HN⟩
   case measure=>rw [lenV_mk,lenV_mk];exact HLE.out
  case false=>
   go_wp2_with fail;refine HH.out.mono ?_;rintro e w1 ⟨rfl,rfl⟩;clear HH;cases hb
   case false=>
    go_wp2_with fail;refine HPR.out.mono ?_;rintro e w2 ⟨⟨v,r3,ok,rfl,hv⟩,hb2⟩;clear HPR;have HC2:=Zh ((hb2.block _ (Zaa HCS.out)).trans HCS.out);have HB2:=Zh (HBL.out.trans (hb2.mono HBL.out.size));clear hb2;cases ok
    case false=>
     clear hv;have HSZ:=Zh (show(Tryz.prog.info? 148).map (·.size)=some zbl.size by rw [zbl_ok.1];exact set256);have HON:=Zh zbl_ok.one;have HZC:=Zh (show cs.size=zbl.size by rw [zbl_ok.1,HOK.out.1]);go_wp2_with (refine wpList_store_row rfl 148 _ _ (by with_reducible rfl) w.heap.size zbl rfl rfl 148 cs HC2.out HSZ.out HZC.out HON.out ?_);refine bodyPost_ret (v:= .tuple #[.agg zbl,.int .i64 0,.int .i64 90]) (Zbx (p:=4) (q:=5) (r:=6) (by kernel_rfl) _ _ w.heap.size 148 zbl (0,0) _ _ _ rfl rfl rfl (setRow_heap _ _ _ _ _ _ HC2.out) Tryz.underlying148 rfl HSZ.out) rfl ?_;exact⟨.mk zbl_ok 0 0 90 rfl (fun h=>by cases h),Zde HB2.out (Nat.le_refl _) _⟩
    have HV:=Zh (hv rfl).1;have HLE:=Zh (hv rfl).2;obtain⟨fv,cv,rfl⟩:=(hv rfl).1.shape;clear hv;have HAD:=Zh (clsAdd w2 w.heap.size cs _ HC2.out HOK.out HV.out);go_wp2_with fail;refine HAD.out.mono ?_;rintro e w3 ⟨rfl,cs3,hc3,ho3,hk3⟩;have HN:=Zh (show ClsAt w w3 from⟨cs3,hc3,ho3,HB2.out.trans (hk3.below HB2.out.size (fun i e=>e▸Nat.le_refl _))⟩);clear hc3 ho3 hk3 HAD;go_wp2_with fail;go_roundw
    case rel=>exact⟨r3,false,rfl,rfl,Zh (Nat.lt_trans HLE.out HR.out),HN⟩
    case measure=>rw [lenV_mk,lenV_mk];exact HLE.out
   case true=>
    have HR1:=Zh (HLR.out rfl);clear HLR HPR;go_wp2_with fail
    go_loopw [57] (fun kv wr=>∃k:Nat,kv= .int .i64 (k:Int)∧k≤256∧Hid (ClsAt w wr)) (fun kv _=>256 - (intOf kv).toNat)
    case atStart=>exact⟨0,rfl,by omega,Zh ⟨cs,HCS.out,HOK.out,HBL.out⟩⟩
    case round=>
     clear HCS HOK HBL;obtain⟨k,rfl,hk,HAT⟩:=hrel;obtain⟨cs,hcs,hok,hbl⟩:=HAT.out;have HCS:=Zh hcs;have HOK:=Zh hok;have HBL:=Zh hbl
     by_cases hlt:k < 256
     case neg=>
      have hki:¬(k:Int) < 256:=by omega
      have HSZ:=Zh (show(Tryz.prog.info? 148).map (·.size)=some cs.size by rw [HOK.out.1];exact set256);have HON:=Zh HOK.out.one;have hsl:=HLS.out;have hrl:=HR.out;clear hlt hcs hok hbl HAT
      go_wp2_with (first
       | (refine wpList_load_row rfl 148 _ (by with_reducible rfl) w.heap.size rfl 148 (cs) (0,0) _ HCS.out Tryz.underlying148 rfl HSZ.out ?_)
       | (refine wpList_store_row rfl 148 _ _ (by with_reducible rfl) w.heap.size (cs) rfl rfl 148 (cs) HCS.out HSZ.out rfl HON.out ?_))
      refine bodyPost_ret (v:= .tuple #[.agg (cs),.int .i64 ((s.length:Int) - (r.length:Int)+1),.int .i64 0]) (Zbx (p:=4) (q:=5) (r:=6) (by kernel_rfl) _ _ w.heap.size 148 (cs) (0,0) _ _ _ rfl rfl rfl (setRow_heap _ _ _ _ _ _ HCS.out) Tryz.underlying148 rfl HSZ.out) rfl ?_;exact⟨.mk HOK.out _ (s.length - r.length+1) 0 (by omega) (fun _=>by have:=HR1.out;omega),Zde HBL.out (Nat.le_refl _) _⟩
     have hki:(k:Int) < 256:=by omega
     obtain⟨x,hx⟩:=HOK.out.2 k hlt;have cS:wr.cell? ⟨w.heap.size,k,none⟩=some (.bool x):=by rw [Lib.cell_of_heap hcs];exact hx
     have g0:wr.frozen? ⟨w.heap.size,k,none⟩=false:=Lib.frozen_of_heap hcs k;have HN:=Zh (fun y:Bool=>(show ClsAt w (wr.setCell ⟨w.heap.size,k,none⟩ (.bool y)) from⟨_,Zay hcs _,hok.set k y,hbl.setCell (p:=⟨w.heap.size,k,none⟩) (Nat.le_refl _) _⟩));have HLT:=Zh hlt;clear hcs hok hbl HAT hx hlt HCS HOK HBL;go_wp2_with fail;go_roundw
     case rel=>exact⟨k+1,by go_num,by have:=HLT.out;omega,HN.out _⟩
     case measure=>have:=HLT.out;simp [intOf] <;> omega
open Go Go.Proofs Go.RowKit Go.Ink Go.Sort
def PatT (s:List UInt8)(e:Ending):Prop:=∃(re rest:List UInt8) (cl:Bool) (er:Int),e= .returned (.tuple #[.string ⟨re.toArray⟩,.string ⟨rest.toArray⟩,.bool cl,.int .i64 er])∧re.length≤s.length∧rest.length≤s.length∧(er=0→0 < s.length)
theorem PatT.no {s:List UInt8}(er:Int)(h:er≠0):PatT s (.returned (.tuple #[.string ⟨#[]⟩,.string ⟨#[]⟩,.bool false,.int .i64 er])):=⟨[],[],false,er,rfl,Nat.zero_le _,Nat.zero_le _,fun e=>absurd e h⟩
theorem reE_shape {w:World}{e:Ending}{w':World}(h:ReE w e w'):∃(v:Value) (er:Int),e= .returned (.tuple #[v,.int .i64 er]):=by
 rcases h with h | ⟨b,l,h,_⟩
 ·exact⟨_,_,h⟩
 ·exact⟨_,_,h⟩
theorem cmdPattern (s:List UInt8)(w:World)(hs:s.length≤100000)(hx:MaxW w):
 Calls Tryz.prog 98 #[.string ⟨s.toArray⟩] w fun e w'=>PatT s e∧Below w.heap.size w w':=by
 have hsz:=size_mk s;have HMX:=Zh hx;have HLS:=Zh hs;clear hx;cases s with
 | nil=>
   go_enter Tryz.func98,Tryz.ntmps98;go_wp2_with fail;go_returns;exact⟨.no 90 (by decide),Below.refl _ _⟩
 | cons d r=>
   have hby:∀h,(⟨(d::r).toArray⟩:ByteArray)[0]'h=d:=fun _=>rfl;have hl0:0 < (d::r).length:=Nat.succ_pos _;have hl0i:(0:Int) < ((d::r).length:Int):=by omega
   have h0b:(d::r).isEmpty=false:=rfl;have h0d:((d::r)==[])=false:=rfl;have hne:¬(d::r)=[]:=by simp
   have HDL:=Zh (fun X:World=>(show Calls Tryz.prog 99 #[.string ⟨(d::r).toArray⟩,.int .i64 1,.int .u8 (d.toNat:Int)] X fun e w'=>DelE (d::r) 1 e∧Below X.heap.size X w' from adrDelimited (d::r) 1 d X (by omega) (by omega)));generalize hdr:d::r=q at *;clear hdr
   by_cases h32:(d.toNat:Int)=32
   case pos=>
    have h32b:((d.toNat:Int)==32)=true:=Zt h32;clear h32;go_enter Tryz.func98,Tryz.ntmps98;go_wp2_with fail;go_returns;exact⟨.no 90 (by decide),Below.refl _ _⟩
   have h32b:((d.toNat:Int)==32)=false:=Zf h32
   by_cases h92:(d.toNat:Int)=92
   case pos=>
    have h92b:((d.toNat:Int)==92)=true:=Zt h92;clear h92;go_enter Tryz.func98,Tryz.ntmps98;go_wp2_with fail;go_returns;exact⟨.no 90 (by decide),Below.refl _ _⟩
   have h92b:((d.toNat:Int)==92)=false:=Zf h92;go_enter Tryz.func98,Tryz.ntmps98;go_wp2_with fail;refine(HDL.out _).mono ?_;rintro e w1 ⟨⟨o,n,cl,rfl,ho,hn1,hn2⟩,hb1⟩;have hnl:n≤q.length:=by omega
   have hni:(n:Int)≤(q.length:Int):=by omega
   have he1:=Zcb q n;obtain⟨t,ht⟩:∃t,q.drop n=t:=⟨_,rfl⟩;have HTL:=Zh (show t.length≤q.length by rw [← ht,List.length_drop];omega);rw [ht]at he1;have HB1:=Zh hb1;have HM1:=Zh (HMX.out.later hb1);have HO:=Zh ho;have HL0:=Zh hl0;have hoz:=size_mk o;clear hn1 hn2 hb1 ht hnl
   by_cases h0:o=[]
   case pos=>
    subst h0;clear hoz;go_wp2_with fail
    go_quiet (fail)
    go_wp2_with fail;go_returns;exact⟨⟨[],t,cl,0,rfl,Nat.zero_le _,HTL.out,fun _=>HL0.out⟩,belowD HB1.out _⟩
   have hob:o.isEmpty=false:=by cases o with | nil=>exact absurd rfl h0 | cons _ _=>rfl
   have hod:(o==[])=false:=Zf h0;have hon:(o !=[])=true:=bne_iff_ne.2 h0;have HBP:=Zh (breParse clsParse o w1 (by have:=HLS.out;omega) HM1.out);go_wp2_with fail;refine HBP.out.mono ?_;rintro e w2 ⟨hre,hb2⟩;obtain⟨v,er,rfl⟩:=reE_shape hre;have HB2:=Zh (HB1.out.trans (hb2.mono HB1.out.size));clear hre hb2 HBP
   by_cases her:er=0
   case neg=>
    have herb:(er !=0)=true:=bne_iff_ne.2 her;have HER:=Zh her;clear her;go_wp2_with fail;go_returns;exact⟨.no er HER.out,HB2.out⟩
   subst her;go_wp2_with fail
   go_quiet (fail)
   go_wp2_with fail;go_returns;exact⟨⟨o,t,cl,0,rfl,HO.out,HTL.out,fun _=>HL0.out⟩,belowD HB2.out _⟩
end Go.Proofs.YtndjgbehbgcpkaaGreatDoor
