/- Classes of bytes: a part of an expression. -/
import Derived.Test.YtndjgbehbgcpkaaGreatDoorCl2
import Derived.Deep.RegionHeld3
import Derived.Deep.QuietTactic
import Derived.BigQuiet
set_option linter.unusedVariables false
set_option linter.unusedSimpArgs false
set_option maxRecDepth 100000
set_option maxHeartbeats 4000000
namespace Go.Proofs.YtndjgbehbgcpkaaGreatDoor
open Go Go.Proofs Go.RowKit Go.Ink Go.Sort
def KindE (s:List UInt8)(e:Ending):Prop:=∃z:Int,e= .returned (.int .u8 z)∧(z≠0→2≤s.length)
theorem clsKind (s:List UInt8)(w:World):Calls Tryz.prog 249 #[.string ⟨s.toArray⟩] w fun e w'=>KindE s e∧w'=w:=by
 have hsz:=size_mk s
 by_cases h1:1 < s.length
 case neg=>
  have h1i:¬(1:Int) < (s.length:Int):=by omega
  clear h1;go_enter Tryz.func249,Tryz.ntmps249;go_wp2_with fail;go_returns;exact⟨⟨0,rfl,fun h=>(h rfl).elim⟩,rfl⟩
 have h1i:(1:Int) < (s.length:Int):=by omega
 have h0i:(0:Int) < (s.length:Int):=by omega
 obtain⟨c0,hk0⟩:∃c,s[0]? =some c:=⟨_,Zg (by omega)⟩;obtain⟨c1,hk1⟩:∃c,s[1]? =some c:=⟨_,Zg h1⟩;have hb0:=mk_at hk0;have hb1:=mk_at hk1;have HL:=Zh (show 2≤s.length from h1);clear hk0 hk1 h1
 by_cases h91:(c0.toNat:Int)=91
 case neg=>
  have h91b:((c0.toNat:Int)==91)=false:=Zf h91;clear h91;go_enter Tryz.func249,Tryz.ntmps249;go_wp2_with fail;go_returns;exact⟨⟨0,rfl,fun h=>(h rfl).elim⟩,rfl⟩
 have h91b:((c0.toNat:Int)==91)=true:=Zt h91;have HIB:=Zh (Tryz.strings_IndexByte ⟨#[58,46,61]⟩ (c1.toNat:Int) w);clear h91;go_enter Tryz.func249,Tryz.ntmps249;go_wp2_with fail;refine HIB.out.mono ?_;generalize Lib.indexByte _ _=z;rintro e w1 ⟨rfl,rfl⟩
 by_cases hz:0≤z
 ·go_wp2_with fail
  go_returns;exact⟨⟨_,rfl,fun _=>HL.out⟩,rfl⟩
 ·go_wp2_with fail
  go_returns;exact⟨⟨0,rfl,fun h=>(h rfl).elim⟩,rfl⟩
def PrtE (s:List UInt8)(e:Ending)(w':World):Prop:=∃(v:Value) (rest:List UInt8) (ok:Bool),e= .returned (.tuple #[v,.string ⟨rest.toArray⟩,.bool ok])∧(ok=true→IsV w' v∧rest.length < s.length)
theorem cut_len (l sep:List UInt8):(Lib.cut l sep).2.1.length≤l.length:=by
 unfold Lib.cut
 split
 ·show(l.drop _).length≤_
  rw [List.length_drop];omega
 ·exact Nat.zero_le _
theorem clsPart (s:List UInt8)(w:World)(hs:s.length≤100000)(hx:MaxW w):Calls Tryz.prog 224 #[.string ⟨s.toArray⟩] w fun e w'=>PrtE s e w'∧Below w.heap.size w w':=by
 have hsz:=size_mk s;have HLS:=Zh hs;have HKD:=Zh (clsKind s w);go_enter Tryz.func224,Tryz.ntmps224;go_wp2_with fail;refine HKD.out.mono ?_;rintro e w1 ⟨⟨z,rfl,hz2⟩,rfl⟩;clear HKD
 by_cases h0:s=[]
 case pos=>
  subst h0;go_wp2_with fail;go_returns;exact⟨⟨_,[],false,rfl,fun h=>by cases h⟩,Below.refl _ _⟩
 have h0b:s.isEmpty=false:=by cases s with | nil=>exact absurd rfl h0 | cons _ _=>rfl
 have hl0:0 < s.length:=List.length_pos_iff.2 h0
 by_cases h58:z=58
 case pos=>
  have h58b:(z==58)=true:=Zt h58;have hl2:2≤s.length:=hz2 (by omega);have hl2i:(2:Int)≤(s.length:Int):=by omega
  have he:=Zcb s 2;obtain⟨t,ht⟩:∃t,s.drop 2=t:=⟨_,rfl⟩;have HTL:=Zh (show t.length+2=s.length by rw [← ht,List.length_drop];omega);rw [ht]at he;obtain⟨m,hm⟩:=hx;have HCT:=Zh (Tryz.strings_Cut ⟨t.toArray⟩ ⟨#[58,93]⟩ m w1 (by rw [size_mk];have:=HLS.out;have:=HTL.out;omega) hm);have hcl:=cut_len t [58,93];obtain⟨nm,hnm⟩:∃nm,(Lib.cut t [58,93]).1=nm:=⟨_,rfl⟩;obtain⟨rs,hrs⟩:∃rs,(Lib.cut t [58,93]).2.1=rs:=⟨_,rfl⟩;obtain⟨fd,hfd⟩:∃fd,(Lib.cut t [58,93]).2.2=fd:=⟨_,rfl⟩;have HCT2:=Zh (show Calls Tryz.prog 250 #[.string ⟨t.toArray⟩,.string ⟨#[58,93]⟩] w1 fun e w'=>e= .returned (.tuple #[.string ⟨nm.toArray⟩,.string ⟨rs.toArray⟩,.bool fd])∧∃n,w'=w1.drewN n by
   have h:=HCT.out;have e1:(⟨#[58,93]⟩:ByteArray).data.toList=[58,93]:=rfl;have e2:(⟨t.toArray⟩:ByteArray).data.toList=t:=by simp
   rw [e1,e2,hnm,hrs,hfd]at h;exact h)
  rw [hrs]at hcl;have HRS:=Zh (show rs.length < s.length by have:=HTL.out;omega);have hnl:nm.length≤s.length:=by
   rw [← hnm];unfold Lib.cut;have:=HTL.out
   split
   ·show(t.take _).length≤_
    rw [List.length_take];omega
   ·show t.length≤_
    omega
  have hnz:=size_mk nm;clear ht hcl hnm hrs hfd HCT h58 hz2 hl2 h0 hl0 hm;go_wp2_with fail;refine HCT2.out.mono ?_;rintro e w2 ⟨rfl,n,rfl⟩;have HND:=Zh (named_any (w1.drewN n));clear HCT2;go_wp2_with fail;refine HND.out.mono ?_;rintro e w3 ⟨⟨v,rfl,hmv⟩,hb3⟩;obtain⟨r,es,c,rfl,hr,hes,-⟩:=hmv;obtain⟨u,ok,hlk,hok⟩:=Inv.run_look_str (P:=Tryz.prog) Tryz.underlying345 Tryz.underlying9 (z:= .nilFunc) (fun w=>Tryz.zeroValue305 w) hr hes ⟨nm.toArray⟩;have HB3:=Zh ((show Below w1.heap.size w1 (w1.drewN n) from⟨rfl,rfl,rfl,Nat.le_refl _,fun _ _=>rfl⟩).trans hb3);clear HND hr hes hb3;cases ok
  case false=>
   clear hok;go_wp2_with fail;go_returns;exact⟨⟨u,rs,false,rfl,fun h=>by cases h⟩,HB3.out⟩
  have HV:=Zh (hok rfl);clear hok;go_wp2_with fail;go_returns;exact⟨⟨u,rs,_,rfl,fun _=>⟨HV.out,HRS.out⟩⟩,HB3.out⟩
 have h58b:(z==58)=false:=Zf h58;clear h58
 by_cases hz0:z=0
 case neg=>
  have hzb:(z !=0)=true:=bne_iff_ne.2 hz0;clear hz0;go_wp2_with fail;go_returns;exact⟨⟨_,[],false,rfl,fun h=>by cases h⟩,Below.refl _ _⟩
 subst hz0;have hl0i:(0:Int) < (s.length:Int):=by omega
 have hl1i:(1:Int)≤(s.length:Int):=by omega
 obtain⟨c0,hk0⟩:∃c,s[0]? =some c:=⟨_,Zg hl0⟩;have hb0:=mk_at hk0;have HL0:=Zh hl0;have key:∀(k:Nat),0 < k→(s.drop k).length < s.length:=fun k hk=>by have:=HL0.out;rw [List.length_drop];omega
 have HKEY:=Zh key;have he1:=Zcb s 1;have he2:=Zcb s 2;have he3:=Zcb s 3;obtain⟨s1,hs1⟩:∃t,s.drop 1=t:=⟨_,rfl⟩;obtain⟨s2,hs2⟩:∃t,s.drop 2=t:=⟨_,rfl⟩;obtain⟨s3,hs3⟩:∃t,s.drop 3=t:=⟨_,rfl⟩;rw [hs1]at he1;rw [hs2]at he2;rw [hs3]at he3;have HS1:=Zh (show s1.length < s.length from hs1▸key 1 (by omega));have HS3:=Zh (show s3.length < s.length from hs3▸key 3 (by omega));have HSP:=Zh (fun(y:UInt8) (X:World)=>span_any c0 y X);have HK2:=Zh (fun(X:World)=>clsKind s2 X);clear hk0 h0 hz2 key hs1 hs2 hs3
 by_cases h2:(2:Int) < (s.length:Int)
 case pos=>
  have h1n:(1:Int) < (s.length:Int):=by omega
  have h2n:(2:Int)≤(s.length:Int):=by omega
  have h3n:(3:Int)≤(s.length:Int):=by omega
  obtain⟨c1,hk1⟩:∃c,s[1]? =some c:=⟨_,Zg (by omega)⟩;obtain⟨c2,hk2⟩:∃c,s[2]? =some c:=⟨_,Zg (by omega)⟩;have hb1:=mk_at hk1;have hb2:=mk_at hk2;clear hk1 hk2
  by_cases hy:(c1.toNat:Int)=45∧(c2.toNat:Int)≠93
  case pos=>
   have q1:((c1.toNat:Int)==45)=true:=by rw [beq_iff_eq];exact hy.1
   have q2:((c2.toNat:Int) !=93)=true:=bne_iff_ne.2 hy.2;clear hy
   by_cases hle:(c0.toNat:Int)≤(c2.toNat:Int)
   case pos=>
    go_wp2_with fail;refine wp_region_noPanic ?_;refine wp_region_any (by kernel_rfl) ?_;change wpAny _ _ _ _ 21 _ _ w1.drew;have hHeld:(fun _:World=>True) w1.drew:=trivial;refine wpAny_of_held (S:=fun _=>True) _ _ _ _ ?_;refine Zad (i:=0) (v:=?_) rfl (by kernel_rfl) (by kernel_rfl) (by kernel_rfl) (fun _ _ _ h=>h) (.inl ⟨by rfl,?_⟩) (by assumption) ?_;rotate_left
    ·intro w hSw
     (try dsimp only at hSw)
     go_simp
     (try with_reducible rfl)
    (try simp only [Act.put,Zs1,Zs2,Zs3])
    refine Zad (i:=1) (v:=?_) rfl (by kernel_rfl) (by kernel_rfl) (by kernel_rfl) (fun _ _ _ h=>h) (.inl ⟨by rfl,?_⟩) (by assumption) ?_;rotate_left
    ·intro w hSw
     (try dsimp only at hSw)
     go_simp
     (try with_reducible rfl)
    (try simp only [Act.put,Zs1,Zs2,Zs3])
    refine Zad (i:=2) (v:=?_) rfl (by kernel_rfl) (by kernel_rfl) (by kernel_rfl) (fun _ _ _ h=>h) (.inl ⟨by rfl,?_⟩) (by assumption) ?_;rotate_left
    ·intro w hSw
     (try dsimp only at hSw)
     go_simp
     (try with_reducible rfl)
    (try simp only [Act.put,Zs1,Zs2,Zs3])
    refine Zad (i:=3) (v:=?_) rfl (by kernel_rfl) (by kernel_rfl) (by kernel_rfl) (fun _ _ _ h=>h) (.inl ⟨by rfl,?_⟩) (by assumption) ?_;rotate_left
    ·intro w hSw
     (try dsimp only at hSw)
     go_simp
     (try with_reducible rfl)
    (try simp only [Act.put,Zs1,Zs2,Zs3])
    refine Zad (i:=5) (v:=?_) rfl (by kernel_rfl) (by kernel_rfl) (by kernel_rfl) (fun _ _ _ h=>h) (.inl ⟨by rfl,?_⟩) (by assumption) ?_;rotate_left
    ·intro w hSw
     (try dsimp only at hSw)
     go_simp
     (try with_reducible rfl)
    (try simp only [Act.put,Zs1,Zs2,Zs3])
    refine Zad (i:=6) (v:=?_) rfl (by kernel_rfl) (by kernel_rfl) (by kernel_rfl) (fun _ _ _ h=>h) (.inl ⟨by rfl,?_⟩) (by assumption) ?_;rotate_left
    ·intro w hSw
     (try dsimp only at hSw)
     go_simp
     (try with_reducible rfl)
    (try simp only [Act.put,Zs1,Zs2,Zs3])
    refine Zad (i:=7) (v:=?_) rfl (by kernel_rfl) (by kernel_rfl) (by kernel_rfl) (fun _ _ _ h=>h) (.inl ⟨by rfl,?_⟩) (by assumption) ?_;rotate_left
    ·intro w hSw
     (try dsimp only at hSw)
     go_simp
     (try with_reducible rfl)
    (try simp only [Act.put,Zs1,Zs2,Zs3])
    refine Zad (i:=8) (v:=?_) rfl (by kernel_rfl) (by kernel_rfl) (by kernel_rfl) (fun _ _ _ h=>h) (.inl ⟨by rfl,?_⟩) (by assumption) ?_;rotate_left
    ·intro w hSw
     (try dsimp only at hSw)
     go_simp
     (try with_reducible rfl)
    (try simp only [Act.put,Zs1,Zs2,Zs3])
    refine Zad (i:=9) (v:=?_) rfl (by kernel_rfl) (by kernel_rfl) (by kernel_rfl) (fun _ _ _ h=>h) (.inl ⟨by rfl,?_⟩) (by assumption) ?_;rotate_left
    ·intro w hSw
     (try dsimp only at hSw)
     go_simp
     (try with_reducible rfl)
    (try simp only [Act.put,Zs1,Zs2,Zs3])
    refine Zad (i:=10) (v:=?_) rfl (by kernel_rfl) (by kernel_rfl) (by kernel_rfl) (fun _ _ _ h=>h) (.inl ⟨by rfl,?_⟩) (by assumption) ?_;rotate_left
    ·intro w hSw
     (try dsimp only at hSw)
     go_simp
     (try with_reducible rfl)
    (try simp only [Act.put,Zs1,Zs2,Zs3])
    refine Zad (i:=11) (v:=?_) rfl (by kernel_rfl) (by kernel_rfl) (by kernel_rfl) (fun _ _ _ h=>h) (.inl ⟨by rfl,?_⟩) (by assumption) ?_;rotate_left
    ·intro w hSw
     (try dsimp only at hSw)
     go_simp
     (try with_reducible rfl)
    (try simp only [Act.put,Zs1,Zs2,Zs3])
    refine wpAnyH_ready (rs:=[4]) (by kernel_rfl) (by simp) ?_;refine AllReadyH.consL rfl (fun K hK=>?_) ?_
    ·go_simp
     (with_reducible refine(HSP.out _ _).mono ?_)
     rintro e w2 ⟨v,rfl,hv,hb⟩;obtain⟨fv,cv,rfl⟩:=hv.shape;have HV:=Zh hv;have HB:=Zh hb;clear hv hb;refine hK.out _ _ ?_ (fun hHeld=>?_)
     ·exact trivial
     clear hK K
     (try simp only [Zs1])
     refine Zad (i:=12) (v:=?_) rfl (by kernel_rfl) (by kernel_rfl) (by kernel_rfl) (fun _ _ _ h=>h) (.inl ⟨by rfl,?_⟩) (by assumption) ?_;rotate_left
     ·intro w hSw
      (try dsimp only at hSw)
      go_simp
      (try with_reducible rfl)
     (try simp only [Act.put,Zs1,Zs2,Zs3])
     refine Zad (i:=13) (v:=?_) rfl (by kernel_rfl) (by kernel_rfl) (by kernel_rfl) (fun _ _ _ h=>h) (.inl ⟨by rfl,?_⟩) (by assumption) ?_;rotate_left
     ·intro w hSw
      (try dsimp only at hSw)
      go_simp
      (try with_reducible rfl)
     (try simp only [Act.put,Zs1,Zs2,Zs3])
     refine Zad (i:=14) (v:=?_) rfl (by kernel_rfl) (by kernel_rfl) (by kernel_rfl) (fun _ _ _ h=>h) (.inl ⟨by rfl,?_⟩) (by assumption) ?_;rotate_left
     ·intro w hSw
      (try dsimp only at hSw)
      go_simp
      (try with_reducible rfl)
     (try simp only [Act.put,Zs1,Zs2,Zs3])
     refine wpAnyH_ready (rs:=[15]) (by kernel_rfl) (by simp) ?_;refine AllReadyH.consL rfl (fun K hK=>?_) ?_
     ·go_simp
      (with_reducible refine(HK2.out _).mono ?_)
      rintro e w3 ⟨⟨zk,rfl,hzk⟩,rfl⟩;clear hzk;refine hK.out _ _ ?_ (fun hHeld=>?_)
      ·exact trivial
      clear hK K
      (try simp only [Zs1])
      refine Zad (i:=16) (v:=?_) rfl (by kernel_rfl) (by kernel_rfl) (by kernel_rfl) (fun _ _ _ h=>h) (.inl ⟨by rfl,?_⟩) (by assumption) ?_;rotate_left
      ·intro w hSw
       (try dsimp only at hSw)
       go_simp
       (try with_reducible rfl)
      (try simp only [Act.put,Zs1,Zs2,Zs3])
      refine Zad (i:=17) (v:=?_) rfl (by kernel_rfl) (by kernel_rfl) (by kernel_rfl) (fun _ _ _ h=>h) (.inl ⟨by rfl,?_⟩) (by assumption) ?_;rotate_left
      ·intro w hSw
       (try dsimp only at hSw)
       go_simp
       (try with_reducible rfl)
      (try simp only [Act.put,Zs1,Zs2,Zs3])
      refine Zad (i:=18) (v:=?_) rfl (by kernel_rfl) (by kernel_rfl) (by kernel_rfl) (fun _ _ _ h=>h) (.inl ⟨by rfl,?_⟩) (by assumption) ?_;rotate_left
      ·intro w hSw
       (try dsimp only at hSw)
       go_simp
       (try with_reducible rfl)
      (try simp only [Act.put,Zs1,Zs2,Zs3])
      refine Zad (i:=19) (v:=?_) rfl (by kernel_rfl) (by kernel_rfl) (by kernel_rfl) (fun _ _ _ h=>h) (.inl ⟨by rfl,?_⟩) (by assumption) ?_;rotate_left
      ·intro w hSw
       (try dsimp only at hSw)
       go_simp
       (try with_reducible rfl)
      (try simp only [Act.put,Zs1,Zs2,Zs3])
      refine Zad (i:=20) (v:=?_) rfl (by kernel_rfl) (by kernel_rfl) (by kernel_rfl) (fun _ _ _ h=>h) (.inl ⟨by rfl,?_⟩) (by assumption) ?_;rotate_left
      ·intro w hSw
       (try dsimp only at hSw)
       go_simp
       (try with_reducible rfl)
      (try simp only [Act.put,Zs1,Zs2,Zs3])
      refine wpAnyH_done (by kernel_rfl) ?_ _;refine NoPanic.normal ?_;go_wp2_with fail;go_returns;exact⟨⟨_,s3,_,rfl,fun _=>⟨HV.out,HS3.out⟩⟩,(show Below w1.heap.size w1 w1.drew from⟨rfl,rfl,rfl,Nat.le_refl _,fun _ _=>rfl⟩).trans HB.out⟩
     exact AllReadyH.nil
    exact AllReadyH.nil
   case neg=>
    have hlf:decide (c0.toNat≤c2.toNat)=false:=decide_eq_false (by omega);go_wp2_with fail;refine wp_region_noPanic ?_;refine wp_region_any (by kernel_rfl) ?_;change wpAny _ _ _ _ 21 _ _ w1.drew;have hHeld:(fun _:World=>True) w1.drew:=trivial;refine wpAny_of_held (S:=fun _=>True) _ _ _ _ ?_;refine Zad (i:=0) (v:=?_) rfl (by kernel_rfl) (by kernel_rfl) (by kernel_rfl) (fun _ _ _ h=>h) (.inl ⟨by rfl,?_⟩) (by assumption) ?_;rotate_left
    ·intro w hSw
     (try dsimp only at hSw)
     go_simp
     (try with_reducible rfl)
    (try simp only [Act.put,Zs1,Zs2,Zs3])
    refine Zad (i:=1) (v:=?_) rfl (by kernel_rfl) (by kernel_rfl) (by kernel_rfl) (fun _ _ _ h=>h) (.inl ⟨by rfl,?_⟩) (by assumption) ?_;rotate_left
    ·intro w hSw
     (try dsimp only at hSw)
     go_simp
     (try with_reducible rfl)
    (try simp only [Act.put,Zs1,Zs2,Zs3])
    refine Zad (i:=2) (v:=?_) rfl (by kernel_rfl) (by kernel_rfl) (by kernel_rfl) (fun _ _ _ h=>h) (.inl ⟨by rfl,?_⟩) (by assumption) ?_;rotate_left
    ·intro w hSw
     (try dsimp only at hSw)
     go_simp
     (try with_reducible rfl)
    (try simp only [Act.put,Zs1,Zs2,Zs3])
    refine Zad (i:=3) (v:=?_) rfl (by kernel_rfl) (by kernel_rfl) (by kernel_rfl) (fun _ _ _ h=>h) (.inl ⟨by rfl,?_⟩) (by assumption) ?_;rotate_left
    ·intro w hSw
     (try dsimp only at hSw)
     go_simp
     (try with_reducible rfl)
    (try simp only [Act.put,Zs1,Zs2,Zs3])
    refine Zad (i:=5) (v:=?_) rfl (by kernel_rfl) (by kernel_rfl) (by kernel_rfl) (fun _ _ _ h=>h) (.inl ⟨by rfl,?_⟩) (by assumption) ?_;rotate_left
    ·intro w hSw
     (try dsimp only at hSw)
     go_simp
     (try with_reducible rfl)
    (try simp only [Act.put,Zs1,Zs2,Zs3])
    refine Zad (i:=6) (v:=?_) rfl (by kernel_rfl) (by kernel_rfl) (by kernel_rfl) (fun _ _ _ h=>h) (.inl ⟨by rfl,?_⟩) (by assumption) ?_;rotate_left
    ·intro w hSw
     (try dsimp only at hSw)
     go_simp
     (try with_reducible rfl)
    (try simp only [Act.put,Zs1,Zs2,Zs3])
    refine Zad (i:=7) (v:=?_) rfl (by kernel_rfl) (by kernel_rfl) (by kernel_rfl) (fun _ _ _ h=>h) (.inl ⟨by rfl,?_⟩) (by assumption) ?_;rotate_left
    ·intro w hSw
     (try dsimp only at hSw)
     go_simp
     (try with_reducible rfl)
    (try simp only [Act.put,Zs1,Zs2,Zs3])
    refine Zad (i:=8) (v:=?_) rfl (by kernel_rfl) (by kernel_rfl) (by kernel_rfl) (fun _ _ _ h=>h) (.inl ⟨by rfl,?_⟩) (by assumption) ?_;rotate_left
    ·intro w hSw
     (try dsimp only at hSw)
     go_simp
     (try with_reducible rfl)
    (try simp only [Act.put,Zs1,Zs2,Zs3])
    refine Zad (i:=9) (v:=?_) rfl (by kernel_rfl) (by kernel_rfl) (by kernel_rfl) (fun _ _ _ h=>h) (.inl ⟨by rfl,?_⟩) (by assumption) ?_;rotate_left
    ·intro w hSw
     (try dsimp only at hSw)
     go_simp
     (try with_reducible rfl)
    (try simp only [Act.put,Zs1,Zs2,Zs3])
    refine Zad (i:=10) (v:=?_) rfl (by kernel_rfl) (by kernel_rfl) (by kernel_rfl) (fun _ _ _ h=>h) (.inl ⟨by rfl,?_⟩) (by assumption) ?_;rotate_left
    ·intro w hSw
     (try dsimp only at hSw)
     go_simp
     (try with_reducible rfl)
    (try simp only [Act.put,Zs1,Zs2,Zs3])
    refine Zad (i:=11) (v:=?_) rfl (by kernel_rfl) (by kernel_rfl) (by kernel_rfl) (fun _ _ _ h=>h) (.inl ⟨by rfl,?_⟩) (by assumption) ?_;rotate_left
    ·intro w hSw
     (try dsimp only at hSw)
     go_simp
     (try with_reducible rfl)
    (try simp only [Act.put,Zs1,Zs2,Zs3])
    refine wpAnyH_ready (rs:=[4]) (by kernel_rfl) (by simp) ?_;refine AllReadyH.consL rfl (fun K hK=>?_) ?_
    ·go_simp
     (with_reducible refine(HSP.out _ _).mono ?_)
     rintro e w2 ⟨v,rfl,hv,hb⟩;obtain⟨fv,cv,rfl⟩:=hv.shape;have HV:=Zh hv;have HB:=Zh hb;clear hv hb;refine hK.out _ _ ?_ (fun hHeld=>?_)
     ·exact trivial
     clear hK K
     (try simp only [Zs1])
     refine Zad (i:=12) (v:=?_) rfl (by kernel_rfl) (by kernel_rfl) (by kernel_rfl) (fun _ _ _ h=>h) (.inl ⟨by rfl,?_⟩) (by assumption) ?_;rotate_left
     ·intro w hSw
      (try dsimp only at hSw)
      go_simp
      (try with_reducible rfl)
     (try simp only [Act.put,Zs1,Zs2,Zs3])
     (try simp only [hlf])
     refine Zad (i:=13) (v:=undef) rfl (by kernel_rfl) (by kernel_rfl) (by kernel_rfl) (fun _ _ _ h=>h) (Or.inr ⟨by rfl,rfl⟩) (by assumption) ?_
     (try simp only [Act.put,Zs1,Zs2,Zs3])
     refine Zad (i:=14) (v:=undef) rfl (by kernel_rfl) (by kernel_rfl) (by kernel_rfl) (fun _ _ _ h=>h) (Or.inr ⟨by rfl,rfl⟩) (by assumption) ?_
     (try simp only [Act.put,Zs1,Zs2,Zs3])
     refine Zad (i:=15) (v:=undef) rfl (by kernel_rfl) (by kernel_rfl) (by kernel_rfl) (fun _ _ _ h=>h) (Or.inr ⟨by rfl,rfl⟩) (by assumption) ?_
     (try simp only [Act.put,Zs1,Zs2,Zs3])
     refine Zad (i:=16) (v:=undef) rfl (by kernel_rfl) (by kernel_rfl) (by kernel_rfl) (fun _ _ _ h=>h) (Or.inr ⟨by rfl,rfl⟩) (by assumption) ?_
     (try simp only [Act.put,Zs1,Zs2,Zs3])
     refine Zad (i:=17) (v:=?_) rfl (by kernel_rfl) (by kernel_rfl) (by kernel_rfl) (fun _ _ _ h=>h) (.inl ⟨by rfl,?_⟩) (by assumption) ?_;rotate_left
     ·intro w hSw
      (try dsimp only at hSw)
      go_simp
      (try with_reducible rfl)
     (try simp only [Act.put,Zs1,Zs2,Zs3])
     refine Zad (i:=18) (v:=?_) rfl (by kernel_rfl) (by kernel_rfl) (by kernel_rfl) (fun _ _ _ h=>h) (.inl ⟨by rfl,?_⟩) (by assumption) ?_;rotate_left
     ·intro w hSw
      (try dsimp only at hSw)
      go_simp
      (try with_reducible rfl)
     (try simp only [Act.put,Zs1,Zs2,Zs3])
     refine Zad (i:=19) (v:=?_) rfl (by kernel_rfl) (by kernel_rfl) (by kernel_rfl) (fun _ _ _ h=>h) (.inl ⟨by rfl,?_⟩) (by assumption) ?_;rotate_left
     ·intro w hSw
      (try dsimp only at hSw)
      go_simp
      (try with_reducible rfl)
     (try simp only [Act.put,Zs1,Zs2,Zs3])
     refine Zad (i:=20) (v:=?_) rfl (by kernel_rfl) (by kernel_rfl) (by kernel_rfl) (fun _ _ _ h=>h) (.inl ⟨by rfl,?_⟩) (by assumption) ?_;rotate_left
     ·intro w hSw
      (try dsimp only at hSw)
      go_simp
      (try with_reducible rfl)
     (try simp only [Act.put,Zs1,Zs2,Zs3])
     refine wpAnyH_done (by kernel_rfl) ?_ _;refine NoPanic.normal ?_;go_wp2_with fail;go_returns;exact⟨⟨_,s3,_,rfl,fun _=>⟨HV.out,HS3.out⟩⟩,(show Below w1.heap.size w1 w1.drew from⟨rfl,rfl,rfl,Nat.le_refl _,fun _ _=>rfl⟩).trans HB.out⟩
    exact AllReadyH.nil
  case neg=>
   by_cases q1:(c1.toNat:Int)=45
   case pos=>
    have q2:((c2.toNat:Int) !=93)=false:=by
     have:(c2.toNat:Int)=93:=Classical.byContradiction fun hn=>hy ⟨q1,hn⟩;rw [this];rfl
    have q1b:((c1.toNat:Int)==45)=true:=Zt q1;clear hy q1;go_wp2_with fail
    go_region_held3 (fun _=>True) (trivial) (first
     | ((with_reducible refine(HSP.out _ _).mono ?_);rintro e w2 ⟨v,rfl,hv,hb⟩;obtain⟨fv,cv,rfl⟩:=hv.shape;have HV:=Zh hv;have HB:=Zh hb;clear hv hb)
     | (fail "no arm"))
    all_goals(go_wp2_with fail;go_returns;exact⟨⟨_,s1,_,rfl,fun _=>⟨HV.out,HS1.out⟩⟩,(show Below w1.heap.size w1 w1.drew from⟨rfl,rfl,rfl,Nat.le_refl _,fun _ _=>rfl⟩).trans HB.out⟩)
   case neg=>
    have q1b:((c1.toNat:Int)==45)=false:=Zf q1;clear hy q1;go_wp2_with fail
    go_region_held3 (fun _=>True) (trivial) (first
     | ((with_reducible refine(HSP.out _ _).mono ?_);rintro e w2 ⟨v,rfl,hv,hb⟩;obtain⟨fv,cv,rfl⟩:=hv.shape;have HV:=Zh hv;have HB:=Zh hb;clear hv hb)
     | (fail "no arm"))
    all_goals(go_wp2_with fail;go_returns;exact⟨⟨_,s1,_,rfl,fun _=>⟨HV.out,HS1.out⟩⟩,(show Below w1.heap.size w1 w1.drew from⟨rfl,rfl,rfl,Nat.le_refl _,fun _ _=>rfl⟩).trans HB.out⟩)
 case neg=>
  go_wp2_with fail
  go_region_held3 (fun _=>True) (trivial) (first
   | ((with_reducible refine(HSP.out _ _).mono ?_);rintro e w2 ⟨v,rfl,hv,hb⟩;obtain⟨fv,cv,rfl⟩:=hv.shape;have HV:=Zh hv;have HB:=Zh hb;clear hv hb)
   | (fail "no arm"))
  all_goals(go_wp2_with fail;go_returns;exact⟨⟨_,s1,_,rfl,fun _=>⟨HV.out,HS1.out⟩⟩,(show Below w1.heap.size w1 w1.drew from⟨rfl,rfl,rfl,Nat.le_refl _,fun _ _=>rfl⟩).trans HB.out⟩)
end Go.Proofs.YtndjgbehbgcpkaaGreatDoor
