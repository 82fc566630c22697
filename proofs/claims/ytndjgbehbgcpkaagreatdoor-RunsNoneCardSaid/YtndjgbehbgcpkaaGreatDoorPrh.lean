/- The reference's reader of patterns: nodes, and trees of them. -/
import Derived.Test.YtndjgbehbgcpkaaGreatDoorPrd
import Derived.Test.YtndjgbehbgcpkaaGreatDoorCo2
set_option linter.unusedVariables false
set_option linter.unusedSimpArgs false
set_option maxHeartbeats 4000000
namespace Go.Proofs.YtndjgbehbgcpkaaGreatDoor
open Go Go.Proofs Go.RowKit Go.Ink Go.Sort
structure NdC (nc:Array Value) (kid:Value):Prop where
 size:nc.size=262
 one:nc.all (·.oneCell')=true
 kind:∃k:Int,nc[0]? =some (.int .i64 k)
 min_:∃k:Int,nc[259]? =some (.int .i64 k)
 max_:∃k:Int,nc[260]? =some (.int .i64 k)
 kids:nc[261]? =some kid
inductive Tree (w:World) (S:Nat→Prop):Value→Prop
 | nil:Tree w S (.slice none 0 0)
 | row (b n cap:Nat) (cs:Array Value) (T:TypeId) (fr:Nat×Nat) (nc:Nat→Array Value) (kid:Nat→Value) (hS:¬S b) (hh:w.heap[b]? =some (.cells cs T fr)) (hn:n≤maxLen) (hc:∀i,i < n→NdC (nc i) (kid i)) (hv:∀i,i < n→∀j u,(nc i)[j]? =some u→cs[262 * i+j]? =some u) (hk:∀i,i < n→Tree w S (kid i)):Tree w S (.slice (some ⟨b,0,none⟩) n cap)
section
variable {w w':World}{S S':Nat→Prop}{v:Value}
theorem Tree.kept {Z:Nat→Prop}(h:Tree w S v)(hk:KeepT Z w w')(hz:∀j,Z j→S j):Tree w' S v:=by
 induction h with
 | nil=>exact .nil
 | row b n cap cs T fr nc kid hS hh hn hc hv _ ih=>exact .row b n cap cs T fr nc kid hS ((hk.block b (Zaa hh) (fun e=>hS (hz b e))).trans hh) hn hc hv ih
theorem Tree.later (h:Tree w S v)(hb:Below w.heap.size w w'):Tree w' S v:=h.kept (KeepT.of_below (S:=fun _=>False) hb) (fun _ h=>h.elim)
theorem Tree.mono (h:Tree w S v)(hs:∀j,j < w.heap.size→S' j→S j):Tree w S' v:=by
 induction h with
 | nil=>exact .nil
 | row b n cap cs T fr nc kid hS hh hn hc hv _ ih=>exact .row b n cap cs T fr nc kid (fun e=>hS (hs b (Zaa hh) e)) hh hn hc hv ih
end
structure NodesOwn (w:World) (B:Nat) (v:Value) (l:List (Array Value×Value)):Prop where
 row:w.ownsRow B 193 262 v l.length (l.flatMap fun x=>x.1.toList)
 ok:∀x∈l,NdC x.1 x.2∧Tree w (fun j=>j < B∨v.ownBlock=some j) x.2
section
variable {w w':World}{B:Nat}{v:Value}{l:List (Array Value×Value)}
theorem NodesOwn.nil (w:World)(B:Nat):NodesOwn w B (.slice none 0 0) []:=⟨World.ownsRow_nil _ _ _ _,by simp⟩
theorem NodesOwn.kept {Z:Nat→Prop}(h:NodesOwn w B v l)(hk:KeepT Z w w')(hz:∀j,Z j→j < B):NodesOwn w' B v l:=by
 refine⟨Zda hk h.row (fun b hb e=>?_),fun x hx=>⟨(h.ok x hx).1,(h.ok x hx).2.kept hk (fun j e=> .inl (hz j e))⟩⟩;have h1:=(h.row.lt b hb).1;have h2:=hz b e;omega
theorem NodesOwn.later (h:NodesOwn w B v l)(hb:Below w.heap.size w w'):NodesOwn w' B v l:=h.kept (KeepT.of_below (S:=fun _=>False) hb) (fun _ h=>h.elim)
theorem NodesOwn.shape (h:NodesOwn w B v l):∃ao cap,v= .slice ao l.length cap:=by
 rcases h.row.2 with⟨rfl,hn⟩ | ⟨g,cap,cur,rfl,_⟩
 ·rw [hn];exact⟨_,_,rfl⟩
 ·exact⟨_,_,rfl⟩
theorem nodes_get:∀{l:List (Array Value×Value)} {k:Nat} {x:Array Value×Value} (_:∀y∈l,y.1.size=262) (_:l[k]? =some x) (j:Nat) (_:j < 262),(l.flatMap fun x=>x.1.toList)[262 * k+j]? =x.1[j]?
 | [],_,_,_,hk,_,_=>by cases hk
 | y::r,0,x,hs,hk,j,hj=>by
   simp only [List.getElem?_cons_zero,Option.some.injEq]at hk;subst hk;have hl:y.1.toList.length=262:=by simpa using hs y (by simp)
   rw [List.flatMap_cons,List.getElem?_append_left (by omega),Nat.mul_zero,Nat.zero_add];simp
 | y::r,k+1,x,hs,hk,j,hj=>by
   have hl:y.1.toList.length=262:=by simpa using hs y (by simp)
   rw [List.flatMap_cons,List.getElem?_append_right (by omega),show 262 * (k+1)+j - y.1.toList.length=262 * k+j by omega];exact nodes_get (fun y hy=>hs y (by simp [hy])) (by simpa using hk) j hj
theorem NodesOwn.tree (h:NodesOwn w B v l):Tree w (fun j=>j < B) v:=by
 rcases h.row.2 with⟨rfl,hn⟩ | ⟨g,cap,cur,rfl,hb,hh,hnc,hcm,hcs,hx⟩
 ·exact .nil
 ·refine .row g l.length cap cur _ _ (fun i=>(l[i]?.getD (#[],.slice none 0 0)).1) (fun i=>(l[i]?.getD (#[],.slice none 0 0)).2) (by omega) hh (by omega) (fun i hi=>?_) (fun i hi j u hj=>?_) (fun i hi=>?_)
  ·have e:=Zg hi
   rw [e];exact(h.ok _ (List.getElem_mem hi)).1
  ·have e:=Zg hi
   rw [e]at hj;simp only [Option.getD_some]at hj;have hz:∀y∈l,y.1.size=262:=fun y hy=>(h.ok y hy).1.size;have hj2:j < 262:=by
    have:=(Array.getElem?_eq_some_iff.1 hj).1;rw [hz _ (List.getElem_mem hi)]at this;exact this
   have hg:=nodes_get hz e j hj2;rw [hj,← hx,List.getElem?_take_of_lt (by omega)]at hg;simpa using hg
  ·have e:=Zg hi
   rw [e];exact(h.ok _ (List.getElem_mem hi)).2.mono (fun j _ hj=> .inl hj)
theorem nod_info:(Tryz.prog.info? 193).map (fun i=>(i.size,i.bytes,i.zero.map fun z=>z.cells.size))=some (262,320,some 262):=by kernel_rfl
theorem nod_parts:∃(ie:TypeInfo) (z:Value),Tryz.prog.info? 193=some ie∧ie.zero=some z∧ie.size=262∧ie.bytes=320∧z.cells.size=262:=by
 have h:=nod_info;cases hi:Tryz.prog.info? 193 with
 | none=>rw [hi]at h;cases h
 | some ie=>
   rw [hi]at h;simp only [Option.map_some,Option.some.injEq,Prod.mk.injEq]at h;obtain⟨h1,h2,h3⟩:=h;cases hz:ie.zero with
   | none=>rw [hz]at h3;cases h3
   | some z=>
     rw [hz]at h3;simp only [Option.map_some,Option.some.injEq]at h3;exact⟨ie,z,rfl,hz,h1,h2,h3⟩
def ndPl:Array (Nat×Nat):=#[(0,1),(1,1),(2,256),(258,1),(259,1),(260,1),(261,1)]
noncomputable def ndZ:Array Value:=Tryz.zeroCells193
theorem nd_built (parts:List (Nat×Value)):Tryz.prog.built 193 parts=Instr.fill (ndPl[·]?) ndZ parts:=by kernel_rfl
theorem Zbq:NdC ndZ (.slice none 0 0):=by
 refine⟨by kernel_rfl,by kernel_rfl,⟨0,by kernel_rfl⟩,⟨0,by kernel_rfl⟩,⟨0,by kernel_rfl⟩,by kernel_rfl⟩
theorem NdC.part {nc:Array Value}{kid:Value}(h:NdC nc kid)(i:Nat)(v:Value)(kid':Value)(off:Nat)(hp:ndPl[i]? =some (off,1))(hv:v.oneCell'=true)(hc:v.cells=#[v])
 (h0:(off=0∨off=259∨off=260)→∃k,v= .int .i64 k) (h1:off=261→kid'=v) (h2:off≠261→kid'=kid):NdC (Fil.put nc off v.cells) kid':=by
 have ho:off < 262:=by
  match i,hp with
  | 0,hp | 1,hp | 2,hp | 3,hp | 4,hp | 5,hp | 6,hp=>
    simp only [ndPl,List.getElem?_toArray,List.getElem?_cons_zero,List.getElem?_cons_succ,Option.some.injEq,Prod.mk.injEq]at hp;omega
  | n+7,hp=>simp [ndPl]at hp
 have hsz:v.cells.size=1:=by rw [hc];rfl
 have hfit:off+v.cells.size≤nc.size:=by rw [hsz,h.size];omega
 have hall:v.cells.all (·.oneCell')=true:=by
  rw [hc];simp [hv]
 have hg:∀j,(Fil.put nc off v.cells)[j]? =if off=j then some v else nc[j]?:=by
  intro j;rw [Fil.put_get nc off v.cells j hfit,hsz,hc]
  by_cases e:off=j
  ·subst e
   rw [if_pos (by omega),if_pos rfl,Nat.sub_self]
   rfl
  ·rw [if_neg (by omega),if_neg e]
 refine⟨by rw [Fil.put_size,h.size],Fil.put_all _ _ _ hfit h.one hall,?_,?_,?_,?_⟩
 ·rw [hg]
  split
  ·obtain⟨k,rfl⟩:=h0 (by omega)
   exact⟨k,rfl⟩
  ·exact h.kind
 ·rw [hg]
  split
  ·obtain⟨k,rfl⟩:=h0 (by omega)
   exact⟨k,rfl⟩
  ·exact h.min_
 ·rw [hg]
  split
  ·obtain⟨k,rfl⟩:=h0 (by omega)
   exact⟨k,rfl⟩
  ·exact h.max_
 ·rw [hg]
  split
  ·rename_i e
   rw [h1 e]
  ·rename_i e
   rw [h2 e];exact h.kids
theorem fill_nd {nc:Array Value}{kid:Value}(h:NdC nc kid)(i:Nat)(v:Value)(rest:List (Nat×Value))(off n:Nat)(hp:ndPl[i]? =some (off,n))(hv:v.cells.size=n)(ho:off+n≤262):
 Instr.fill (ndPl[·]?) nc ((i,v)::rest)=Instr.fill (ndPl[·]?) (Fil.put nc off v.cells) rest:=Fil.fill_cons hp hv (by rw [h.size];exact ho)
theorem NdC.set_ {nc:Array Value}{kid:Value}(h:NdC nc kid)(cs:Array Value)(hs:SetC cs):NdC (Fil.put nc 2 cs) kid:=by
 have hfit:2+cs.size≤nc.size:=by rw [hs.1,h.size];omega
 have hg:∀j,¬(2≤j∧j < 258)→(Fil.put nc 2 cs)[j]? =nc[j]?:=by
  intro j hj;rw [Fil.put_get nc 2 cs j hfit,hs.1,if_neg (by omega)]
 refine⟨by rw [Fil.put_size,h.size],Fil.put_all _ _ _ hfit h.one hs.one,?_,?_,?_,?_⟩
 ·rw [hg _ (by omega)];exact h.kind
 ·rw [hg _ (by omega)];exact h.min_
 ·rw [hg _ (by omega)];exact h.max_
 ·rw [hg _ (by omega)];exact h.kids
end
open Go Go.Proofs Go.RowKit Go.Ink
def spB (s:List UInt8)(a:Nat):Bool:=match s[a]?,s[a+1]? with
 | some d,some f=>((d.toNat:Int)==91) && (((f.toNat:Int)==58) || ((f.toNat:Int)==46) || ((f.toNat:Int)==61))
 | _,_=>false
theorem spB_lt {s:List UInt8}{a:Nat}(h:spB s a=true):a+1 < s.length:=by
 unfold spB at h
 split at h
 ·rename_i h2
  exact(List.getElem?_eq_some_iff.1 h2).1
 ·cases h
theorem spB_at {s:List UInt8}{a:Nat}{d f:UInt8}(h1:s[a]? =some d)(h2:s[a+1]? =some f):spB s a=(((d.toNat:Int)==91) && (((f.toNat:Int)==58) || ((f.toNat:Int)==46) || ((f.toNat:Int)==61))):=by
 unfold spB;rw [h1,h2]
theorem refSpecial (s:List UInt8)(a:Nat)(w:World)(hs:s.length≤1000000)(ha:a≤1000000):
 Calls Tryz.prog 245 #[.string ⟨s.toArray⟩,.int .i64 (a:Int)] w fun e w'=>e= .returned (.bool (spB s a))∧w'=w:=by
 have hsz:=size_mk s
 by_cases hl2:a+1 < s.length
 case neg=>
  have hl2i:¬(a:Int)+1 < (s.length:Int):=by omega
  have hsp:spB s a=false:=by
   cases h:spB s a with
   | false=>rfl
   | true=>exact absurd (spB_lt h) hl2
  rw [hsp];go_enter Tryz.func245,Tryz.ntmps245;go_wp2_with fail;go_returns;exact⟨rfl,rfl⟩
 have hlt:a < s.length:=by omega
 have hki:(a:Int) < (s.length:Int):=by omega
 obtain⟨d,hkd⟩:∃d,s[a]? =some d:=⟨_,Zg hlt⟩;have hby:=Zak hkd;obtain⟨f,hkf⟩:∃f,s[a+1]? =some f:=⟨_,Zg hl2⟩;have hby2:=Zak hkf;obtain⟨hz0,hz1,hz2,hz3⟩:=Zew a s.length hlt;obtain⟨hy0,hy1,hy2,hy3,hy4⟩:=idx_two a s.length hl2;have hsp:=spB_at hkd hkf;clear hkd hkf
 by_cases h91:(d.toNat:Int)=91
 case neg=>
  have h91b:((d.toNat:Int)==91)=false:=Zf h91;rw [h91b,Bool.false_and]at hsp;rw [hsp];clear hsp;go_enter Tryz.func245,Tryz.ntmps245;go_wp2_with fail;go_returns;exact⟨rfl,rfl⟩
 have h91b:((d.toNat:Int)==91)=true:=Zt h91;clear h91
 by_cases h58:(f.toNat:Int)=58
 case pos=>
  have h58b:((f.toNat:Int)==58)=true:=Zt h58;clear h58;rw [h91b,h58b,Bool.true_or,Bool.true_or,Bool.true_and]at hsp;rw [hsp];clear hsp;go_enter Tryz.func245,Tryz.ntmps245;go_wp2_with fail;go_returns;exact⟨rfl,rfl⟩
 have h58b:((f.toNat:Int)==58)=false:=Zf h58
 by_cases h46:(f.toNat:Int)=46
 case pos=>
  have h46b:((f.toNat:Int)==46)=true:=Zt h46;clear h46;rw [h91b,h58b,h46b,Bool.false_or,Bool.true_or,Bool.true_and]at hsp;rw [hsp];clear hsp;go_enter Tryz.func245,Tryz.ntmps245;go_wp2_with fail;go_returns;exact⟨rfl,rfl⟩
 have h46b:((f.toNat:Int)==46)=false:=Zf h46
 by_cases h61:(f.toNat:Int)=61
 case pos=>
  have h61b:((f.toNat:Int)==61)=true:=Zt h61;clear h61;rw [h91b,h58b,h46b,h61b,Bool.false_or,Bool.false_or,Bool.true_and]at hsp;rw [hsp];clear hsp;go_enter Tryz.func245,Tryz.ntmps245;go_wp2_with fail;go_returns;exact⟨rfl,rfl⟩
 have h61b:((f.toNat:Int)==61)=false:=Zf h61;rw [h91b,h58b,h46b,h61b,Bool.or_false,Bool.or_false,Bool.and_false]at hsp;rw [hsp];clear hsp;go_enter Tryz.func245,Tryz.ntmps245;go_wp2_with fail;go_returns;exact⟨rfl,rfl⟩
open Go Go.Proofs Go.RowKit Go.Ink Go.Sort
def endB (s:List UInt8)(j:Nat):Bool:=s[j]? ==some 58 && s[j+1]? ==some 93
def clsEnd (s:List UInt8)(i:Nat):Option Nat:=(List.range s.length).find? fun j=>decide (i≤j) && endB s j
theorem clsEnd_none {s:List UInt8}{i:Nat}(h:∀j,i≤j→endB s j=false):clsEnd s i=none:=by
 unfold clsEnd;rw [List.find?_eq_none];intro j _
 by_cases hj:i≤j
 ·rw [h j hj];simp
 ·simp [hj]
theorem clsEnd_some {s:List UInt8}{i j:Nat}(hj:j < s.length)(hij:i≤j)(he:endB s j=true)(h:∀k,i≤k→k < j→endB s k=false):clsEnd s i=some j:=by
 unfold clsEnd;rw [List.find?_eq_some_iff_append];refine⟨by simp [hij,he],List.range j,(List.range' (j+1) (s.length - (j+1))),?_,?_⟩
 ·rw [List.range_eq_range',List.range_eq_range',show s.length=j+(1+(s.length - (j+1))) by omega,← List.range'_append_1,← List.range'_append_1]
  simp;omega
 ·intro k hk
  have hk:=List.mem_range.1 hk
  by_cases hik:i≤k
  ·simp [h k hik hk]
  ·simp [hik]
theorem endB_at {s:List UInt8}{j:Nat}{x y:UInt8}(h1:s[j]? =some x)(h2:s[j+1]? =some y):endB s j=((x==58) && (y==93)):=by
 unfold endB;rw [h1,h2]
 rfl
theorem endB_past {s:List UInt8}{j:Nat}(h:¬j+1 < s.length):endB s j=false:=by
 unfold endB;rw [List.getElem?_eq_none (by omega:s.length≤j+1)];simp
def part8 (s:List UInt8)(a:Nat):Option Nat:=
 match s[a]? with
 | none=>none
 | some d=>
   if spB s a=true then
    (if s[a+1]? =some 58 then(match clsEnd s (a+2) with
      | some j=>if known ((s.drop (a+2)).take (j - (a+2)))=true then some (j+2) else none
      | none=>none) else none)
   else match s[a+1]?,s[a+2]? with
    | some f,some x=>if f=45∧¬x=93 then(if x.toNat < d.toNat∨spB s (a+2)=true then none else some (a+3)) else some (a+1)
    | _,_=>some (a+1)
section
variable {s:List UInt8}{a:Nat}{d f x:UInt8}
theorem part8_past (h:¬a < s.length):part8 s a=none:=by
 unfold part8;rw [List.getElem?_eq_none (by omega)]
theorem part8_not58 (h1:s[a]? =some d)(h2:spB s a=true)(h3:s[a+1]? =some f)(h4:¬(f.toNat:Int)=58):part8 s a=none:=by
 unfold part8;rw [h1];simp only;rw [if_pos h2,h3,if_neg];intro e;rw [Option.some.inj e]at h4;exact h4 rfl
theorem u8_eq {c:UInt8}{n:Nat}(hn:n < 256)(h:(c.toNat:Int)=(n:Int)):c=UInt8.ofNat n:=by
 apply UInt8.toNat_inj.1
 rw [UInt8.toNat_ofNat'];omega
theorem part8_none (h1:s[a]? =some d)(h2:spB s a=true)(h:∀j,a+2≤j→endB s j=false):part8 s a=none:=by
 unfold part8;rw [h1];simp only;rw [if_pos h2,clsEnd_none h]
 split <;> rfl
theorem part8_cls (h1:s[a]? =some d)(h2:spB s a=true)(h3:s[a+1]? =some 58){i:Nat}(hi:a+2≤i)(hl:i < s.length)(he:endB s i=true)(h:∀j,a+2≤j→j < i→endB s j=false):
 part8 s a=if known ((s.drop (a+2)).take (i - (a+2)))=true then some (i+2) else none:=by
 unfold part8;rw [h1];simp only;rw [if_pos h2,if_pos h3,clsEnd_some hl hi he h]
theorem part8_one (h1:s[a]? =some d)(h2:spB s a=false)(h:¬(s[a+1]? =some 45∧a+2 < s.length∧¬s[a+2]? =some 93)):part8 s a=some (a+1):=by
 unfold part8;rw [h1];simp only;rw [if_neg (by rw [h2];decide)]
 split
 ·rename_i f x hf hx
  rw [if_neg];rintro⟨rfl,e⟩;exact h ⟨hf,(List.getElem?_eq_some_iff.1 hx).1,fun e'=>e (Option.some.inj (hx.symm.trans e'))⟩
 ·rfl
theorem part8_range (h1:s[a]? =some d)(h2:spB s a=false)(h3:s[a+1]? =some 45)(h4:s[a+2]? =some x)(h5:¬x=93):part8 s a=if x.toNat < d.toNat∨spB s (a+2)=true then none else some (a+3):=by
 unfold part8;rw [h1];simp only;rw [if_neg (by rw [h2];decide),h3,h4];simp only;rw [if_pos (by first | exact⟨rfl,h5⟩ | exact⟨trivial,h5⟩)]
end
inductive Pars8 (s:List UInt8):Nat→Bool→Option Nat→Prop
 | stop (i:Nat):s[i]? =some 93→Pars8 s i false (some (i+1))
 | bad (i:Nat) (f:Bool):(f=true∨¬s[i]? =some 93)→part8 s i=none→Pars8 s i f none
 | step (i:Nat) (f:Bool) (n:Nat) (r:Option Nat):(f=true∨¬s[i]? =some 93)→part8 s i=some n→Pars8 s n false r→Pars8 s i f r
theorem Pars8.det {s:List UInt8}{i:Nat}{f:Bool}{r r':Option Nat}(h:Pars8 s i f r)(h':Pars8 s i f r'):r=r':=by
 induction h generalizing r' with
 | stop i hi=>
   cases h' with
   | stop=>rfl
   | bad _ _ hc=>rcases hc with hc | hc;cases hc;exact absurd hi hc
   | step _ _ _ _ hc=>rcases hc with hc | hc;cases hc;exact absurd hi hc
 | bad i f hc hp=>
   cases h' with
   | stop hi=>rcases hc with hc | hc;cases hc;rename_i hi;exact absurd hi hc
   | bad=>rfl
   | step _ _ n _ _ hp'=>rw [hp]at hp';cases hp'
 | step i f n r hc hp _ ih=>
   cases h' with
   | stop hi=>rcases hc with hc | hc;cases hc;rename_i hi;exact absurd hi hc
   | bad _ _ _ hp'=>rw [hp]at hp';cases hp'
   | step _ _ n' _ _ hp' hr=>
     rw [hp]at hp';obtain rfl:=Option.some.inj hp';exact ih hr
def set0 (s:List UInt8)(a:Nat):Nat:=if s[a+1]? =some 94 then a+2 else a+1
end Go.Proofs.YtndjgbehbgcpkaaGreatDoor
