/- What a row's list gives to RunsNone (chapter 23), and arguments that came in, opened. -/
import Derived.Test.YtndjgbehbgcpkaaGreatDoorRsQ2
import Derived.Test.YtndjgbehbgcpkaaGreatDoorCards
import Derived.Test.YtndjgbehbgcpkaaGreatDoorTie
import Derived.ProofKit
import Derived.OpenShut
import Derived.Deep.Matrix
import Derived.Deep.DeepHandedRow
import Derived.Deep.DeepWitnessRowRef
import Derived.Lib.LaidTab
import Derived.Lib.SmallJoins
import Derived.Stop.LaidTwo
import Derived.LaidSub
import Derived.LaidMore
import Derived.LaidHandle
import Derived.Shelf.Vars
import Derived.SliceStrings
import Derived.SizedLaws
set_option linter.unusedVariables false
set_option linter.unusedSimpArgs false
set_option maxRecDepth 100000
namespace Go.Proofs.YtndjgbehbgcpkaaGreatDoor
open Go Go.Proofs Go.RowKit Go.Ink Go.ChangeShapes Go.WideShapes Go.ChangeAt Go.Joins Go.Deep
open Go.ChangeMaps (open_string)
open Go.Ev (Den vars tabBlk)
theorem own:ownKnob Tryz.prog.godebug=none:=by kernel_rfl
theorem laidOut:laidOutB Tryz.prog=true:=by kernel_rfl
theorem strCells1:Tryz.prog.cellsOf 9=1:=by kernel_rfl
theorem actCells:Tryz.prog.cellsOf 24=2:=by kernel_rfl
theorem strsCells:Tryz.prog.cellsOf 22=1:=by kernel_rfl
def LaidL:List (String×DataW Unit):=[("math/bits.deBruijn32tab",Rows.laid_math_bits_deBruijn32tab),("math/bits.deBruijn64tab",Rows.laid_math_bits_deBruijn64tab),("internal/strconv.uint64pow10",Rows.laid_internal_strconv_uint64pow10),("unicode/utf8.acceptRanges",Rows.laid_unicode_utf8_acceptRanges),("unicode/utf8.first",Rows.laid_unicode_utf8_first)]
theorem size_of_shapedOpen {P:Program}{w:World}(h:w.ShapedOpen P){n:Nat}(hn:n < P.globals.size)(hz:(((begin P (fun _ _=>0) default).world.heap[n]?).bind Obj.row?).isSome=true):n < w.heap.size:=by
 obtain⟨⟨zero,t⟩,hq⟩:=Option.isSome_iff_exists.1 hz;obtain⟨cs,hc,_⟩:=h.1 n zero t hn hq;exact(Array.getElem?_eq_some_iff.1 hc).1
def deBI:List Int:=Lib.deBruijn64tab.map Int.ofNat
theorem tabW_of {W:World}(h:laidMetH Tryz.prog LaidL W)(hsh:W.ShapedOpen Tryz.prog):TabW W:=by
 have h1:=laidMetH.filter (fun x=>x.1=="math/bits.deBruijn64tab") h
 have ht:Lib.TabIs Tryz.prog W "math/bits.deBruijn64tab" .u8 deBI:=
  Lib.tabIs_of_head (rest:=[]) (g:=5) (t:=365) (e:=5) (n:=64) (by kernel_rfl) (by kernel_rfl) Tryz.underlying365 Tryz.underlying5 (by kernel_rfl) (by kernel_rfl) h1
 obtain⟨⟨zero,t⟩,hq⟩:=Option.isSome_iff_exists.1 (show(((begin Tryz.prog (fun _ _=>0) default).world.heap[5]?).bind Obj.row?).isSome=true by kernel_rfl);have htt:(((begin Tryz.prog (fun _ _=>0) default).world.heap[5]?).bind Obj.row?).map (·.2)=some 365:=by kernel_rfl
 have hts:(((begin Tryz.prog (fun _ _=>0) default).world.heap[5]?).bind Obj.row?).map (·.1.size)=some 64:=by kernel_rfl
 rw [hq]at htt hts;simp only [Option.map_some,Option.some.injEq]at htt hts;obtain⟨cs,hc,hsz,_⟩:=hsh.1 5 zero t (by decide+kernel) hq;rw [htt]at hc;refine⟨_,hc,cs,0,0,rfl,fun i v hv=>?_,?_,rfl⟩
 ·have hi:i < 64:=by have:=(List.getElem?_eq_some_iff.1 hv).1;simpa [deB] using this
  have hcell:=ht.cell (show Tryz.prog.globalNamed "math/bits.deBruijn64tab"=some 5 by kernel_rfl) i (by rw [show deBI.length=64 by decide];exact hi);rw [Lib.cell_of_heap hc i]at hcell;refine⟨_,by rw [Nat.zero_add];exact hcell,?_⟩;have hd:deB=deBI.map (fun z=>Ev.V.int .u8 z):=rfl;rw [hd,List.getElem?_map]at hv;have hil:i < deBI.length:=by rw [show deBI.length=64 by decide];exact hi
  rw [Zg hil]at hv;simp only [Option.map_some,Option.some.injEq]at hv;subst hv;simp only [Den];rw [List.getD_eq_getElem?_getD,Zg hil]
  rfl
 ·show 0+deB.length≤cs.size
  rw [hsz,hts]
  decide
structure Env23 (w:World):Prop where
 s:6≤w.heap.size
 t:TabW w
 m:MaxW w
theorem max_of {W:World}(hsh:W.ShapedOpen Tryz.prog):MaxW W:=
 cell_of_shapedOpen_int (t:=3) (zero:=#[.int .i64 0]) hsh (by decide+kernel) (by kernel_rfl) rfl (by kernel_rfl) (by kernel_rfl) Tryz.underlying3
theorem env {W:World}(h:laidMetH Tryz.prog LaidL W)(hsh:W.ShapedOpen Tryz.prog):Env23 W:=by
 refine⟨?_,tabW_of h hsh,max_of hsh⟩;have:=size_of_shapedOpen (n:=6 - 1) hsh (by decide+kernel) (by kernel_rfl);omega
def lay (cs:Array Value):Obj→Obj
 | .cells _ t frozen=> .cells cs t frozen
 | o=>o
noncomputable def doorW (os:Os):World:=
 { World.doorLaid Tryz.prog 400 os with heap:=(World.doorLaid Tryz.prog 400 os).heap.modify 1 (lay (Go.Pinned.utf8FirstZ.map fun(n:Nat)=>Value.int .u8 (Int.ofNat n)).toArray) }
theorem door_met (os:Os)(args:Array Value):laidMetH Tryz.prog LaidL ((doorW os).forCall (fun _ _=>0) ⟨#[],args,[]⟩).memory:=
 laidMetH_of_parts (laidMet_of_run' 8 (by kernel_rfl) (by kernel_rfl)) (by kernel_rfl)
section
variable {H:Type}{enc:TypeId×Value→H}{w:World}{held:Bool}
theorem open_strs_trod {n:Nat}{v:Value}{x:DataW H×List MemPlace}(hf:DataW.trod enc Tryz.prog w 0 (fun _=>true) held n 22 [v]=some x):
 ∃(l:List (List UInt8)) (ao:Option Addr) (cap:Nat),v= .slice ao l.length cap∧SlOf IsStr w ao cap l:=by
 rcases open_strings Tryz.underlying22 Tryz.underlying9 strCells1 hf with⟨hcs,_⟩ | ⟨a,len,cap,ss,hcs,_,hl,hm,hz,_,hcell,_⟩
 ·simp at hcs
  subst hcs;exact⟨[],none,0,rfl,by simp,by simp [maxLen],fun _=>rfl,fun k x h=>by simp at h⟩
 ·simp at hcs
  subst hcs;simp only [if_true]at hz;refine⟨(ss.take len).map (·.data.toList),some a,cap,by simp;omega,by simp;omega,hm,by simp,fun k x hk=>?_⟩;have hkl:k < len:=by have:=(List.getElem?_eq_some_iff.1 hk).1;simp at this;omega
  have hc0:=hcell 0 (by omega);obtain⟨b,off,rfl,hat⟩:∃b off,a=⟨b,off,none⟩∧∀w':World,w'.cell? (a.add k)=w'.cell? ⟨b,off+k,none⟩:=by
   obtain⟨b,off,spot⟩:=a;have hspot:spot=none:=by simpa [Addr.add] using World.cell?_spot hc0
   subst hspot;exact⟨b,off,rfl,fun w'=>by rw [← Go.WideShapes.add_plain]⟩
  have hc:=hcell k (by omega);refine⟨b,off,_,rfl,(hat w)▸hc,?_⟩
  show _=Value.string ⟨x.toArray⟩
  have hkz:k < ss.length:=by omega
  simp only [List.getElem?_map,List.getElem?_take,hkl,if_true,Zg hkz,Option.map_some,Option.some.injEq]at hk;rw [List.getD_eq_getElem?_getD,Zg hkz,← hk];simp
theorem open_act_trod {n:Nat}{c0 c1:Value}{x:DataW H×List MemPlace}(h:DataW.trod enc Tryz.prog w 0 (fun _=>true) held n 24 [c0,c1]=some x):
 ∃(ln:List UInt8) (tx:List (List UInt8)) (ao:Option Addr) (cap:Nat),c0= .string ⟨ln.toArray⟩∧c1= .slice ao tx.length cap∧SlOf IsStr w ao cap tx:=by
 obtain⟨xs,m,_,_,_,hlen,hg⟩:=DataW.trod_struct Tryz.underlying24 h;have g0:=hg 0 _ rfl;have g1:=hg 1 _ rfl
 match xs,hlen with
 | [y0,y1],_=>
   simp [strCells1,strsCells]at g0 g1;obtain⟨s,e0,_⟩:=DataW.trod_string Tryz.underlying9 g0;obtain⟨l,ao,cap,e1,hs⟩:=open_strs_trod g1;simp at e0;subst e0 e1;exact⟨s.data.toList,l,ao,cap,by simp,rfl,hs⟩
theorem open_act {r:Reach}{b0:Nat}{v:Value}{d:DataW H}{p:List MemPlace}(hv:Value.okWide Tryz.prog w r b0 24 v)(h:DataW.Trod enc Tryz.prog w 0 (fun _=>true) held 24 v d p):
 ∃(ln:List UInt8) (tx:List (List UInt8)) (ao:Option Addr) (cap:Nat),v= .agg #[.string ⟨ln.toArray⟩,.slice ao tx.length cap]∧SlOf IsStr w ao cap tx:=by
 obtain⟨cs,rfl,hsz⟩:=okWide_struct Tryz.underlying24 hv;rw [actCells]at hsz;obtain⟨l⟩:=cs
 match l,hsz with
 | [c0,c1],_=>
   obtain⟨fuel,hf⟩:=h;obtain⟨ln,tx,ao,cap,rfl,rfl,hs⟩:=open_act_trod hf;exact⟨ln,tx,ao,cap,rfl,hs⟩
end
end Go.Proofs.YtndjgbehbgcpkaaGreatDoor
