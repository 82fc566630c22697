/- The program's reader of command lines: a mark's letter, a place to go to. -/
import Derived.Test.YtndjgbehbgcpkaaGreatDoorBr0
import Derived.Great.BuildSlice
import Derived.Laws.RangeString
import Derived.Deep.QuietTactic
import Derived.BigQuiet
set_option linter.unusedVariables false
set_option linter.unusedSimpArgs false
set_option maxRecDepth 100000
set_option maxHeartbeats 4000000
namespace Go.Proofs.YtndjgbehbgcpkaaGreatDoor
open Go Go.Proofs Go.RowKit Go.Ink Go.Sort
theorem CmdT.from {w w1 w':World}{b:Nat}{c c1:Cm}{e:Ending}(h:CmdT w1 b c1 e w')(hk:KeepT (fun j=>j=b) w w1)(h1:c1.lv=c.lv)(h2:c1.sv=c.sv):CmdT w b c e w':=by
 obtain⟨er,c',rfl,ha,hl,hs,ho,hk'⟩:=h;exact⟨er,c',rfl,ha,hl.trans h1,hs.trans h2,ho,hk.trans hk' (fun _ _ e=>e)⟩
theorem cmdLetter (b:Nat)(c:Cm)(hc:CmOk c)(s:List UInt8)(must:Bool)(w:World)(hx:MaxW w)(hbm:b≠0)(hb:CmAt w b c):
 Calls Tryz.prog 29 #[.pointer (some ⟨b,0,none⟩),.string ⟨s.toArray⟩,.bool must] w fun e w'=>CmdT w b c e w':=by
 have HT:=Zh (cmdTrim s w);have HAT:=Zh hb;have HMX:=Zh hx;clear hb hx;go_enter Tryz.func29,Tryz.ntmps29;go_wp2_with fail;refine HT.out.mono ?_;rintro e w1 ⟨⟨t,rfl,-⟩,hb1⟩;have HA1:=Zh (HAT.out.later hb1);have HK1:=Zh (show KeepT (fun j=>j=b) w w1 from KeepT.of_below hb1);have HM1:=Zh (HMX.out.later hb1);clear hb1 HT HAT HMX;cases t with
 | nil=>
   cases must
   ·go_wp2_with fail
    go_returns;exact .same 0 HA1.out hc HK1.out
   ·go_wp2_with fail
    go_returns;exact .same 211 HA1.out hc HK1.out
 | cons d r=>
   have hby:∀h,(⟨(d::r).toArray⟩:ByteArray)[0]'h=d:=fun _=>rfl;have hsz:=size_mk (d::r);have he1:=Zcb (d::r) 1;rw [show(d::r).drop 1=r from rfl]at he1;have hl0:0 < (d::r).length:=Nat.succ_pos _;have hl1:(1:Int)≤((d::r).length:Int):=by omega
   have h0b:(d::r).isEmpty=false:=rfl;have h0d:((d::r)==[])=false:=rfl;have hne:(d::r)≠[]:=by simp
   have c7:=HA1.out.cel 7 (u:= .int .u8 c.lt) rfl;have f7:=HA1.out.fz 7;have HC2:=Zh (HA1.out.setN 7 (.int .u8 (d.toNat:Int)) { c with lt:=(d.toNat:Int) } rfl);have HK2:=Zh ((KeepT.refl (fun j=>j=b) w1).setCell (p:=⟨b,7,none⟩) (.inl rfl) (.int .u8 (d.toNat:Int)));have HSU:=Zh (cmdSuffix b { c with lt:=(d.toNat:Int) } ⟨hc.lv,hc.sv,hc.dre,hc.re,hc.sub⟩ r _ (HM1.out.kept HK2.out (fun e=>hbm e.symm)) HC2.out);generalize hdr:d::r=q at *;clear hdr
   by_cases h97:(97:Int)≤(d.toNat:Int)
   case pos=>
    by_cases h122:(d.toNat:Int)≤122
    case pos=>
     go_wp2_with fail;refine HSU.out.mono ?_;rintro e w3 ⟨er,c',rfl,h1,h2,h3,h4,h5⟩;have HR:=Zh (show CmdT w b c (.returned (.int .i64 er)) w3 from⟨er,c',rfl,h1,h2,h3,h4,(HK1.out.trans HK2.out (fun _ _ e=>e)).trans h5 (fun _ _ e=>e)⟩);clear h1 h2 h3 h4 h5;go_wp2_with fail;go_returns;exact HR.out
    have h90:¬(d.toNat:Int)≤90:=by omega
    have h65:(65:Int)≤(d.toNat:Int):=by omega
    cases must
    ·go_wp2_with fail
     go_returns;exact .same 211 HA1.out hc HK1.out
    ·go_wp2_with fail
     go_returns;exact .same 211 HA1.out hc HK1.out
   cases must
   case true=>
    go_wp2_with fail;go_returns;exact .same 211 HA1.out hc HK1.out
   by_cases h65:(65:Int)≤(d.toNat:Int)
   case neg=>
    go_wp2_with fail;go_returns;exact .same 211 HA1.out hc HK1.out
   by_cases h90:(d.toNat:Int)≤90
   case neg=>
    go_wp2_with fail;go_returns;exact .same 211 HA1.out hc HK1.out
   go_wp2_with fail;refine HSU.out.mono ?_;rintro e w3 ⟨er,c',rfl,h1,h2,h3,h4,h5⟩;have HR:=Zh (show CmdT w b c (.returned (.int .i64 er)) w3 from⟨er,c',rfl,h1,h2,h3,h4,(HK1.out.trans HK2.out (fun _ _ e=>e)).trans h5 (fun _ _ e=>e)⟩);clear h1 h2 h3 h4 h5;go_wp2_with fail;go_returns;exact HR.out
theorem cmdDest (b:Nat)(c:Cm)(hc:CmOk c)(s:List UInt8)(w:World)(hs:s.length≤100000)(hx:MaxW w)(hbm:b≠0)(hb:CmAt w b c):
 Calls Tryz.prog 60 #[.pointer (some ⟨b,0,none⟩),.string ⟨s.toArray⟩] w fun e w'=>CmdT w b c e w':=by
 have hsz:=size_mk s;have HT:=Zh (adrOne s w (by omega));have HAT:=Zh hb;have HMX:=Zh hx;clear hb hx;go_enter Tryz.func60,Tryz.ntmps60;go_wp2_with fail;refine HT.out.mono ?_;rintro e w1 ⟨⟨kd,z,re,ad,nx,er,rfl,hre,hnx⟩,hb1⟩;unfold adV;have hbA:=Zab w1 (.cells #[.int .i64 kd,.int .i64 z,.string ⟨re.toArray⟩,.int .i64 ad] 33);have HAA:=Zh (show AdAt (w1.alloc (.cells #[.int .i64 kd,.int .i64 z,.string ⟨re.toArray⟩,.int .i64 ad] 33)) w1.heap.size kd z re ad from Zae w1 _);have hbW:=hb1.trans (hbA.mono hb1.size);have HA1:=Zh (HAT.out.later hbW);have HK1:=Zh (show KeepT (fun j=>j=b) w (w1.alloc (.cells #[.int .i64 kd,.int .i64 z,.string ⟨re.toArray⟩,.int .i64 ad] 33)) from KeepT.of_below hbW);have HM1:=Zh (HMX.out.later hbW);have HRE:=Zh hre;clear hb1 hbA hbW HT HAT HMX hre
 by_cases her:er=0
 case neg=>
  have herb:(er !=0)=true:=bne_iff_ne.2 her;clear her;go_wp2_with fail;go_returns;exact .same er HA1.out hc HK1.out
 subst her;go_upto_region 4 with fail;generalize w1.alloc (.cells #[.int .i64 kd,.int .i64 z,.string ⟨re.toArray⟩,.int .i64 ad] 33)=wA at *;obtain⟨g,hg⟩:∃g,w1.heap.size=g:=⟨_,rfl⟩;rw [hg]at HAA ⊢;have a0:=HAA.out.c 0 rfl;have a1:=HAA.out.c 1 rfl;have a2:=HAA.out.c 2 rfl;have a3:=HAA.out.c 3 rfl;have c3:=HA1.out.cel 3 (u:= .int .i64 c.dk) rfl;have f3:=HA1.out.fz 3;have s3:=HA1.out.setN 3 (.int .i64 kd) { c with dk:=kd } rfl;have c4:=s3.cel 4 (u:= .int .i64 c.dz) rfl;have f4:=s3.fz 4;have s4:=s3.setN 4 (.int .i64 z) { c with dk:=kd,dz:=z } rfl;have c5:=s4.cel 5 (u:= .string ⟨c.dre.toArray⟩) rfl;have f5:=s4.fz 5;have s5:=s4.setN 5 (.string ⟨re.toArray⟩) { c with dk:=kd,dz:=z,dre:=re } rfl;have c6:=s5.cel 6 (u:= .int .i64 c.da) rfl;have f6:=s5.fz 6;have HC2:=Zh (s5.setN 6 (.int .i64 ad) { c with dk:=kd,dz:=z,dre:=re,da:=ad } rfl);have HK2:=Zh (((((KeepT.refl (fun j=>j=b) wA).setCell (p:=⟨b,3,none⟩) (.inl rfl) (.int .i64 kd)).setCell (p:=⟨b,4,none⟩) (.inl rfl) (.int .i64 z)).setCell (p:=⟨b,5,none⟩) (.inl rfl) (.string ⟨re.toArray⟩)).setCell (p:=⟨b,6,none⟩) (.inl rfl) (.int .i64 ad));have he1:=Zcb s nx;obtain⟨q,hq⟩:∃q,s.drop nx=q:=⟨_,rfl⟩;rw [hq]at he1;have hni:(nx:Int)≤(s.length:Int):=by omega
 have HSU:=Zh (cmdSuffix b { c with dk:=kd,dz:=z,dre:=re,da:=ad } ⟨hc.lv,hc.sv,by show re.length≤1000000;have:=HRE.out;omega,hc.re,hc.sub⟩ q _ (HM1.out.kept HK2.out (fun e=>hbm e.symm)) HC2.out);clear s3 s4 s5 hq hg;go_wp2_with fail;refine HSU.out.mono ?_;rintro e w3 ⟨er,c',rfl,h1,h2,h3,h4,h5⟩;have HR:=Zh (show CmdT w b c (.returned (.int .i64 er)) w3 from⟨er,c',rfl,h1,h2,h3,h4,(HK1.out.trans HK2.out (fun _ _ e=>e)).trans h5 (fun _ _ e=>e)⟩);clear h1 h2 h3 h4 h5;go_wp2_with fail;go_returns;exact HR.out
open Go Go.Proofs Go.RowKit Go.Ink Go.Sort
theorem bnd_info:(Tryz.prog.info? 242).map (fun i=>(i.size,i.bytes,i.zero.map fun z=>z.cells.size))=some (262,320,some 262):=by kernel_rfl
theorem bnd_size:(Tryz.prog.info? 242).map (·.size)=some 262:=by kernel_rfl
theorem bnd_parts:∃(ie:TypeInfo) (z:Value),Tryz.prog.info? 242=some ie∧ie.zero=some z∧ie.size=262∧ie.bytes=320∧z.cells.size=262:=by
 have h:=bnd_info;cases hi:Tryz.prog.info? 242 with
 | none=>rw [hi]at h;cases h
 | some ie=>
   rw [hi]at h;simp only [Option.map_some,Option.some.injEq,Prod.mk.injEq]at h;obtain⟨h1,h2,h3⟩:=h;cases hz:ie.zero with
   | none=>rw [hz]at h3;cases h3
   | some z=>
     rw [hz]at h3;simp only [Option.map_some,Option.some.injEq]at h3;exact⟨ie,z,rfl,hz,h1,h2,h3⟩
def bndPl:Array (Nat×Nat):=#[(0,1),(1,1),(2,256),(258,1),(259,1),(260,1),(261,1)]
noncomputable def bndZ:Array Value:=Tryz.zeroCells242
theorem bnd_built (parts:List (Nat×Value)):Tryz.prog.built 242 parts=Instr.fill (bndPl[·]?) bndZ parts:=by kernel_rfl
theorem bndZ_list:bndZ=(.int .i64 0:: .int .u8 0::(List.replicate 256 (.bool false)++[.int .i64 0,.int .i64 0,.int .i64 0,.slice none 0 0])).toArray:=by kernel_rfl
def nd0:Nd:= .mk 0 0 (fun _=>false) 0 0 0 []
theorem Zap:bndZ.size=262:=by rw [bndZ_list,List.size_toArray,List.length_cons,List.length_cons,List.length_append,List.length_replicate];rfl
theorem bndZ_is:NdIs bndZ 0 nd0 (.slice none 0 0):=by
 refine⟨by kernel_rfl,by kernel_rfl,fun j hj=>?_,by kernel_rfl,by kernel_rfl,by kernel_rfl,by kernel_rfl⟩;rw [bndZ_list,List.getElem?_toArray,show 0+(2+j)=j+2 by omega,List.getElem?_cons_succ,List.getElem?_cons_succ,List.getElem?_append_left (by rw [List.length_replicate];exact hj),List.getElem?_replicate,if_pos hj]
 rfl
section
variable {nc:Array Value}{kid:Value}{k:Int}{c:UInt8}{s:Nat→Bool}{n mn:Nat}{mx:Int}{l:List Nd}
theorem put_one (hz:nc.size=262)(o:Nat)(ho:o < 262)(v:Value)(j:Nat):(Fil.put nc o #[v])[j]? =if o=j then some v else nc[j]?:=by
 rw [Fil.put_get nc o #[v] j (by rw [hz];show o+1≤262;omega)]
 show(if o≤j∧j < o+1 then #[v][j - o]? else nc[j]?)=_
 by_cases e:o=j
 ·subst e
  rw [if_pos (by omega),if_pos rfl,Nat.sub_self]
  rfl
 ·rw [if_neg (by omega),if_neg e]
theorem is_k (h:NdIs nc 0 (.mk k c s n mn mx l) kid)(hz:nc.size=262)(k':Int):NdIs (Fil.put nc 0 #[.int .i64 k']) 0 (.mk k' c s n mn mx l) kid:=by
 refine⟨?_,?_,fun j hj=>?_,?_,?_,?_,?_⟩ <;> rw [put_one hz _ (by omega)]
 ·rw [if_pos (by omega)];rfl
 ·rw [if_neg (by omega)];exact h.c
 ·rw [if_neg (by omega)];exact h.set j hj
 ·rw [if_neg (by omega)];exact h.n
 ·rw [if_neg (by omega)];exact h.mn
 ·rw [if_neg (by omega)];exact h.mx
 ·rw [if_neg (by omega)];exact h.kids
theorem is_c (h:NdIs nc 0 (.mk k c s n mn mx l) kid)(hz:nc.size=262)(c':UInt8):NdIs (Fil.put nc 1 #[.int .u8 (c'.toNat:Int)]) 0 (.mk k c' s n mn mx l) kid:=by
 refine⟨?_,?_,fun j hj=>?_,?_,?_,?_,?_⟩ <;> rw [put_one hz _ (by omega)]
 ·rw [if_neg (by omega)];exact h.k
 ·rw [if_pos (by omega)];rfl
 ·rw [if_neg (by omega)];exact h.set j hj
 ·rw [if_neg (by omega)];exact h.n
 ·rw [if_neg (by omega)];exact h.mn
 ·rw [if_neg (by omega)];exact h.mx
 ·rw [if_neg (by omega)];exact h.kids
theorem is_n (h:NdIs nc 0 (.mk k c s n mn mx l) kid)(hz:nc.size=262)(n':Nat):NdIs (Fil.put nc 258 #[.int .i64 (n':Int)]) 0 (.mk k c s n' mn mx l) kid:=by
 refine⟨?_,?_,fun j hj=>?_,?_,?_,?_,?_⟩ <;> rw [put_one hz _ (by omega)]
 ·rw [if_neg (by omega)];exact h.k
 ·rw [if_neg (by omega)];exact h.c
 ·rw [if_neg (by omega)];exact h.set j hj
 ·rw [if_pos (by omega)];rfl
 ·rw [if_neg (by omega)];exact h.mn
 ·rw [if_neg (by omega)];exact h.mx
 ·rw [if_neg (by omega)];exact h.kids
theorem is_mn (h:NdIs nc 0 (.mk k c s n mn mx l) kid)(hz:nc.size=262)(n':Nat):NdIs (Fil.put nc 259 #[.int .i64 (n':Int)]) 0 (.mk k c s n n' mx l) kid:=by
 refine⟨?_,?_,fun j hj=>?_,?_,?_,?_,?_⟩ <;> rw [put_one hz _ (by omega)]
 ·rw [if_neg (by omega)];exact h.k
 ·rw [if_neg (by omega)];exact h.c
 ·rw [if_neg (by omega)];exact h.set j hj
 ·rw [if_neg (by omega)];exact h.n
 ·rw [if_pos (by omega)];rfl
 ·rw [if_neg (by omega)];exact h.mx
 ·rw [if_neg (by omega)];exact h.kids
theorem is_mx (h:NdIs nc 0 (.mk k c s n mn mx l) kid)(hz:nc.size=262)(n':Int):NdIs (Fil.put nc 260 #[.int .i64 n']) 0 (.mk k c s n mn n' l) kid:=by
 refine⟨?_,?_,fun j hj=>?_,?_,?_,?_,?_⟩ <;> rw [put_one hz _ (by omega)]
 ·rw [if_neg (by omega)];exact h.k
 ·rw [if_neg (by omega)];exact h.c
 ·rw [if_neg (by omega)];exact h.set j hj
 ·rw [if_neg (by omega)];exact h.n
 ·rw [if_neg (by omega)];exact h.mn
 ·rw [if_pos (by omega)];rfl
 ·rw [if_neg (by omega)];exact h.kids
theorem is_kids (h:NdIs nc 0 (.mk k c s n mn mx l) kid)(hz:nc.size=262)(v:Value)(l':List Nd):NdIs (Fil.put nc 261 #[v]) 0 (.mk k c s n mn mx l') v:=by
 refine⟨?_,?_,fun j hj=>?_,?_,?_,?_,?_⟩ <;> rw [put_one hz _ (by omega)]
 ·rw [if_neg (by omega)];exact h.k
 ·rw [if_neg (by omega)];exact h.c
 ·rw [if_neg (by omega)];exact h.set j hj
 ·rw [if_neg (by omega)];exact h.n
 ·rw [if_neg (by omega)];exact h.mn
 ·rw [if_neg (by omega)];exact h.mx
 ·rw [if_pos (by omega)]
theorem is_set (h:NdIs nc 0 (.mk k c s n mn mx l) kid)(hz:nc.size=262)(cs:Array Value)(s':Nat→Bool)(h1:cs.size=256)(h2:∀j,j < 256→cs[j]? =some (.bool (s' j))):NdIs (Fil.put nc 2 cs) 0 (.mk k c s' n mn mx l) kid:=by
 have hg:∀j,(Fil.put nc 2 cs)[j]? =if 2≤j∧j < 258 then cs[j - 2]? else nc[j]?:=by
  intro j;rw [Fil.put_get nc 2 cs j (by rw [hz,h1];omega),h1]
 refine⟨?_,?_,fun j hj=>?_,?_,?_,?_,?_⟩ <;> rw [hg]
 ·rw [if_neg (by omega)];exact h.k
 ·rw [if_neg (by omega)];exact h.c
 ·rw [if_pos (by omega),show 0+(2+j) - 2=j by omega];exact h2 j hj
 ·rw [if_neg (by omega)];exact h.n
 ·rw [if_neg (by omega)];exact h.mn
 ·rw [if_neg (by omega)];exact h.mx
 ·rw [if_neg (by omega)];exact h.kids
theorem fill_b (hz:nc.size=262)(i:Nat)(v:Value)(rest:List (Nat×Value))(o m:Nat)(hp:bndPl[i]? =some (o,m))(hv:v.cells.size=m)(ho:o+m≤262):
 Instr.fill (bndPl[·]?) nc ((i,v)::rest)=Instr.fill (bndPl[·]?) (Fil.put nc o v.cells) rest:=Fil.fill_cons hp hv (by rw [hz];exact ho)
end
def BuiltN (parts:List (Nat×Value))(x:Nd)(kid:Value):Prop:=∃nc,Tryz.prog.built 242 parts=some nc∧nc.size=262∧NdIs nc 0 x kid
theorem bnd_set (k:Int)(cs:Array Value)(s:Nat→Bool)(h1:cs.size=256)(h2:∀j,j < 256→cs[j]? =some (.bool (s j))):BuiltN [(0,.int .i64 k),(2,.agg cs)] (.mk k 0 s 0 0 0 []) (.slice none 0 0):=by
 have z1:(Fil.put bndZ 0 (Value.int .i64 k).cells).size=262:=by rw [Fil.put_size,Zap]
 refine⟨_,?_,?_,is_set (is_k bndZ_is Zap k) z1 cs s h1 h2⟩
 ·rw [bnd_built,fill_b Zap 0 _ _ 0 1 rfl rfl (by omega),fill_b z1 2 (.agg cs) _ 2 256 rfl h1 (by omega)]
  rfl
 ·rw [Fil.put_size];exact z1
theorem breTake (p:Ps)(b:Nat)(t:List UInt8)(w:World)(h:PsAt w b p):
 Calls Tryz.prog 204 #[.pointer (some ⟨b,0,none⟩),.string ⟨t.toArray⟩] w fun e w'=>e= .returned (.bool (hasP p.left t))∧PsAt w' b { p with left:=cutP p.left t }∧KeepT (fun j=>j=b) w w':=by
 have c0:=h.c0;have f0:=h.fz 0;have HC:=Zh (strCut p.left t w);have HS:=Zh (h.setN 0 (.string ⟨(cutP p.left t).toArray⟩) { p with left:=cutP p.left t } rfl);have HK:=Zh ((KeepT.refl (fun j=>j=b) w).setCell (p:=⟨b,0,none⟩) (.inl rfl) (.string ⟨(cutP p.left t).toArray⟩));clear h;generalize hasP p.left t=r at *;generalize cutP p.left t=x at *;go_enter Tryz.func204,Tryz.ntmps204;go_wp2_with fail;refine HC.out.mono ?_;rintro e w1 ⟨rfl,rfl⟩;clear HC;go_wp2_with fail;go_returns;exact⟨rfl,HS.out,HK.out⟩
def NodeE (b:Nat)(p:Ps)(nc:Array Value)(w:World)(e:Ending)(w':World):Prop:=KeepT (fun j=>j=b) w w'∧(e=died∨e= .returned (.agg nc)∧PsAt w' b { p with pt:=p.pt+1 }∧p.pt+1≤200)
theorem Zci (p:Ps)(b:Nat)(nc:Array Value)(w:World)(h:PsAt w b p)(hn:nc.size=262)(h1:nc.all (·.oneCell')=true)(hp:p.pt≤200):
 Calls Tryz.prog 202 #[.pointer (some ⟨b,0,none⟩),.agg nc] w (NodeE b p nc w):=by
 go_enter Tryz.func202,Tryz.ntmps202;go_upto_region 1 with fail;generalize hwA:(w.alloc _).alloc _=wA;obtain⟨old,HZ,HOS⟩:∃old:Array Value,Hid (wA.heap[w.heap.size+1]? =some (.cells old 242 (0,0)))∧Hid (old.size=262):=⟨bndZ,Zh (hwA▸heap_alloc2_new _ _ _),Zh Zap⟩;have HNA:=Zh (show wA.heap[w.heap.size]? =some (.cells nc 242 (0,0)) from hwA▸heap_alloc2_old _ _ _);have hbA:Below w.heap.size w wA:=hwA▸(Zab w _).trans ((Zab _ _).mono (Zab w _).size);have HBL:=Zh h.lt;have HRA:=Zh (h.later hbA);have HKA:=Zh (KeepT.of_below (S:=fun j=>j=b) hbA);have HON:=Zh h1;have HNZ:=Zh hn;have HPT:=Zh hp;have e3:((p.pt+1:Nat):Int)=(p.pt:Int)+1:=by omega
 have u3:=HRA.out.c3;have g3:=HRA.out.fz 3;have HR3:=Zh (HRA.out.setN 3 (.int .i64 ((p.pt:Int)+1)) { p with pt:=p.pt+1 } (by rw [← e3];rfl));have HK3:=Zh (HKA.out.setCell (p:=⟨b,3,none⟩) (.inl rfl) (.int .i64 ((p.pt:Int)+1)));have hq:b < w.heap.size:=HBL.out;have HZ1:=Zh ((Below.heap_setCell _ _ _ _ (show w.heap.size+1≠b by omega)).trans HZ.out:(wA.setCell ⟨b,3,none⟩ (.int .i64 ((p.pt:Int)+1))).heap[w.heap.size+1]? =some (.cells old 242 (0,0)));have HN1:=Zh ((Below.heap_setCell _ _ _ _ (show w.heap.size≠b by omega)).trans HNA.out:(wA.setCell ⟨b,3,none⟩ (.int .i64 ((p.pt:Int)+1))).heap[w.heap.size]? =some (.cells nc 242 (0,0)));clear hwA hbA h h1 hn e3;go_upto_region 2 with fail;clear u3 g3;generalize wA.setCell _ _=wB at *;have q3:=HR3.out.c3;have e3:((p.pt+1:Nat):Int)=(p.pt:Int)+1:=by omega
 rw [e3]at q3
 by_cases hle:p.pt+1≤200
 case neg=>
  have hi:¬(p.pt:Int)+1≤200:=by omega
  have HM:=Zh (Zbc false wB);clear hle e3;go_wp2_with fail;refine HM.out.mono ?_;rintro e w2 ⟨rfl,⟨h,_⟩ | ⟨_,rfl⟩⟩
  ·cases h
  exact⟨rfl,HK3.out,.inl rfl⟩
 have hi:(p.pt:Int)+1≤200:=by omega
 have HLE:=Zh hle;have HM:=Zh (Zbc true wB);clear hle e3;go_wp2_with fail;refine HM.out.mono ?_;rintro e w2 ⟨rfl,⟨_,rfl⟩ | ⟨h,_⟩⟩
 case inr=>cases h
 have HSZ:=Zh (show(Tryz.prog.info? 242).map (·.size)=some nc.size by rw [HNZ.out];exact bnd_size);have HOZ:=Zh (show old.size=nc.size by rw [HOS.out,HNZ.out])
 go_wp2_with (first
  | (refine wpList_load_row rfl 242 _ (by with_reducible rfl) w.heap.size rfl 242 nc (0,0) _ HN1.out Tryz.underlying242 rfl HSZ.out ?_)
  | (refine wpList_store_row rfl 242 _ _ (by with_reducible rfl) (w.heap.size+1) nc rfl rfl 242 old HZ1.out HSZ.out HOZ.out HON.out ?_))
 refine bodyPost_ret (v:= .agg nc) (results_cell_row (p:=4) (by kernel_rfl) _ _ (w.heap.size+1) 242 nc (0,0) _ rfl (setRow_heap _ _ _ _ _ _ HZ1.out) Tryz.underlying242 rfl HSZ.out) rfl ?_;have hkk:KeepT (fun j=>j=w.heap.size+1) w2 (w2.setRow (w.heap.size+1) nc):=⟨rfl,rfl,rfl,by simp,fun i hi hn=>setRow_other w2 _ i nc (fun e=>hn e)⟩;exact⟨HK3.out.trans hkk (fun i hi e=>by omega),.inr ⟨rfl,HR3.out.kept hkk (by omega),HLE.out⟩⟩
open Go Go.Proofs Go.RowKit Go.Ink Go.Sort
def Tn (b:Nat)(p:Ps)(j:Nat):Prop:=j=b∨p.op.ownBlock=some j
structure OnR (w0 w:World) (b B m:Nat) (p p':Ps):Prop where
 at_:PsAt w b p'
 own:Zbm w B p'.op m
 gr:p'.gr≤9
 pt:p'.pt≤200
 opn:p'.op.ownBlock=p.op.ownBlock∨∀j,p'.op.ownBlock=some j→w0.heap.size≤j
 keep:KeepT (Tn b p) w0 w
 mx:MaxW w
 lo:0 < B∧B≤w0.heap.size
theorem op_far {w:World}{b B m:Nat}{p:Ps}(h:Zbm w B p.op m)(hp:PsAt w b p):p.op.ownBlock≠some b:=fun e=>by
 obtain⟨_,cs,fr,hh⟩:=h.kind e;rw [hp]at hh;simp only [Option.some.injEq,Obj.cells.injEq]at hh;exact absurd hh.2.1 (by decide)
theorem Zcu {w:World}{r B m:Nat}{v:Value}(h:Zbm w B v m)(hz:∃cs fr,w.heap[r]? =some (.cells cs 242 fr)):v.ownBlock≠some r:=fun e=>by
 obtain⟨cs,fr,hz⟩:=hz;exact h.noNode r e cs fr hz
theorem Zax {w:World}{r b:Nat}{p:Ps}(hp:PsAt w b p)(hz:∃cs fr,w.heap[r]? =some (.cells cs 242 fr)):b≠r:=fun e=>by
 subst e;obtain⟨cs,fr,hz⟩:=hz;exact hp.noNode cs fr hz
section
variable {w0 w w1 w2:World}{b B m m' r:Nat}{p p1 p2:Ps}
theorem OnR.refl (hp:PsAt w b p)(ho:Zbm w B p.op m)(hg:p.gr≤9)(ht:p.pt≤200)(hm:MaxW w)(hB:0 < B)(hw:B≤w.heap.size):OnR w w b B m p p:=⟨hp,ho,hg,ht,.inl rfl,KeepT.refl _ _,hm,hB,hw⟩
theorem OnR.re (h:OnR w0 w1 b B m p p1):OnR w1 w1 b B m p1 p1:=⟨h.at_,h.own,h.gr,h.pt,.inl rfl,KeepT.refl _ _,h.mx,h.lo.1,Nat.le_trans h.lo.2 h.keep.size⟩
theorem OnR.trans (h:OnR w0 w1 b B m p p1)(k:OnR w1 w2 b B m' p1 p2):OnR w0 w2 b B m' p p2:=by
 refine⟨k.at_,k.own,k.gr,k.pt,?_,h.keep.trans k.keep (fun i hi hs=>?_),k.mx,h.lo⟩
 ·rcases k.opn with e | e
  ·rw [e];exact h.opn
  ·exact .inr (fun j hj=>Nat.le_trans h.keep.size (e j hj))
 ·rcases hs with rfl | hs
  ·exact .inl rfl
  ·rcases h.opn with e | e
   ·exact .inr (e▸hs)
   ·have:=e i hs
    omega
theorem OnR.own_ (h:OnR w0 w1 b B m p p1)(hk:KeepT (fun j=>j=b) w1 w2)(hp:PsAt w2 b p2)(ho:p2.op=p1.op)(hg:p2.gr≤9)(ht:p2.pt≤200):OnR w0 w2 b B m p p2:=by
 refine⟨hp,?_,hg,ht,ho▸h.opn,h.keep.trans hk (fun i _ hs=> .inl hs),h.mx.kept hk (fun e=>ps_mx h.at_ h.mx e.symm),h.lo⟩;rw [ho];exact h.own.kept hk (fun g hg e=>op_far h.own h.at_ (e▸hg))
theorem OnR.later (h:OnR w0 w1 b B m p p1)(hb:Below w1.heap.size w1 w2):OnR w0 w2 b B m p p1:=
 ⟨h.at_.later hb,h.own.later hb,h.gr,h.pt,h.opn,h.keep.then_below hb,h.mx.later hb,h.lo⟩
theorem OnR.row (h:OnR w0 w1 b B m p p1)(hk:KeepT (fun j=>j=r) w1 w2)(hr:w0.heap.size≤r)(hz:∃cs fr,w1.heap[r]? =some (.cells cs 242 fr)):OnR w0 w2 b B m p p1:=
 ⟨h.at_.kept hk (Zax h.at_ hz),h.own.kept hk (fun g hg e=>Zcu h.own hz (e▸hg)),h.gr,h.pt,h.opn,h.keep.trans hk (fun i hi e=>by omega),h.mx.kept hk (fun e=>by have:=h.lo;omega),h.lo⟩
theorem OnR.lt (h:OnR w0 w1 b B m p p1):w0.heap.size≤w1.heap.size:=h.keep.size
theorem OnR.died_of (h:OnR w0 w1 b B m p p1)(hk:KeepT (Tn b p1) w1 w2):KeepT (Tn b p) w0 w2:=by
 refine h.keep.trans hk (fun i hi hs=>?_);rcases hs with rfl | hs
 ·exact .inl rfl
 ·rcases h.opn with e | e
  ·exact .inr (e▸hs)
  ·have:=e i hs
   omega
end
theorem Zaw {w:World}{r:Nat}(nc:Array Value):KeepT (fun j=>j=r) w (w.setRow r nc):=⟨rfl,rfl,rfl,by simp,fun i hi hn=>setRow_other w _ i nc (fun e=>hn e)⟩
def PartEb (w:World)(b B m lo:Nat)(p:Ps)(e:Ending)(w':World):Prop:=
 (e=died∧KeepT (Tn b p) w w')∨∃nc x kid p',e= .returned (.agg nc)∧nc.size=262∧NdIs nc 0 x kid∧NdOk x∧TreeOf w' (fun j=>j < w.heap.size) kid x.kids∧OnR w w' b B m p p'∧p'.left.length≤lo
theorem Zcv (k:Int)(c:UInt8)(s:Nat→Bool)(n:Nat)(hk:1≤k∧k≤7)(hn:n≤9)(h1:k=6∨k=7→1≤n):NdOk (.mk k c s n 0 0 []):=
 .mk _ ⟨hk.1,by show k≤8;omega⟩ hn h1 (Nat.zero_le _) ⟨by show(-1:Int)≤0;omega,by show(0:Int)≤255;omega⟩ (fun _=>Int.le_refl _) (fun _ _=>rfl) (fun h=>by have:=hk.2;simp only [Nd.k]at h;omega) (fun y hy=>by cases hy)
structure NdG (nc:Array Value) (x:Nd) (kid:Value):Prop where
 size:nc.size=262
 is:NdIs nc 0 x kid
 one:nc.all (·.oneCell')=true
theorem Zdh (nc:Array Value)(o:Nat)(v:Value):Fil.put nc o #[v]=nc.setIfInBounds o v:=by simp [Fil.put]
theorem gset_kind (k:Int):NdG (Tryz.zeroCells242.setIfInBounds 0 (.int .i64 k)) (.mk k 0 (fun _=>false) 0 0 0 []) (.slice none 0 0):=by
 have h:=is_k bndZ_is Zap k;have z:(bndZ.setIfInBounds 0 (.int .i64 k)).size=262:=by rw [Array.size_setIfInBounds,Zap]
 rw [Zdh]at h;exact⟨z,h,h.one z rfl⟩
theorem gset_byte (k:Int)(c:UInt8):NdG ((Tryz.zeroCells242.setIfInBounds 0 (.int .i64 k)).setIfInBounds 1 (.int .u8 (c.toNat:Int))) (.mk k c (fun _=>false) 0 0 0 []) (.slice none 0 0):=by
 have z1:(Fil.put bndZ 0 #[Value.int .i64 k]).size=262:=by rw [Fil.put_size,Zap]
 have h:=is_c (is_k bndZ_is Zap k) z1 c;have z:((bndZ.setIfInBounds 0 (.int .i64 k)).setIfInBounds 1 (.int .u8 (c.toNat:Int))).size=262:=by rw [Array.size_setIfInBounds,Array.size_setIfInBounds,Zap]
 rw [Zdh,Zdh]at h;exact⟨z,h,h.one z rfl⟩
theorem Zdn (k:Int)(n:Nat):NdG ((Tryz.zeroCells242.setIfInBounds 0 (.int .i64 k)).setIfInBounds 258 (.int .i64 (n:Int))) (.mk k 0 (fun _=>false) n 0 0 []) (.slice none 0 0):=by
 have z1:(Fil.put bndZ 0 #[Value.int .i64 k]).size=262:=by rw [Fil.put_size,Zap]
 have h:=is_n (is_k bndZ_is Zap k) z1 n;have z:((bndZ.setIfInBounds 0 (.int .i64 k)).setIfInBounds 258 (.int .i64 (n:Int))).size=262:=by rw [Array.size_setIfInBounds,Array.size_setIfInBounds,Zap]
 rw [Zdh,Zdh]at h;exact⟨z,h,h.one z rfl⟩
theorem wpList_buildV {P:Program}{ops:Array Oper}{rest:List Oper}{o:Oper}{a:Act}{w:World}{Q:Exit→Act→World→Prop}(hg:o.guard=none)(t:TypeId)(parts:Array (Nat×Operand))(ho:o.op= .build t parts)
 (d:Option Tmp) (hd:o.dst=d) (vs:List (Nat×Value)) (hv:(parts.map fun(i,x)=>(i,a.eval x)).toList=vs) (cells:Array Value) (hf:P.built t vs=some cells)
 (h:wpList P ops Q rest (a.put d (.agg cells)) w):wpList P ops Q (o::rest) a w:=wpList_buildTo hg t parts ho d hd cells (hv▸hf) h
theorem Zar {nc:Array Value}(h:nc.size=262):(Tryz.prog.info? 242).map (·.size)=some nc.size:=by rw [h];exact bnd_size
theorem breSelf (p:Ps)(c:UInt8)(l:List UInt8)(b B m:Nat)(w:World)(hl:p.left=c::l)(h:OnR w w b B m p p)(hlen:p.left.length≤100000):
 Calls Tryz.prog 203 #[.pointer (some ⟨b,0,none⟩)] w (PartEb w b B m l.length p):=by
 have HNG:=Zh (gset_byte 1 c);have hby:∀h,(⟨(c::l).toArray⟩:ByteArray)[0]'h=c:=mk_at (j:=0) rfl;have hsz:=size_mk (c::l);have he:=Zcb (c::l) 1;rw [show(c::l).drop 1=l from rfl]at he;have hlc:(c::l).length=l.length+1:=rfl;rw [hlc]at hsz he;have hlt:(0:Int) < (l.length:Int)+1:=by omega
 have hle:(1:Int)≤(l.length:Int)+1:=by omega
 have HH:=Zh h;clear h hlc;go_enter Tryz.func203,Tryz.ntmps203;go_upto_region 1 with fail;generalize hwA:w.alloc _=wA;have HZ:=Zh (show wA.heap[w.heap.size]? =some (.cells bndZ 242 (0,0)) from hwA▸Zae _ _);have hbA:Below w.heap.size w wA:=hwA▸Zab w _;have HA:=Zh (HH.out.later hbA);clear hwA hbA;have c0:=HA.out.at_.c0;rw [hl]at c0;have f0:=HA.out.at_.fz 0;have HP1:=Zh (HA.out.at_.setN 0 (.string ⟨l.toArray⟩) { p with left:=l } rfl);have HK1:=Zh ((KeepT.refl (fun j=>j=b) wA).setCell (p:=⟨b,0,none⟩) (.inl rfl) (.string ⟨l.toArray⟩));go_upto_region 3 with fail;clear c0 f0;have H1:=Zh (HA.out.own_ HK1.out HP1.out rfl HA.out.gr HA.out.pt);generalize wA.setCell _ _=w1 at *;have HZ1:=Zh ((HK1.out.block _ (Zaa HZ.out) (fun e=>Zax HA.out.at_ ⟨_,_,HZ.out⟩ e.symm)).trans HZ.out);have HND:=Zh (Zci { p with left:=l } b _ w1 H1.out.at_ HNG.out.size HNG.out.one H1.out.pt);go_wp2_with fail;refine HND.out.mono ?_;clear HND;generalize ((Tryz.zeroCells242.setIfInBounds 0 (.int .i64 1)).setIfInBounds 1 (.int .u8 (c.toNat:Int)))=nc at *;rintro e w2 ⟨hk2,rfl | ⟨rfl,hp2,hpt⟩⟩
 ·exact⟨rfl,.inl ⟨rfl,H1.out.keep.trans hk2 (fun i _ e=> .inl e)⟩⟩
 have H2:=Zh (H1.out.own_ hk2 hp2 rfl H1.out.gr hpt);have HZ2:=Zh ((hk2.block _ (Zaa HZ1.out) (fun e=>Zax H1.out.at_ ⟨_,_,HZ1.out⟩ e.symm)).trans HZ1.out);clear hk2 hp2 hpt;go_wp2_with (refine wpList_store_row rfl 242 _ _ (by with_reducible rfl) w.heap.size nc rfl rfl 242 bndZ HZ2.out (Zar HNG.out.size) (by rw [Zap,HNG.out.size]) HNG.out.one ?_);refine bodyPost_ret (v:= .agg nc) (results_cell_row (p:=2) (by kernel_rfl) _ _ w.heap.size 242 nc (0,0) _ rfl (setRow_heap _ _ _ _ _ _ HZ2.out) Tryz.underlying242 rfl (Zar HNG.out.size)) rfl ?_;exact .inr ⟨nc,_,_,_,rfl,HNG.out.size,HNG.out.is,Zcv 1 c _ 0 (by decide) (by omega) (fun h=>by omega),.nil,H2.out.row (Zaw nc) (Nat.le_refl _) ⟨_,_,HZ2.out⟩,Nat.le_refl _⟩
open Go Go.Proofs Go.RowKit Go.Ink Go.Sort
theorem tenB_iff (c:UInt8):tenB.contains c=true→48≤c.toNat∧c.toNat≤57:=by
 intro h;have h:c∈tenB:=by simpa using h
 simp only [tenB,List.mem_cons,List.not_mem_nil,or_false]at h;rcases h with h | h | h | h | h | h | h | h | h | h <;> subst h <;> decide
theorem trim_parts (l cs:List UInt8):∃d,l=d++Lib.trimLeftS l cs∧∀x∈d,cs.contains x=true:=by
 refine⟨l.takeWhile (cs.contains ·),?_,fun x hx=>?_⟩
 ·unfold Lib.trimLeftS
  exact(List.takeWhile_append_dropWhile).symm
 ·induction l with
  | nil=>simp at hx
  | cons a l ih=>
    rw [List.takeWhile_cons]at hx
    split at hx
    ·rename_i h
     rcases List.mem_cons.1 hx with rfl | hx
     ·exact h
     ·exact ih hx
    ·cases hx
def NumbE (w:World)(b B m:Nat)(p:Ps)(e:Ending)(w':World):Prop:=
 ∃(n:Nat) (ok:Bool) (l:List UInt8),e= .returned (.tuple #[.int .i64 (n:Int),.bool ok])∧n≤256∧OnR w w' b B m p { p with left:=l }∧l.length≤p.left.length
theorem iter_later (w:World)(s:ByteArray)(pos:Nat):Below w.heap.size w (w.iter s pos):=Zab w _
theorem breNumber (p:Ps)(b B m:Nat)(w:World)(h:OnR w w b B m p p)(hlen:p.left.length≤100000):
 Calls Tryz.prog 205 #[.pointer (some ⟨b,0,none⟩)] w (NumbE w b B m p):=by
 have HT:=Zh (trimSet p.left tenB w (by decide) (by decide));obtain⟨d,hd,hdd⟩:=trim_parts p.left tenB;obtain⟨r,hr⟩:∃r,Lib.trimLeftS p.left tenB=r:=⟨_,rfl⟩;rw [hr]at hd HT;have hll:p.left.length=d.length+r.length:=by rw [hd,List.length_append]
 obtain⟨L,hL⟩:∃L,p.left=L:=⟨_,rfl⟩;rw [hL]at hll hd HT hlen;have HRL:=Zh (show r.length≤p.left.length by rw [hL,hll];omega);have he:=mk_take L d.length;rw [show L.take d.length=d by rw [hd,List.take_left]]at he;have HDL:=Zh (show d.length≤100000 by omega);have HDD:=Zh hdd;have c0:=h.at_.c0;rw [hL]at c0;have hsz:=size_mk L;have hrz:=size_mk r;have hwr2:wrap64 ((L.length:Int) - (r.length:Int))=(d.length:Int):=by unfold wrap64;omega
 have hd0:(0:Int)≤(d.length:Int):=by omega
 have hdi:(d.length:Int)≤(L.length:Int):=by omega
 have HH:=Zh h;clear h hr hd hdd hll hL;go_enter Tryz.func205,Tryz.ntmps205;go_upto_region 1 with fail;have HT2:=Zh (show Calls Tryz.prog 57 #[.string ⟨L.toArray⟩,.string ⟨#[48,49,50,51,52,53,54,55,56,57]⟩] w fun e w'=>e= .returned (.string ⟨r.toArray⟩)∧Below w.heap.size w w' from HT.out);clear HT;go_wp2_with fail;refine HT2.out.mono ?_;rintro e w1 ⟨rfl,hb1⟩;have H1:=Zh (HH.out.later hb1);have q0:=(hb1.cell (p:=⟨b,0,none⟩) (Zbt c0)).trans c0;clear c0 hb1 HT2;go_upto_region 2 with fail
 go_quiet (fail)
 have hbn:Below w1.heap.size w1 (w1.drewN nq):=⟨rfl,rfl,rfl,Nat.le_refl _,fun _ _=>rfl⟩;have HN:=Zh (H1.out.later hbn);have f0:=HN.out.at_.fz 0;have HP2:=Zh (HN.out.at_.setN 0 (.string ⟨r.toArray⟩) { p with left:=r } rfl);have HK2:=Zh ((KeepT.refl (fun j=>j=b) (w1.drewN nq)).setCell (p:=⟨b,0,none⟩) (.inl rfl) (.string ⟨r.toArray⟩));have q1:(w1.drewN nq).cell? ⟨b,0,none⟩=some (.string ⟨L.toArray⟩):=q0;clear hbn;go_upto_region 5 with fail;have H2:=Zh (HN.out.own_ HK2.out HP2.out rfl HN.out.gr HN.out.pt);generalize (w1.drewN nq).setCell _ _=wB at *;clear q0 q1 f0 HP2 HK2 HN H1 hwr2 he hd0 hdi;have hdz:=size_mk d;go_wp2_with fail
 go_loopw [6,8] (fun nv _ wr=>∃n pos:Nat,nv= .int .i64 (n:Int)∧n≤256∧pos≤d.length∧wr=wB.iter ⟨d.toArray⟩ pos) (fun _ _ wr=>d.length - wr.iterPos wB.heap.size)
 case atStart=>exact⟨0,0,rfl,Nat.zero_le _,Nat.zero_le _,rfl⟩
 case round=>
  obtain⟨n,pos,rfl,hn,hp,rfl⟩:=hrel
  by_cases hlt:pos < d.length
  case neg=>
   have hnx:=fun ty=>run_next_end (P:=Tryz.prog) wB ⟨d.toArray⟩ pos ty (by rw [hdz];exact hlt);have HN2:=Zh hn;clear hlt hn hp;obtain⟨bb,hbb⟩:∃bb:Bool,(d !=[])=bb:=⟨_,rfl⟩;go_wp2_with fail;go_returns;exact⟨n,_,r,rfl,HN2.out,H2.out.later (iter_later _ _ _),HRL.out⟩
  have hlt2:pos < (⟨d.toArray⟩:ByteArray).size:=by rw [hdz];exact hlt
  obtain⟨c,hkc⟩:∃c,d[pos]? =some c:=⟨_,Zg hlt⟩;have hby:=mk_at hkc;have hc:=tenB_iff c (HDD.out c (List.mem_of_getElem? hkc));have hnx:=fun ty=>run_next_ascii (P:=Tryz.prog) wB ⟨d.toArray⟩ pos ty hlt2 (by rw [hby];omega);simp only [hby]at hnx;clear hkc;go_wp2_with fail;go_roundw
  case rel=>exact⟨min (10 * n+(c.toNat - 48)) 256,pos+1,by congr 1;omega,by omega,hlt,rfl⟩
  case measure=>rw [World.iterPos_iter,World.iterPos_iter];omega
end Go.Proofs.YtndjgbehbgcpkaaGreatDoor
