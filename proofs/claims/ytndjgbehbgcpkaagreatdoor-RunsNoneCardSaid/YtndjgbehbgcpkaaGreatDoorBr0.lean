/- Go's library at any bytes: prefixes; whether a number is among others. -/
import Derived.Test.YtndjgbehbgcpkaaGreatDoorCa5
import Derived.Test.YtndjgbehbgcpkaaGreatDoorKeep
import Derived.Shelf.Strings.SlTrimAscii
import Derived.Test.YtndjgbehbgcpkaaGreatDoorPr7
import Derived.Laws.RangeAny
import Derived.Laws.Runes
import Derived.WalkMore
import Derived.Deep.Cut
import Derived.Deep.QuietTactic
import Derived.BigQuiet
import Derived.Shelf.Strings.IndexAnyAll
set_option linter.unusedVariables false
set_option linter.unusedSimpArgs false
set_option maxRecDepth 100000
set_option maxHeartbeats 4000000
namespace Go.Proofs.YtndjgbehbgcpkaaGreatDoor
open Go Go.Proofs Go.RowKit Go.Ink Go.Sort
theorem mk_take (t:List UInt8)(n:Nat):(⟨t.toArray⟩:ByteArray).extract 0 n=⟨(t.take n).toArray⟩:=by
 apply ByteArray.ext
 simp [ByteArray.data_extract,List.extract_toArray,List.extract_eq_take_drop]
theorem Zcb (s:List UInt8)(n:Nat):(⟨s.toArray⟩:ByteArray).extract n s.length=⟨(s.drop n).toArray⟩:=by
 apply ByteArray.ext
 simp [ByteArray.extract,ByteArray.copySlice,List.extract_eq_take_drop];exact List.take_of_length_le (by rw [List.length_drop];omega)
theorem mk_at {x:List UInt8}{j:Nat}{c:UInt8}(h:x[j]? =some c):∀h,(⟨x.toArray⟩:ByteArray)[j]'h=c:=fun _=>by
 obtain⟨hl,hc⟩:=List.getElem?_eq_some_iff.1 h;simpa [ByteArray.getElem_eq_getElem_data] using hc
def hasP (s p:List UInt8):Bool:=decide (p.length≤s.length) && (s.take p.length==p)
theorem hasP_le {s p:List UInt8}(h:hasP s p=true):p.length≤s.length:=by
 unfold hasP at h;simp only [Bool.and_eq_true,decide_eq_true_eq]at h;exact h.1
theorem liteHas (s p:List UInt8)(w:World):
 Calls Tryz.prog 58 #[.string ⟨s.toArray⟩,.string ⟨p.toArray⟩] w fun e w'=>e= .returned (.bool (hasP s p))∧w'=w:=by
 have hsz:=size_mk s;have hpz:=size_mk p;have hx:=mk_take s p.length;obtain⟨n,hn⟩:∃n,p.length=n:=⟨_,rfl⟩;obtain⟨m,hm⟩:∃m,s.length=m:=⟨_,rfl⟩;rw [hn]at hx hpz;rw [hm]at hsz;obtain⟨x,hxx⟩:∃x,s.take n=x:=⟨_,rfl⟩;have HB:Hid (hasP s p=(decide (n≤m) && (x==p))):=Zh (by unfold hasP;rw [hn,hm,hxx]);rw [hxx]at hx;clear hxx hn hm
 by_cases h3:n≤m
 ·have h3i:(n:Int)≤(m:Int):=by omega
  have HN:=Zh h3;cases hq:(x==p)
  ·go_enter Tryz.func58,Tryz.ntmps58
   go_wp2_with fail;go_returns;exact⟨by rw [HB.out,hq];simp,rfl⟩
  ·go_enter Tryz.func58,Tryz.ntmps58
   go_wp2_with fail;go_returns;exact⟨by rw [HB.out,hq];simp [HN.out],rfl⟩
 ·have h3i:¬(n:Int)≤(m:Int):=by omega
  have HN:=Zh h3;clear h3 hx;go_enter Tryz.func58,Tryz.ntmps58;go_wp2_with fail;go_returns;exact⟨by rw [HB.out];simp [HN.out],rfl⟩
theorem strHas (s p:List UInt8)(w:World):
 Calls Tryz.prog 28 #[.string ⟨s.toArray⟩,.string ⟨p.toArray⟩] w fun e w'=>e= .returned (.bool (hasP s p))∧w'=w:=by
 have HC:=Zh (liteHas s p w);generalize hasP s p=r at *;go_enter Tryz.func28,Tryz.ntmps28;go_wp2_with fail;refine HC.out.mono ?_;rintro e w1 ⟨rfl,rfl⟩;clear HC;go_wp2_with fail;go_returns;exact⟨rfl,rfl⟩
def cutP (s p:List UInt8):List UInt8:=if hasP s p=true then s.drop p.length else s
theorem cutP_le (s p:List UInt8):(cutP s p).length≤s.length:=by
 unfold cutP
 split
 ·rw [List.length_drop];omega
 ·exact Nat.le_refl _
theorem cutP_lt {s p:List UInt8}(h:hasP s p=true)(hp:0 < p.length):(cutP s p).length < s.length:=by
 unfold cutP;rw [if_pos h,List.length_drop];have:=hasP_le h;omega
theorem liteCut (s p:List UInt8)(w:World):
 Calls Tryz.prog 248 #[.string ⟨s.toArray⟩,.string ⟨p.toArray⟩] w fun e w'=>e= .returned (.tuple #[.string ⟨(cutP s p).toArray⟩,.bool (hasP s p)])∧w'=w:=by
 have hsz:=size_mk s;have hpz:=size_mk p;have HC:=Zh (liteHas s p w);cases hq:hasP s p
 case false=>
  have hc:cutP s p=s:=by unfold cutP;rw [if_neg (by rw [hq];decide)]
  rw [hc];rw [hq]at HC;clear hc hq;go_enter Tryz.func248,Tryz.ntmps248;go_wp2_with fail;refine HC.out.mono ?_;rintro e w1 ⟨rfl,rfl⟩;clear HC;go_wp2_with fail;go_returns;exact⟨rfl,rfl⟩
 case true=>
  have hc:cutP s p=s.drop p.length:=by unfold cutP;rw [if_pos hq]
  have hle:p.length≤s.length:=hasP_le hq;rw [hc];rw [hq]at HC;have hx:=Zcb s p.length;obtain⟨x,hxx⟩:∃x,s.drop p.length=x:=⟨_,rfl⟩;rw [hxx]at hx ⊢;have hi:(p.length:Int)≤(s.length:Int):=by omega
  clear hc hq hxx;go_enter Tryz.func248,Tryz.ntmps248;go_wp2_with fail;refine HC.out.mono ?_;rintro e w1 ⟨rfl,rfl⟩;clear HC;go_wp2_with fail;go_returns;exact⟨rfl,rfl⟩
theorem strCut (s p:List UInt8)(w:World):
 Calls Tryz.prog 223 #[.string ⟨s.toArray⟩,.string ⟨p.toArray⟩] w fun e w'=>e= .returned (.tuple #[.string ⟨(cutP s p).toArray⟩,.bool (hasP s p)])∧w'=w:=by
 have HC:=Zh (liteCut s p w);generalize hasP s p=r at *;generalize cutP s p=x at *;go_enter Tryz.func223,Tryz.ntmps223;go_wp2_with fail;refine HC.out.mono ?_;rintro e w1 ⟨rfl,rfl⟩;clear HC;go_wp2_with fail;go_returns;exact⟨rfl,rfl⟩
def BoE (e:Ending):Prop:=∃b:Bool,e= .returned (.bool b)
def Zbm (w:World)(B:Nat)(v:Value)(n:Nat):Prop:=∃zs:List Int,zs.length=n∧w.ownsRow B 3 1 v n (zs.map (Value.int .i64))
section
variable {w w':World}{B n:Nat}{v:Value}
theorem Zbm.nil (w:World)(B:Nat):Zbm w B (.slice none 0 0) 0:=⟨[],rfl,World.ownsRow_nil _ _ _ _⟩
theorem Zbm.shape (h:Zbm w B v n):∃ao cap,v= .slice ao n cap:=by
 obtain⟨zs,_,h⟩:=h;exact Zdv h
theorem Zbm.later (h:Zbm w B v n)(hb:Below w.heap.size w w'):Zbm w' B v n:=by
 obtain⟨zs,hz,h⟩:=h;exact⟨zs,hz,Zdc h hb⟩
theorem Zbm.kept {S:Nat→Prop}(h:Zbm w B v n)(hk:KeepT S w w')(hn:∀g,v.ownBlock=some g→¬S g):Zbm w' B v n:=by
 obtain⟨zs,hz,h⟩:=h;exact⟨zs,hz,Zda hk h hn⟩
theorem Zbm.kind {g:Nat}(h:Zbm w B v n)(hg:v.ownBlock=some g):B≤g∧∃cs fr,w.heap[g]? =some (.cells cs 3 fr):=by
 obtain⟨zs,hz,h⟩:=h;rcases h.2 with⟨rfl,_⟩ | ⟨g',cap,cur,rfl,hb,hh,_⟩
 ·cases hg
 ·simp only [Value.ownBlock,Option.some.injEq]at hg
  subst hg;exact⟨hb,_,_,hh⟩
theorem Zbm.noNode (h:Zbm w B v n):∀j,v.ownBlock=some j→∀cs fr,w.heap[j]?≠some (.cells cs 242 fr):=fun j hj cs fr e=>by
 obtain⟨_,cs',fr',hh⟩:=h.kind hj;rw [hh]at e;simp only [Option.some.injEq,Obj.cells.injEq]at e;exact absurd e.2.1 (by decide)
end
theorem slIndex {v:Value}{n B:Nat}(x:Int)(w:World)(h:Zbm w B v n)(hn:n≤1000000):
 Calls Tryz.prog 247 #[v,.int .i64 x] w fun e w'=>(∃z:Int,e= .returned (.int .i64 z))∧w'=w:=by
 obtain⟨ao,cap,rfl⟩:=h.shape;have HN:=Zh h;clear h;go_enter Tryz.func247,Tryz.ntmps247;go_wp2_with fail
 go_loop [8] (fun iv=>∃i:Nat,iv= .int .i64 (i:Int)∧i≤n) (fun iv=>n - (intOf iv).toNat)
 case atStart=>exact⟨0,rfl,Nat.zero_le _⟩
 case round=>
  obtain⟨i,rfl,hi⟩:=hrel
  by_cases hlt:i < n
  case neg=>
   have hki:¬(i:Int) < (n:Int):=by omega
   clear hlt;go_wp2_with fail;go_returns;exact⟨⟨_,rfl⟩,rfl⟩
  have hki:(i:Int) < (n:Int):=by omega
  obtain⟨zs,hz,ho⟩:=HN.out;rcases ho.2 with⟨_,h0⟩ | ⟨g,cap',cur,hv,_⟩
  ·omega
  simp only [Value.slice.injEq]at hv;obtain⟨rfl,_,_⟩:=hv;obtain⟨z,hzi⟩:∃z,zs[i]? =some z:=⟨_,Zg (by omega)⟩;have hc:=ho.cells (g:=g) rfl i (.int .i64 z) (by rw [List.getElem?_map,hzi];rfl);have hcc:w.cell? ⟨g,i,none⟩=some (.int .i64 z):=by by_cases h0:i=0 <;> simpa [Addr.add,h0] using hc
  clear hc hzi ho;have HLT:=Zh hlt;clear hlt;obtain⟨b,hb⟩:∃b,(x==z)=b:=⟨_,rfl⟩;cases b
  ·go_wp2_with fail
   go_round
   case rel=>exact⟨i+1,by go_num,HLT.out⟩
   case measure=>have:=HLT.out;simp [intOf] <;> omega
  ·go_wp2_with fail
   go_returns;exact⟨⟨_,rfl⟩,rfl⟩
theorem Zcn {v:Value}{n B:Nat}(x:Int)(w:World)(h:Zbm w B v n)(hn:n≤1000000):
 Calls Tryz.prog 222 #[v,.int .i64 x] w fun e w'=>BoE e∧w'=w:=by
 have HC:=Zh (slIndex x w h hn);go_enter Tryz.func222,Tryz.ntmps222;go_wp2_with fail;refine HC.out.mono ?_;rintro e w1 ⟨⟨z,rfl⟩,rfl⟩;clear HC;go_wp2_with fail;go_returns;exact⟨⟨_,rfl⟩,rfl⟩
def tenB:List UInt8:=[48,49,50,51,52,53,54,55,56,57]
theorem trimSet (d cs:List UInt8)(w:World)(h1:cs.length < 1000)(h2:∀b∈cs,b.toNat < 128):
 Calls Tryz.prog 57 #[.string ⟨d.toArray⟩,.string ⟨cs.toArray⟩] w fun e w'=>e= .returned (.string ⟨(Lib.trimLeftS d cs).toArray⟩)∧Below w.heap.size w w':=by
 have h:=Any.strings_TrimLeft_laid Tryz.lays161 (by kernel_rfl) ⟨d.toArray⟩ ⟨cs.toArray⟩ w (by rw [size_mk];omega) (fun j b hj=>h2 b (List.mem_of_getElem? (by simpa using hj)));have e:(⟨cs.toArray⟩:ByteArray).data.toList=cs:=rfl;have e2:(⟨d.toArray⟩:ByteArray).data.toList=d:=by simp
 rw [e,e2]at h;exact h
open Go Go.Proofs Go.RowKit Go.Ink Go.Sort
def CmdT (w:World)(b:Nat)(c:Cm)(e:Ending)(w':World):Prop:=∃(er:Int) (c':Cm),e= .returned (.int .i64 er)∧CmAt w' b c'∧c'.lv=c.lv∧c'.sv=c.sv∧CmOk c'∧KeepT (fun j=>j=b) w w'
theorem CmdT.same {w w':World}{b:Nat}{c:Cm}(er:Int)(h:CmAt w' b c)(hc:CmOk c)(hk:KeepT (fun j=>j=b) w w'):CmdT w b c (.returned (.int .i64 er)) w':=⟨er,c,rfl,h,rfl,rfl,hc,hk⟩
theorem trimS_len (l cs:List UInt8):(Lib.trimLeftS l cs).length≤l.length:=by
 obtain⟨d,h,_⟩:∃d,l=d++Lib.trimLeftS l cs∧True:=⟨l.takeWhile (fun b=>cs.contains b),by unfold Lib.trimLeftS;exact(List.takeWhile_append_dropWhile).symm,trivial⟩;have:=congrArg List.length h;rw [List.length_append]at this;omega
theorem cmdTrim (s:List UInt8)(w:World):Calls Tryz.prog 27 #[.string ⟨s.toArray⟩] w fun e w'=>(∃t:List UInt8,e= .returned (.string ⟨t.toArray⟩)∧t.length≤s.length)∧Below w.heap.size w w':=by
 have HT:=Zh (trimSet s [32,9] w (by decide) (by decide));have hl:=trimS_len s [32,9];go_enter Tryz.func27,Tryz.ntmps27;go_wp2_with fail;refine HT.out.mono ?_;rintro e w1 ⟨rfl,hb⟩;have HB:=Zh hb;clear hb HT;go_wp2_with fail;go_returns;exact⟨⟨_,rfl,hl⟩,HB.out⟩
theorem cmdSuffix (b:Nat)(c:Cm)(hc:CmOk c)(s:List UInt8)(w:World)(hx:MaxW w)(hb:CmAt w b c):
 Calls Tryz.prog 59 #[.pointer (some ⟨b,0,none⟩),.string ⟨s.toArray⟩] w fun e w'=>CmdT w b c e w':=by
 have hsz:=size_mk s;have HOK:=Zh hc;have HAT:=Zh hb
 by_cases h0:s=[]
 case pos=>
  subst h0;clear hb;go_enter Tryz.func59,Tryz.ntmps59;go_wp2_with fail;go_returns;exact .same 0 HAT.out hc (KeepT.refl _ _)
 have h0b:s.isEmpty=false:=by cases s with | nil=>exact absurd rfl h0 | cons _ _=>rfl
 have h0d:(s==[])=false:=Zf h0
 by_cases hl1:s.length=1
 case neg=>
  have hl1i:¬(s.length:Int)=1:=by omega
  have hl1b:((s.length:Int)==1)=false:=Zf hl1i;clear hl1 hb;go_enter Tryz.func59,Tryz.ntmps59;go_wp2_with fail;go_returns;exact .same 211 HAT.out hc (KeepT.refl _ _)
 obtain⟨d,hsd⟩:∃d,s=[d]:=by
  match s,hl1 with
  | [y],_=>exact⟨y,rfl⟩
 subst hsd;obtain⟨m,hm⟩:=hx;obtain⟨bb,HCN⟩:∃bb,Hid (Calls Tryz.prog 77 #[.string ⟨#[112,108,110]⟩,.string ⟨#[d]⟩] w fun e w'=>e= .returned (.bool bb)∧w'=w):=⟨_,Zh (Tryz.strings_Contains ⟨#[112,108,110]⟩ ⟨#[d]⟩ m w (by decide) hm)⟩;have hby:∀h,(⟨#[d]⟩:ByteArray)[0]'h=d:=fun _=>rfl;have HK:=Zh ((KeepT.refl (fun j=>j=b) w).setCell (p:=⟨b,14,none⟩) (.inl rfl) (.int .u8 (d.toNat:Int)));have HC2:=Zh (hb.setN 14 (.int .u8 (d.toNat:Int)) { c with pr:=(d.toNat:Int) } rfl);have c14:=hb.cel 14 (u:= .int .u8 c.pr) rfl;have f14:=hb.fz 14;clear hb hl1 h0 h0b h0d hm;go_enter Tryz.func59,Tryz.ntmps59;go_wp2_with fail;refine HCN.out.mono ?_;rintro e w1 ⟨rfl,rfl⟩;cases bb
 case false=>
  go_wp2_with fail;go_returns;exact .same 211 HAT.out hc (KeepT.refl _ _)
 go_wp2_with fail;go_returns;exact⟨0,_,rfl,HC2.out,rfl,rfl,⟨hc.lv,hc.sv,hc.dre,hc.re,hc.sub⟩,HK.out⟩
theorem cmdCount (b:Nat)(c:Cm)(hc:CmOk c)(s:List UInt8)(w:World)(hs:s.length≤100000)(hb:CmAt w b c):
 Calls Tryz.prog 63 #[.pointer (some ⟨b,0,none⟩),.string ⟨s.toArray⟩] w fun e w'=>CmdT w b c e w':=by
 have hsz:=size_mk s;have HAT:=Zh hb;have HK:=Zh ((KeepT.refl (fun j=>j=b) w).setCell (p:=⟨b,13,none⟩) (.inl rfl) (.string ⟨s.toArray⟩));have HC2:=Zh (hb.setN 13 (.string ⟨s.toArray⟩) { c with n2:=s } rfl);have c13:=hb.cel 13 (u:= .string ⟨c.n2.toArray⟩) rfl;have f13:=hb.fz 13;clear hb;go_enter Tryz.func63,Tryz.ntmps63;go_wp2_with fail
 go_loop [8] (fun iv=>∃k:Nat,iv= .int .i64 (k:Int)∧k≤s.length) (fun iv=>s.length - (intOf iv).toNat)
 case atStart=>exact⟨0,rfl,Nat.zero_le _⟩
 case round=>
  obtain⟨k,rfl,hk⟩:=hrel
  by_cases hlt:k < s.length
  case neg=>
   have hki:¬(k:Int) < (s.length:Int):=by omega
   clear hlt;go_wp2_with fail;go_returns;exact⟨0,_,rfl,HC2.out,rfl,rfl,⟨hc.lv,hc.sv,hc.dre,hc.re,hc.sub⟩,HK.out⟩
  have hki:(k:Int) < (s.length:Int):=by omega
  obtain⟨d,hkd⟩:∃d,s[k]? =some d:=⟨_,Zg hlt⟩;have hby:=Zak hkd;clear hkd
  by_cases h48:(d.toNat:Int) < 48
  case pos=>
   go_wp2_with fail;go_returns;exact .same 211 HAT.out hc (KeepT.refl _ _)
  by_cases h57:(57:Int) < (d.toNat:Int)
  case pos=>
   go_wp2_with fail;go_returns;exact .same 211 HAT.out hc (KeepT.refl _ _)
  by_cases h4:(4:Int)≤(k:Int)
  case pos=>
   go_wp2_with fail;go_returns;exact .same 211 HAT.out hc (KeepT.refl _ _)
  go_wp2_with fail;go_round
  case rel=>exact⟨k+1,by go_num,by omega⟩
  case measure=>simp [intOf] <;> omega
open Go Go.Proofs Go.RowKit Go.Ink Go.Sort
theorem run_next_at {P:Program}(w:World)(k:Nat)(s:ByteArray)(pos:Nat)(ty:TypeId)(hk:w.heap[k]? =some (.stringIter s pos))(h:pos < s.size):
 (Instr.next (.pointer (some ⟨k,0,none⟩)) true ty).run P w= .ok (.tuple #[.bool true,.int .i64 pos,.int .i32 (Utf8.decode s pos).1]) { w with heap:=w.heap.setIfInBounds k (.stringIter s (pos+(Utf8.decode s pos).2)) }:=by
 simp only [Instr.next,getObj,setObj,Sem.run_bind,Sem.run,hk,Result.andThen,h,if_true];simp [goInt]
theorem run_next_no {P:Program}(w:World)(k:Nat)(s:ByteArray)(pos:Nat)(ty:TypeId)(hk:w.heap[k]? =some (.stringIter s pos))(h:¬pos < s.size):
 (Instr.next (.pointer (some ⟨k,0,none⟩)) true ty).run P w= .ok (.tuple #[.bool false]) w:=by
 simp [Instr.next,getObj,Sem.run,hk,h]
theorem decode_some (s:ByteArray)(pos:Nat)(h:pos < s.size):0≤(Utf8.decode s pos).1∧(Utf8.decode s pos).1≤2147483647∧1≤(Utf8.decode s pos).2:=by
 by_cases ha:(s[pos]'h).toNat < 128
 ·rw [decode_ascii s pos h ha]
  exact⟨by simp,by simp;omega,Nat.le_refl _⟩
 ·obtain⟨h1,h2⟩:=decode_high s pos h (by omega)
  exact⟨by omega,decode_le s pos,h2⟩
theorem below_turn {w:World}{B k:Nat}{o:Obj}(hk:B≤k):Below B w { w with heap:=w.heap.setIfInBounds k o }:=by
 refine⟨rfl,rfl,rfl,by simp,fun i hi=>?_⟩;have:k≠i:=by omega
 simp [Array.getElem?_setIfInBounds,this]
theorem indexAny_lt (cs:List UInt8):∀s:List UInt8,Lib.indexAny s cs=-1∨∃k:Nat,Lib.indexAny s cs=(k:Int)∧k < s.length
 | []=> .inl rfl
 | b::l=>by
   unfold Lib.indexAny
   split
   ·exact .inr ⟨0,rfl,by simp⟩
   ·rcases indexAny_lt cs l with h | ⟨k,h,hk⟩
    ·rw [h];exact .inl rfl
    ·rw [h]
     refine .inr ⟨k+1,?_,by simp;omega⟩;rw [if_neg (by rw [beq_iff_eq];omega)]
     push_cast
     rfl
def IntE (e:Ending):Prop:=∃z:Int,e= .returned (.int .i64 z)
theorem idxRune_err (a b:UInt8)(ha:a.toNat < 128)(hb:b.toNat < 128)(w:World):
 Calls Tryz.prog 173 #[.string ⟨#[a,b]⟩,.int .i32 65533] w fun e w'=>IntE e∧Below w.heap.size w w':=by
 obtain⟨d,hd⟩:∃d:List UInt8,[a,b]=d:=⟨_,rfl⟩;have hdl:d.length=2:=by rw [← hd];rfl
 have HDD:=Zh (show∀x∈d,x.toNat < 128 by rw [← hd];simp;exact⟨ha,hb⟩);rw [show(⟨#[a,b]⟩:ByteArray)=⟨d.toArray⟩ by rw [← hd]];clear hd ha hb;have hdz:=size_mk d;go_enter Tryz.func173,Tryz.ntmps173;go_wp2_with fail
 go_loopw [5,6] (fun _ _ wr=>∃pos:Nat,pos≤d.length∧wr=w.iter ⟨d.toArray⟩ pos) (fun _ _ wr=>d.length - wr.iterPos w.heap.size)
 case atStart=>exact⟨0,Nat.zero_le _,rfl⟩
 case round=>
  obtain⟨pos,hp,rfl⟩:=hrel
  by_cases hlt:pos < d.length
  case neg=>
   have hnx:=fun ty=>run_next_end (P:=Tryz.prog) w ⟨d.toArray⟩ pos ty (by rw [hdz];exact hlt);clear hlt hp;go_wp2_with fail;go_returns;exact⟨⟨_,rfl⟩,Zab _ _⟩
  have hlt2:pos < (⟨d.toArray⟩:ByteArray).size:=by rw [hdz];exact hlt
  obtain⟨c,hkc⟩:∃c,d[pos]? =some c:=⟨_,Zg hlt⟩;have hby:=mk_at hkc;have hc:=HDD.out c (List.mem_of_getElem? hkc);have hnx:=fun ty=>run_next_ascii (P:=Tryz.prog) w ⟨d.toArray⟩ pos ty hlt2 (by rw [hby];omega);simp only [hby]at hnx;have hcn:¬(c.toNat:Int)=65533:=by omega
  have hcb:((c.toNat:Int)==65533)=false:=Zf hcn;clear hkc hcn;go_wp2_with fail;go_roundw
  case rel=>exact⟨pos+1,hlt,rfl⟩
  case measure=>rw [World.iterPos_iter,World.iterPos_iter];omega
theorem idxRune (a b:UInt8)(ha:a.toNat < 128)(hb:b.toNat < 128)(r:Int)(h0:0≤r)(w:World):
 Calls Tryz.prog 173 #[.string ⟨#[a,b]⟩,.int .i32 r] w fun e w'=>IntE e∧Below w.heap.size w w':=by
 by_cases h128:r < 128
 case pos=>
  refine(Any.strings_IndexRune_ascii Tryz.lays152 ⟨#[a,b]⟩ r w h0 h128).mono ?_;rintro e w1 ⟨rfl,rfl⟩;exact⟨⟨_,rfl⟩,Below.refl _ _⟩
 by_cases hre:r=65533
 case pos=>
  subst hre;exact idxRune_err a b ha hb w
 have hrb:(r==65533)=false:=Zf hre;have HV:=Zh (Any.utf8_ValidRune Tryz.lays119 r w);cases hv:Lib.validRune r
 case false=>
  rw [hv]at HV;clear hv hre;go_enter Tryz.func173,Tryz.ntmps173;go_wp2_with fail;refine HV.out.mono ?_;rintro e w1 ⟨rfl,rfl⟩;go_wp2_with fail;go_returns;exact⟨⟨_,rfl⟩,Below.refl _ _⟩
 rw [hv]at HV;have hv2:Utf8.valid r=true:=by rw [validRune_eq];exact hv
 obtain⟨e1,e2,e3⟩:=encode_facts r hv2 (by omega);have hcv:∀X:World,(Go.convert 21 9 (.int .i32 r)).run Tryz.prog X= .ok (.string (Utf8.encode r)) X:=fun X=>run_convert_int_string X _ _ _ _ (by rw [Tryz.underlying21];rfl) Tryz.underlying9;generalize hE:Utf8.encode r=E at *;have HE3:=Zh e3;have hu21:(Tryz.prog.underlying 21).isSome=true:=by rw [Tryz.underlying21];rfl
 clear hv hv2 e3 hre;obtain⟨n,hn⟩:∃n,E.size=n:=⟨_,rfl⟩;have HIB:=Zh (fun(q:UInt8) (X:World)=>(show Calls Tryz.prog 40 #[.string ByteArray.empty,.int .u8 (q.toNat:Int)] X fun e w'=>e= .returned (.int .i64 (-1))∧w'=X from Tryz.strings_IndexByte ByteArray.empty (q.toNat:Int) X))
 by_cases hn2:n=2
 case neg=>
  have hw1:IntKind.i64.wrap ((n:Int) - 1)=(n:Int) - 1:=IntWalk.i64_in _ (by omega);have hnl:¬(n:Int) - 1 < 2:=by omega
  clear HIB;go_enter Tryz.func173,Tryz.ntmps173;go_wp2_with fail;refine HV.out.mono ?_;rintro e w1 ⟨rfl,rfl⟩;go_wp2_with fail;go_step3;go_wp2_with fail
  go_loopw [9,10,11,12] (fun iv _ _ _ wr=>iv= .int .i64 ((n:Int) - 1)∧wr=w1) (fun _ _ _ _ _=>0)
  case atStart=>exact⟨rfl,rfl⟩
  case round=>
   obtain⟨rfl,rfl⟩:=hrel;go_wp2_with fail
   (try rw [Exit.noGoto_ret])
   go_returns;exact⟨⟨_,rfl⟩,Below.refl _ _⟩
 subst hn2;have hl:1 < E.size:=by omega
 obtain⟨q,hq⟩:∃q,E[1]'hl=q:=⟨_,rfl⟩;have hby:∀h,E[1]'h=q:=fun _=>hq;have hq1:128≤q.toNat:=by
  have:=HE3.out (by omega);have e:E.size - 1=1:=by omega
  simp only [e]at this
  rwa [hq]at this
 have hby2:∀h,(⟨#[a,b]⟩:ByteArray)[1]'h=b:=fun _=>rfl;have hne:¬(b.toNat:Int)=(q.toNat:Int):=by omega
 have hneb:((b.toNat:Int) !=(q.toNat:Int))=true:=bne_iff_ne.2 hne;have he2:(⟨#[a,b]⟩:ByteArray).extract 2 2=⟨#[]⟩:=rfl;have hw2:IntKind.i64.wrap 2=2:=IntWalk.i64_in _ (by omega);clear hq HE3;go_enter Tryz.func173,Tryz.ntmps173;go_wp2_with fail;refine HV.out.mono ?_;rintro e w1 ⟨rfl,rfl⟩;go_wp2_with fail;go_step3;go_wp2_with fail
 go_loopw [9,10,11,12] (fun iv _ _ _ wr=>iv= .int .i64 1∧wr=w1) (fun _ _ _ _ _=>0)
 case atStart=>exact⟨rfl,rfl⟩
 case round=>
  obtain⟨rfl,rfl⟩:=hrel;go_wp2_with fail;go_step3;go_upto_region 6 with fail
  go_quiet (fail)
  go_upto_region 7 with fail
  go_quiet ((go_at_call 40;exact(HIB.out q _).mono (fun _ _ ⟨h1,h2⟩=>⟨h1,_,h2⟩)))
  go_wp2_with fail;rw [Exit.noGoto_ret];go_wp2_with fail;rw [Exit.noGoto_ret];go_returns;exact⟨⟨_,rfl⟩,⟨rfl,rfl,rfl,Nat.le_refl _,fun _ _=>rfl⟩⟩
theorem idxAny_short (a b:UInt8)(ha:a.toNat < 128)(hb:b.toNat < 128)(s:List UInt8)(hs:s.length≤8)(w:World):
 Calls Tryz.prog 146 #[.string ⟨s.toArray⟩,.string ⟨#[a,b]⟩] w fun e w'=>(∃z:Int,e= .returned (.int .i64 z)∧(z=-1∨∃k:Nat,z=(k:Int)∧k < s.length))∧Below w.heap.size w w':=by
 have hsz:=size_mk s;have h8:¬(8:Int) < (s.length:Int):=by omega
 have h8d:decide ((8:Int) < (s.length:Int))=false:=decide_eq_false h8;have HS:=Zh (Any.strings_shouldUseASCIISet Tryz.lays226 (s.length:Int) w);have HIR:=Zh (fun(r:Int) (h0:0≤r) (X:World)=>idxRune a b ha hb r h0 X);clear ha hb;go_enter Tryz.func146,Tryz.ntmps146;go_wp2_with fail;refine HS.out.mono ?_;rw [h8d];rintro e w1 ⟨rfl,rfl⟩;clear HS h8d;go_wp2_with fail
 go_loopw [9,10] (fun _ _ wr=>∃pos:Nat,Hid (wr.heap[w1.heap.size]? =some (.stringIter ⟨s.toArray⟩ pos))∧Hid (Below w1.heap.size w1 wr)) (fun _ _ wr=>s.length - wr.iterPos w1.heap.size)
 case atStart=>exact⟨0,Zh (World.iter_heap _ _ _),Zh (Zab _ _)⟩
 case round=>
  obtain⟨pos,HI,HB⟩:=hrel
  by_cases hlt:pos < s.length
  case neg=>
   have hnx:=fun ty=>run_next_no (P:=Tryz.prog) wr w1.heap.size ⟨s.toArray⟩ pos ty HI.out (by rw [hsz];exact hlt);clear hlt;go_wp2_with fail;go_returns;exact⟨⟨_,rfl,.inl rfl⟩,HB.out⟩
  have hlt2:pos < (⟨s.toArray⟩:ByteArray).size:=by rw [hsz];exact hlt
  have hnx:=fun ty=>run_next_at (P:=Tryz.prog) wr w1.heap.size ⟨s.toArray⟩ pos ty HI.out hlt2;obtain⟨d1,d2,d3⟩:=decode_some ⟨s.toArray⟩ pos hlt2;generalize hd:Utf8.decode ⟨s.toArray⟩ pos=D at *;obtain⟨r,k⟩:=D;dsimp only at d1 d2 d3 hnx;obtain⟨wn,hwn⟩:∃wn:World,{ wr with heap:=wr.heap.setIfInBounds w1.heap.size (.stringIter ⟨s.toArray⟩ (pos+k)) }=wn:=⟨_,rfl⟩;rw [hwn]at hnx;have HBN:=Zh (show Below w1.heap.size w1 wn from HB.out.trans (hwn▸below_turn (Nat.le_refl _)));have HIN:=Zh (show wn.heap[w1.heap.size]? =some (.stringIter ⟨s.toArray⟩ (pos+k)) by
   rw [← hwn]
   show(wr.heap.setIfInBounds _ _)[_]? =_
   rw [Array.getElem?_setIfInBounds,if_pos rfl,if_pos (Zaa HI.out)])
  have HR:=Zh (HIR.out (r:Int) (by omega) wn);have HP:=Zh (show pos < s.length∧1≤k∧wr.iterPos w1.heap.size=pos from⟨hlt,d3,by unfold World.iterPos;rw [HI.out]⟩);clear hwn hd d1 d2 d3 hlt hlt2;go_wp2_with fail;refine HR.out.mono ?_;rintro e w3 ⟨⟨z,rfl⟩,hb3⟩;have HB3:=Zh (HBN.out.trans (hb3.mono HBN.out.size));have HI3:=Zh ((hb3.block _ (Zaa HIN.out)).trans HIN.out);clear hb3 HR
  by_cases hz:(0:Int)≤z
  case pos=>
   go_wp2_with fail;go_returns;exact⟨⟨_,rfl,.inr ⟨pos,rfl,HP.out.1⟩⟩,HB3.out⟩
  go_wp2_with fail;go_roundw
  case rel=>exact⟨pos+k,HI3,HB3⟩
  case measure=>
   have h1:=HP.out;rw [h1.2.2,show w3.iterPos w1.heap.size=pos+k by unfold World.iterPos;rw [HI3.out]];omega
theorem idxAny (a b:UInt8)(ha:a.toNat < 128)(hb:b.toNat < 128)(s:List UInt8)(hs:s.length≤100000)(w:World):
 Calls Tryz.prog 146 #[.string ⟨s.toArray⟩,.string ⟨#[a,b]⟩] w fun e w'=>(∃z:Int,e= .returned (.int .i64 z)∧(z=-1∨∃k:Nat,z=(k:Int)∧k < s.length))∧Below w.heap.size w w':=by
 by_cases h8:s.length≤8
 ·exact idxAny_short a b ha hb s h8 w
 ·have hz:(Tryz.prog.info? 148).map (fun i=>(i.zero,i.size))=some (some (.agg (Array.replicate 256 (.bool false))),256):=by kernel_rfl
  refine(Any.strings_IndexAny_long Tryz.lays153 (zero_of_info hz).1 (zero_of_info hz).2 ⟨s.toArray⟩ ⟨#[a,b]⟩ w (Nat.le_refl 2) (by rw [size_mk];omega) (by rw [size_mk];omega) (by show 2 < _;omega) ?_).mono ?_
  ·intro j c hj
   have hm:c∈[a,b]:=List.mem_of_getElem? (by simpa using hj);simp only [List.mem_cons,List.not_mem_nil,or_false]at hm;rcases hm with rfl | rfl
   ·exact ha
   ·exact hb
  ·rintro e w1 ⟨rfl,rfl⟩
   refine⟨⟨_,rfl,?_⟩,((Below.refl _ _).alloc (Nat.le_refl _) _).alloc (by simp) _⟩;have:=indexAny_lt [a,b] s;simpa using this
open Go Go.Proofs Go.RowKit Go.Ink Go.Sort
def AskN (s:List UInt8)(e:Ending):Prop:=∃(t:List UInt8) (er:Int),e= .returned (.tuple #[.string ⟨t.toArray⟩,.int .i64 er])∧t.length≤s.length
theorem conAny (a b:UInt8)(ha:a.toNat < 128)(hb:b.toNat < 128)(s:List UInt8)(hs:s.length≤100000)(w:World):
 Calls Tryz.prog 105 #[.string ⟨s.toArray⟩,.string ⟨#[a,b]⟩] w fun e w'=>BoE e∧Below w.heap.size w w':=by
 have HI:=Zh (idxAny a b ha hb s hs w);clear ha hb;go_enter Tryz.func105,Tryz.ntmps105;go_wp2_with fail;refine HI.out.mono ?_;rintro e w1 ⟨⟨z,rfl,-⟩,hb1⟩;have HB:=Zh hb1;clear hb1 HI;go_wp2_with fail;go_returns;exact⟨⟨_,rfl⟩,HB.out⟩
theorem cmdAsks (s:List UInt8)(w:World)(hs:s.length≤100000):
 Calls Tryz.prog 64 #[.string ⟨s.toArray⟩] w fun e w'=>AskN s e∧Below w.heap.size w w':=by
 have hsz:=size_mk s
 by_cases h0:s=[]
 case pos=>
  subst h0;go_enter Tryz.func64,Tryz.ntmps64;go_wp2_with fail;go_returns;exact⟨⟨[],0,rfl,Nat.le_refl _⟩,Below.refl _ _⟩
 have h0b:(s==[])=false:=Zf h0;have h0e:s.isEmpty=false:=by cases s with | nil=>exact absurd rfl h0 | cons _ _=>rfl
 have HT:=Zh (cmdTrim s w);have HCA:=Zh (fun(t:List UInt8) (X:World) (ht:t.length≤100000)=>(show Calls Tryz.prog 105 #[.string ⟨t.toArray⟩,.string ⟨#[32,9]⟩] X fun e w'=>BoE e∧Below X.heap.size X w' from conAny 32 9 (by decide) (by decide) t ht X));have HHP:=Zh (fun(t:List UInt8) (X:World)=>(show Calls Tryz.prog 28 #[.string ⟨t.toArray⟩,.string ⟨#[33]⟩] X fun e w'=>e= .returned (.bool (hasP t [33]))∧w'=X from strHas t [33] X));have HS:=Zh hs;clear h0;go_enter Tryz.func64,Tryz.ntmps64;go_wp2_with fail;refine HT.out.mono ?_;rintro e w1 ⟨⟨t,rfl,hl⟩,hb1⟩;have HB1:=Zh hb1;have HL:=Zh hl;have hlz:=size_mk t;obtain⟨L1,hL1⟩:∃L,t.length=L:=⟨_,rfl⟩;clear hb1 HT
 by_cases hle:t.length=s.length
 case pos=>
  have hli:(t.length:Int)=(s.length:Int):=by omega
  have hlb:((t.length:Int)==(s.length:Int))=true:=Zt hli;clear hle hl hL1;go_wp2_with fail;go_returns;exact⟨⟨[],211,rfl,Nat.zero_le _⟩,HB1.out⟩
 have hli:¬(t.length:Int)=(s.length:Int):=by omega
 have hlb:((t.length:Int)==(s.length:Int))=false:=Zf hli;have HC:=Zh (HCA.out t w1 (by have:=HS.out;omega));clear hle hl hL1;go_wp2_with fail;refine HC.out.mono ?_;rintro e w2 ⟨⟨bb,rfl⟩,hb2⟩;have HB2:=Zh (HB1.out.trans (hb2.mono HB1.out.size));clear hb2 HC;cases bb
 case true=>
  go_wp2_with fail;go_returns;exact⟨⟨[],210,rfl,Nat.zero_le _⟩,HB2.out⟩
 obtain⟨q1,hq1⟩:∃q,(t==[33])=q:=⟨_,rfl⟩;cases q1
 case true=>
  go_wp2_with fail;go_returns;exact⟨⟨[],210,rfl,Nat.zero_le _⟩,HB2.out⟩
 have HP:=Zh (HHP.out t w2);generalize hasP t [33]=q2 at *;go_wp2_with fail;refine HP.out.mono ?_;rintro e w3 ⟨rfl,rfl⟩;cases q2
 ·go_wp2_with fail
  go_returns;exact⟨⟨t,0,rfl,HL.out⟩,HB2.out⟩
 ·go_wp2_with fail
  go_returns;exact⟨⟨[],210,rfl,Nat.zero_le _⟩,HB2.out⟩
end Go.Proofs.YtndjgbehbgcpkaaGreatDoor
