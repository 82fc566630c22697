/- The walks of strings.Builder's copyCheck and WriteString over a builder that the call itself made. -/
import Derived.Test.YtndjgbehbgcpkaaGreatDoorKeep
import Derived.Test.YtndjgbehbgcpkaaGreatDoorBase
import Derived.Laws.AppendOwnNone
import Derived.Lib.ItoaNum
import Derived.Deep.QuietTactic
import Derived.BigQuiet
import Derived.Test.YtndjgbehbgcpkaaGreatDoorPr7
import Derived.Deep.Cut
set_option linter.unusedVariables false
set_option linter.unusedSimpArgs false
set_option maxRecDepth 100000
set_option maxHeartbeats 4000000
namespace Go.Proofs.YtndjgbehbgcpkaaGreatDoor
open Go Go.Proofs Go.RowKit Go.Ink
theorem builder_size:(Tryz.prog.info? 83).map (·.size)=some 2:=by kernel_rfl
theorem builder_lies:liesAt Tryz.prog Tryz.prog.depth 83 (2 / Tryz.prog.cellsOf 83) 0 83 1=true:=by kernel_rfl
theorem builder_ne:83≠5:=by decide
theorem byte_info:(Tryz.prog.info? 5).map (fun i=>(i.zero,i.size,i.bytes))=some (some (.int .u8 0),1,1):=by kernel_rfl
abbrev Bdr (w:World)(B b:Nat)(l:List UInt8):Prop:=Lib.IsBuilder 83 5 B b (Lib.byteCells l) w
abbrev BdrAt (w:World)(B b:Nat)(bs:List Value):Prop:=Lib.BuilderAt 83 5 B b (.pointer (some ⟨b,0,none⟩)) bs w
theorem BuilderAt_later {T e:TypeId}{B b:Nat}{p:Value}{bs:List Value}{w w':World}(h:Lib.BuilderAt T e B b p bs w)(hb:Below w.heap.size w w'):Lib.BuilderAt T e B b p bs w':=by
 have hlt:=h.lt;obtain⟨hB,v,hbk,hown,hne⟩:=h;refine⟨hB,v,(hb.block b hlt).trans hbk,?_,hne⟩;obtain⟨h1,h2⟩:=hown;refine⟨h1,?_⟩;rcases h2 with h2 | ⟨g,cap,cur,hv,hg,hh,r⟩
 ·exact .inl h2
 ·exact .inr ⟨g,cap,cur,hv,hg,(hb.block g (Array.getElem?_eq_some_iff.1 hh).1).trans hh,r⟩
theorem copyCheck_used (b:Nat)(w:World)(h0:w.cell? ⟨b,0,none⟩=some (.pointer (some ⟨b,0,none⟩))):
 Calls Tryz.prog 152 #[.pointer (some ⟨b,0,none⟩)] w fun e w'=>e= .returned (.tuple #[])∧w=w':=by
 obtain⟨j,hj,_⟩:=Option.map_eq_some_iff.1 builder_size;go_enter Tryz.func152,Tryz.ntmps152
 go_wp2
 rw [Lib.run_neq_ptr_same w _ Tryz.underlying80 hj]
 go_wp2
 go_end0
 exact⟨rfl,rfl⟩
theorem copyCheck_fresh (b:Nat)(w:World)(h0:w.cell? ⟨b,0,none⟩=some (.pointer none))(hsh:w.shape? b=some (83,2))(hfz:w.frozen? ⟨b,0,none⟩=false):
 Calls Tryz.prog 152 #[.pointer (some ⟨b,0,none⟩)] w fun e w'=>e= .returned (.tuple #[])∧w'=w.setCell ⟨b,0,none⟩ (.pointer (some ⟨b,0,none⟩)):=by
 obtain⟨j,hj,hjs⟩:=Option.map_eq_some_iff.1 builder_size;go_enter Tryz.func152,Tryz.ntmps152
 go_wp2
 rw [Lib.run_to_unsafe w ⟨b,0,none⟩ Tryz.underlying80 Tryz.underlying246 hj (by rw [hjs];decide) hsh (Nat.zero_lt_succ 1)];simp only [Result.andThen];rw [Oper.upon_value]
 go_wp2
 rw [run_callFunc_extern Tryz.func178 (by kernel_rfl) (by kernel_rfl) (by kernel_rfl) (e:=Extern.AbiNoEscape.same) (by kernel_rfl)];rw [Lib.run_noEscape];simp only [Result.andThen];rw [Oper.upon_value]
 go_wp2
 rw [Lib.run_from_unsafe w ⟨b,0,none⟩ Tryz.underlying246 Tryz.underlying80 hj hsh builder_lies];simp only [Result.andThen];rw [Oper.upon_value]
 go_wp2
 go_end0
 exact⟨rfl,rfl⟩
theorem copyCheck_any (B b:Nat)(bs:List Value)(w:World)(h:Lib.IsBuilder 83 5 B b bs w):
 Calls Tryz.prog 152 #[.pointer (some ⟨b,0,none⟩)] w fun e w'=>e= .returned (.tuple #[])∧BdrAt w' B b bs∧Below B w w':=by
 rcases h with h | h
 ·refine(copyCheck_fresh b w h.cell0 h.shape h.frozen0).mono ?_
  rintro e w' ⟨rfl,rfl⟩;exact⟨rfl,h.used _,(Below.refl B w).setCell (p:=⟨b,0,none⟩) h.1 _⟩
 ·refine(copyCheck_used b w h.cell0).mono ?_
  rintro e w' ⟨rfl,rfl⟩;exact⟨rfl,h,Below.refl B _⟩
theorem writeString_any (B b:Nat)(l:List UInt8)(s:ByteArray)(w:World)(h:Bdr w B b l)(hlen:l.length+s.size≤140737488355328)(hBw:B≤w.heap.size):
 Calls Tryz.prog 107 #[.pointer (some ⟨b,0,none⟩),.string s] w fun e w'=>e= .returned (.tuple #[.int .i64 s.size,.nilIface])∧Bdr w' B b (l++s.data.toList)∧Below B w w':=by
 obtain⟨i0,hi,hz0,hz1,hz2⟩:=info_parts byte_info;have HL:=Zh (show(Lib.byteCells l).length+s.size≤140737488355328 by rw [Lib.byteCells_length];exact hlen);clear hlen;have HB:=Zh (show Lib.byteCells l++Lib.strCells s=Lib.byteCells (l++s.data.toList) by rw [Lib.byteCells_append,Lib.strCells_eq]);unfold Bdr at *;generalize Lib.byteCells l=bs at *;generalize Lib.byteCells (l++s.data.toList)=bs' at *;go_enter Tryz.func107,Tryz.ntmps107;go_wp2_with (go_at_call 152;refine(copyCheck_any B b bs _ h).mono ?_);rintro e w1 ⟨rfl,h1,hb1⟩;obtain⟨hB,v,hbk,hown,hne⟩:=h1;have c0:w1.cell? ⟨b,0,none⟩=some (.pointer (some ⟨b,0,none⟩)):=by rw [Lib.cell_of_heap hbk];rfl
 have c1:w1.cell? ⟨b,1,none⟩=some v:=by rw [Lib.cell_of_heap hbk];rfl
 go_wp2_with (at_builtin;refine Lib.wpList_append_own_string _ rfl _ _ 81 9 rfl B 5 i0 Tryz.underlying81 Tryz.underlying9 hi hz0 hz1 hz2 _ _ _ rfl hown s rfl ?c3 ?c4 ?c5 ?_)
 case c3=>have:=HL.out;unfold maxLen;omega
 case c4=>exact HL.out
 case c5=>have:=hb1.size;omega
 intro v' w2 hown' hgrow _;have hlt:b < w1.heap.size:=by
  rcases Nat.lt_or_ge b w1.heap.size with h' | h'
  ·exact h'
  ·simp [Array.getElem?_eq_none h']at hbk
 have hb2:w2.heap[b]? =some (.cells #[.pointer (some ⟨b,0,none⟩),v] 83 (0,0)):=by
  rw [hgrow.block b hlt (fun e=>hne e.symm)];exact hbk
 have d0:w2.cell? ⟨b,0,none⟩=some (.pointer (some ⟨b,0,none⟩)):=by rw [Lib.cell_of_heap hb2];rfl
 have d1:w2.cell? ⟨b,1,none⟩=some v:=by rw [Lib.cell_of_heap hb2];rfl
 have f1:w2.frozen? ⟨b,1,none⟩=false:=Lib.frozen_of_heap hb2 1;obtain⟨ao,n',cap,rfl⟩:∃ao n' cap,v'= .slice ao n' cap:=by
  rcases hown'.2 with⟨hv,_⟩ | ⟨g,cap,cur,hv,_⟩
  ·exact⟨_,_,_,hv⟩
  ·exact⟨_,_,_,hv⟩
 go_wp2
 go_ret2
 refine⟨rfl,.inr ?_,?_⟩
 ·rw [← HB.out]
  exact Lib.BuilderAt.put (T:=83) (e:=5) hB hb2 (bs':=bs++Lib.strCells s) (by simpa [Lib.strCells_length] using hown') builder_ne
 ·exact(hb1.grown hgrow (by have:=hb1.size;omega) (fun k hk=>(hown.lt k hk).1)).setCell (p:=⟨b,1,none⟩) hB _
theorem bdr_new {w:World}:Bdr (w.alloc (.cells #[.pointer none,.slice none 0 0] 83 (0,0))) w.heap.size w.heap.size []:=by
 refine .inl ⟨Nat.le_refl _,.slice none 0 0,?_,World.ownsRow_nil _ _ _ _,by simp [Value.ownBlock]⟩
 show(w.heap.push _)[w.heap.size]? =_
 rw [Array.getElem?_push,if_pos rfl]
open Go
open Go Go.Proofs Go.RowKit Go.Ink
theorem writeByte_any (B b:Nat)(l:List UInt8)(c:UInt8)(w:World)(h:Bdr w B b l)(hlen:l.length+1≤140737488355328)(hBw:B≤w.heap.size):
 Calls Tryz.prog 108 #[.pointer (some ⟨b,0,none⟩),.int .u8 (c.toNat:Int)] w fun e w'=>e= .returned .nilIface∧Bdr w' B b (l++[c])∧Below B w w':=by
 obtain⟨i0,hi,hz0,hz1,hz2⟩:=info_parts byte_info;have HL:=Zh (show(Lib.byteCells l).length+1≤140737488355328 by rw [Lib.byteCells_length];exact hlen);clear hlen;have HB:=Zh (show Lib.byteCells l++[.int .u8 (c.toNat:Int)]=Lib.byteCells (l++[c]) by rw [Lib.byteCells_append];rfl);unfold Bdr at *;generalize Lib.byteCells l=bs at *;generalize Lib.byteCells (l++[c])=bs' at *;go_enter Tryz.func108,Tryz.ntmps108;go_wp2_with (go_at_call 152;refine(copyCheck_any B b bs _ h).mono ?_);rintro e w0 ⟨rfl,h1,hb1⟩;have hs0:B≤w0.heap.size:=Nat.le_trans hBw hb1.size;obtain⟨w1,hw1⟩:∃w1,w0.alloc (.cells #[.int .u8 (c.toNat:Int)] 5)=w1:=⟨_,rfl⟩;have hal:Below w0.heap.size w0 w1:=by rw [← hw1];exact(Below.refl _ _).alloc (Nat.le_refl _) _
 have h2:=BuilderAt_later h1 hal;have hbB:=hb1.trans (hal.mono hs0);have hsrc:w1.cell? ⟨w0.heap.size,0,none⟩=some (.int .u8 (c.toNat:Int)):=by rw [← hw1];simp
 obtain⟨hB,v,hbk0,hown0,hne0⟩:=h1;have c0:w0.cell? ⟨b,0,none⟩=some (.pointer (some ⟨b,0,none⟩)):=by rw [Lib.cell_of_heap hbk0];rfl
 have c1:w0.cell? ⟨b,1,none⟩=some v:=by rw [Lib.cell_of_heap hbk0];rfl
 have hbk:w1.heap[b]? =some (.cells #[.pointer (some ⟨b,0,none⟩),v] 83 (0,0)):=(hal.block b (Zaa hbk0)).trans hbk0;obtain⟨hB',v',hbk',hown,hne⟩:=h2;have hvv:v'=v:=by
  rw [hbk]at hbk';simp at hbk';exact hbk'.symm
 subst hvv;have HSRC:=Zh hsrc;have hN:∀j u,[Value.int .u8 (c.toNat:Int)][j]? =some u→w1.cell? ((⟨w0.heap.size,0,none⟩:Addr).add j)=some u:=by
  intro j u hj
  match j with
  | 0=>simp at hj;subst hj;simpa [Addr.add] using HSRC.out
  | j+1=>simp at hj
 have HN:=Zh hN;have HW1:=Zh hw1;clear hN hsrc hbk' hbk0 hown0 hne0;go_wp2_with (at_builtin;refine wpList_append_own _ rfl _ _ 81 rfl B 5 i0 (.int .u8 0) 1 1 Tryz.underlying81 hi hz0 hz1 hz2 rfl (by decide) _ _ _ rfl hown ⟨w0.heap.size,0,none⟩ 1 1 [.int .u8 (c.toNat:Int)] rfl rfl HN.out (by simp [Value.oneCell']) ?c3 ?c4 ?c5 ?_)
 case c3=>have:=HL.out;unfold maxLen;omega
 case c4=>have:=HL.out;omega
 case c5=>exact Nat.le_trans hs0 hal.size
 intro v2 w2 hown' hgrow _;have hlt:b < w1.heap.size:=Zaa hbk;have hb2:w2.heap[b]? =some (.cells #[.pointer (some ⟨b,0,none⟩),v'] 83 (0,0)):=by
  rw [hgrow.block b hlt (fun e=>hne e.symm)];exact hbk
 have d0:w2.cell? ⟨b,0,none⟩=some (.pointer (some ⟨b,0,none⟩)):=by rw [Lib.cell_of_heap hb2];rfl
 have d1:w2.cell? ⟨b,1,none⟩=some v':=by rw [Lib.cell_of_heap hb2];rfl
 have f1:w2.frozen? ⟨b,1,none⟩=false:=Lib.frozen_of_heap hb2 1;obtain⟨ao,n',cap,rfl⟩:∃ao n' cap,v2= .slice ao n' cap:=by
  rcases hown'.2 with⟨hv,_⟩ | ⟨g,cap,cur,hv,_⟩
  ·exact⟨_,_,_,hv⟩
  ·exact⟨_,_,_,hv⟩
 go_wp2
 go_ret
 refine⟨rfl,.inr ?_,?_⟩
 ·rw [← HB.out]
  exact Lib.BuilderAt.put (T:=83) (e:=5) hB hb2 (bs':=bs++[.int .u8 (c.toNat:Int)]) (by simpa using hown') builder_ne
 ·exact(hbB.grown hgrow (Nat.le_trans hs0 hal.size) (fun k hk=>(hown.lt k hk).1)).setCell (p:=⟨b,1,none⟩) hB _
open Go Go.Proofs Go.RowKit Go.Ink Go.Sort
def RdAt (w:World)(b:Nat)(s:List UInt8)(at_ gr mn:Nat)(rf:Bool×(Nat→Bool))(bd:Bool):Prop:=
 ∃cs:Array Value,w.heap[b]? =some (.cells cs 190 (0,0))∧cs.size=1006∧cs[0]? =some (.string ⟨s.toArray⟩)∧cs[1]? =some (.int .i64 (at_:Int))∧cs[2]? =some (.int .i64 (gr:Int))∧cs[3]? =some (.int .i64 (mn:Int))∧(∀j,j < 1000→cs[4+j]? =some (.bool (rf.2 j)))∧cs[1004]? =some (.bool rf.1)∧cs[1005]? =some (.bool bd)
section
variable {w w':World}{b:Nat}{s:List UInt8}{a gr mn:Nat}{rf:Bool×(Nat→Bool)}{bd:Bool}
theorem RdAt.lt (h:RdAt w b s a gr mn rf bd):b < w.heap.size:=by
 obtain⟨cs,h,_⟩:=h;exact Zaa h
theorem RdAt.kept {S:Nat→Prop}(h:RdAt w b s a gr mn rf bd)(hk:KeepT S w w')(hn:¬S b):RdAt w' b s a gr mn rf bd:=by
 obtain⟨cs,h,r⟩:=h;exact⟨cs,(hk.block b (Zaa h) hn).trans h,r⟩
theorem RdAt.later (h:RdAt w b s a gr mn rf bd)(hb:Below w.heap.size w w'):RdAt w' b s a gr mn rf bd:=by
 obtain⟨cs,h,r⟩:=h;exact⟨cs,(hb.block b (Zaa h)).trans h,r⟩
theorem RdAt.c0 (h:RdAt w b s a gr mn rf bd):w.cell? ⟨b,0,none⟩=some (.string ⟨s.toArray⟩):=by
 obtain⟨cs,h,_,h0,_⟩:=h;rw [Lib.cell_of_heap h];exact h0
theorem RdAt.c1 (h:RdAt w b s a gr mn rf bd):w.cell? ⟨b,1,none⟩=some (.int .i64 (a:Int)):=by
 obtain⟨cs,h,_,_,h1,_⟩:=h;rw [Lib.cell_of_heap h];exact h1
theorem RdAt.c2 (h:RdAt w b s a gr mn rf bd):w.cell? ⟨b,2,none⟩=some (.int .i64 (gr:Int)):=by
 obtain⟨cs,h,_,_,_,h2,_⟩:=h;rw [Lib.cell_of_heap h];exact h2
theorem RdAt.c3 (h:RdAt w b s a gr mn rf bd):w.cell? ⟨b,3,none⟩=some (.int .i64 (mn:Int)):=by
 obtain⟨cs,h,_,_,_,_,h3,_⟩:=h;rw [Lib.cell_of_heap h];exact h3
theorem RdAt.fz (h:RdAt w b s a gr mn rf bd)(j:Nat):w.frozen? ⟨b,j,none⟩=false:=by
 obtain⟨cs,h,_⟩:=h;exact Lib.frozen_of_heap h j
theorem RdAt.set1 (h:RdAt w b s a gr mn rf bd)(k:Nat):RdAt (w.setCell ⟨b,1,none⟩ (.int .i64 (k:Int))) b s k gr mn rf bd:=by
 obtain⟨cs,h,hz,h0,h1,h2,h3,h4,h5,h6⟩:=h;refine⟨_,Zay h _,by simp [hz],?_,?_,?_,?_,fun j hj=>?_,?_,?_⟩ <;> try(rw [Array.getElem?_setIfInBounds_ne (by omega)];first | exact h0 | exact h2 | exact h3 | exact h4 j hj | exact h5 | exact h6)
 rw [Array.getElem?_setIfInBounds,if_pos rfl,if_pos (by omega)]
theorem RdAt.set3 (h:RdAt w b s a gr mn rf bd)(k:Nat):RdAt (w.setCell ⟨b,3,none⟩ (.int .i64 (k:Int))) b s a gr k rf bd:=by
 obtain⟨cs,h,hz,h0,h1,h2,h3,h4,h5,h6⟩:=h;refine⟨_,Zay h _,by simp [hz],?_,?_,?_,?_,fun j hj=>?_,?_,?_⟩ <;> try(rw [Array.getElem?_setIfInBounds_ne (by omega)];first | exact h0 | exact h1 | exact h2 | exact h4 j hj | exact h5 | exact h6)
 rw [Array.getElem?_setIfInBounds,if_pos rfl,if_pos (by omega)]
end
theorem Zbs:(Tryz.prog.info? 193).map (·.size)=some 262:=by kernel_rfl
theorem Zec {b:Nat}{s:List UInt8}{a gr mn:Nat}{rf:Bool×(Nat→Bool)}{bd:Bool}(nc:Array Value)(hn:nc.size=262)(h1:nc.all (·.oneCell')=true)(k:Nat)(w:World)(h:RdAt w b s a gr mn rf bd)(ha:a+k≤1000000)(hm:mn≤1000000):
 Calls Tryz.prog 197 #[.pointer (some ⟨b,0,none⟩),.agg nc,.int .i64 (k:Int)] w fun e w'=>e= .returned (.agg nc)∧RdAt w' b s (a+k) gr (mn+1) rf bd∧KeepT (fun j=>j=b) w w':=by
 go_enter Tryz.func197,Tryz.ntmps197;go_upto_region 1 with fail;generalize hwA:(w.alloc _).alloc _=wA;obtain⟨old,HZ,HOS⟩:∃old:Array Value,Hid (wA.heap[w.heap.size+1]? =some (.cells old 193 (0,0)))∧Hid (old.size=262):=⟨Tryz.zeroCells193,Zh (hwA▸heap_alloc2_new _ _ _),Zh (by kernel_rfl)⟩;have HNA:=Zh (show wA.heap[w.heap.size]? =some (.cells nc 193 (0,0)) from hwA▸heap_alloc2_old _ _ _);have hbA:Below w.heap.size w wA:=hwA▸(Zab w _).trans ((Zab _ _).mono (Zab w _).size);have HBL:=Zh h.lt;have HRA:=Zh (h.later hbA);have HKA:=Zh (KeepT.of_below (S:=fun j=>j=b) hbA);have HON:=Zh h1;have HNZ:=Zh hn;have e3:((mn+1:Nat):Int)=(mn:Int)+1:=by omega
 have e1:((a+k:Nat):Int)=(a:Int)+(k:Int):=by omega
 have u3:=HRA.out.c3;have g3:=HRA.out.fz 3;have HR3:=Zh (HRA.out.set3 (mn+1));rw [e3]at HR3;have u1:=HR3.out.c1;have g1:=HR3.out.fz 1;have HR1:=Zh (HR3.out.set1 (a+k));rw [e1]at HR1;have HK1:=Zh ((HKA.out.setCell (p:=⟨b,3,none⟩) (.inl rfl) (.int .i64 ((mn:Int)+1))).setCell (p:=⟨b,1,none⟩) (.inl rfl) (.int .i64 ((a:Int)+(k:Int))));have hq:b < w.heap.size:=HBL.out;have HZ1:=Zh (((Below.heap_setCell _ _ _ _ (show w.heap.size+1≠b by omega)).trans ((Below.heap_setCell _ _ _ _ (show w.heap.size+1≠b by omega)).trans HZ.out)):((wA.setCell ⟨b,3,none⟩ (.int .i64 ((mn:Int)+1))).setCell ⟨b,1,none⟩ (.int .i64 ((a:Int)+(k:Int)))).heap[w.heap.size+1]? =some (.cells old 193 (0,0)));have HN1:=Zh (((Below.heap_setCell _ _ _ _ (show w.heap.size≠b by omega)).trans ((Below.heap_setCell _ _ _ _ (show w.heap.size≠b by omega)).trans HNA.out)):((wA.setCell ⟨b,3,none⟩ (.int .i64 ((mn:Int)+1))).setCell ⟨b,1,none⟩ (.int .i64 ((a:Int)+(k:Int)))).heap[w.heap.size]? =some (.cells nc 193 (0,0)));clear hwA hbA h h1 hn e3 e1 HR3;go_upto_region 3 with fail;clear u3 g3 u1 g1;generalize (wA.setCell _ _).setCell _ _=wB at *;have hsz2:(Tryz.prog.info? 193).map (·.size)=some nc.size:=by rw [HNZ.out];exact Zbs
 have HSZ:=Zh hsz2;have HOZ:=Zh (show old.size=nc.size by rw [HOS.out,HNZ.out]);clear hsz2
 go_wp2_with (first
  | (refine wpList_load_row rfl 193 _ (by with_reducible rfl) w.heap.size rfl 193 nc (0,0) _ HN1.out Tryz.underlying193 rfl HSZ.out ?_)
  | (refine wpList_store_row rfl 193 _ _ (by with_reducible rfl) (w.heap.size+1) nc rfl rfl 193 old HZ1.out HSZ.out HOZ.out HON.out ?_))
 refine bodyPost_ret (v:= .agg nc) (results_cell_row (p:=6) (by kernel_rfl) _ _ (w.heap.size+1) 193 nc (0,0) _ rfl (setRow_heap _ _ _ _ _ _ HZ1.out) Tryz.underlying193 rfl HSZ.out) rfl ?_;have hkk:KeepT (fun j=>j=w.heap.size+1) wB (wB.setRow (w.heap.size+1) nc):=⟨rfl,rfl,rfl,by simp,fun i hi hn=>setRow_other wB _ i nc (fun e=>hn e)⟩;exact⟨rfl,HR1.out.kept hkk (by omega),HK1.out.trans hkk (fun i hi e=>by omega)⟩
open Go Go.Proofs Go.RowKit Go.Ink Go.Sort
def Zcf (c c':Cm):Prop:=c'.lv=c.lv∧c'.sv=c.sv∧CmOk c'
def NumB (d:UInt8)(v:Value):Prop:=∃b:Bool,v= .bool b∧(b=true→48≤d.toNat∧d.toNat≤57)
theorem NumB.mk {d:UInt8}(b:Bool)(h:b=true→48≤d.toNat∧d.toNat≤57):NumB d (.bool b):=⟨b,rfl,h⟩
def IsIn (v:Value):Prop:=∃z:Int,v= .int .i64 z
theorem refFlags (c:Cm)(hc:CmOk c)(s:List UInt8)(w:World)(hs:s.length≤1000000):
 Calls Tryz.prog 141 #[.agg (cmC c),.string ⟨s.toArray⟩] w fun e w'=>CmdE c e∧Below w.heap.size w w':=by
 have hsz:=size_mk s;have HIN:=Zh (fun(X:World) (d:UInt8)=>(show Calls Tryz.prog 51 #[.int .u8 (d.toNat:Int),.string ⟨#[112,108,110]⟩] X fun e w'=>SomeB anyQ e∧w'=X from refIn d [112,108,110] X (by decide)));have HDG:=Zh (fun(X:World) (j:Nat)=>refDigit s j X hs);go_enter Tryz.func141,Tryz.ntmps141;go_upto_region 1 with fail;generalize hwA:(w.alloc _).alloc _=wA;obtain⟨old,HZ,HOS⟩:∃old:Array Value,Hid (wA.heap[w.heap.size+1]? =some (.cells old 35 (0,0)))∧Hid (old.size=15):=⟨cm0,Zh (hwA▸heap_alloc2_new _ _ _),Zh rfl⟩;have HCA:=Zh (show CmAt wA w.heap.size c from hwA▸heap_alloc2_old _ _ _);have HBA:=Zh (show Below w.heap.size w wA from hwA▸(Zab w _).trans ((Zab _ _).mono (Zab w _).size));clear hwA;go_wp2_with fail
 go_loopw [6,7,8,9] (fun fv iv _ _ wr=>IsBo fv∧∃i:Nat,iv= .int .i64 (i:Int)∧i≤s.length∧Hid (∃c',CmAt wr w.heap.size c'∧Zcf c c')∧Hid (wr.heap[w.heap.size+1]? =some (.cells old 35 (0,0))∧Below w.heap.size w wr)) (fun _ iv _ _ _=>s.length - (intOf iv).toNat)
 case atStart=>exact⟨⟨_,rfl⟩,0,rfl,Nat.zero_le _,Zh ⟨c,HCA.out,rfl,rfl,hc⟩,Zh ⟨HZ.out,HBA.out⟩⟩
 case round=>
  clear HZ HCA HBA;obtain⟨⟨fb,rfl⟩,i,rfl,hi,HX,HY⟩:=hrel;obtain⟨x,hx1,hx2⟩:=HX.out;have HCX:=Zh hx1;have HOX:=Zh hx2;have HZX:=Zh HY.out.1;have HBX:=Zh HY.out.2;have HNX:=Zh (Zbk hx2.2.2);have HSX:=Zh (show old.size=(cmC x).size from HOS.out);clear hx1 hx2 HX HY
  by_cases hlt:i < s.length
  case neg=>
   have hki:¬(i:Int) < (s.length:Int):=by omega
   clear hlt
   go_wp2_with (first
    | (refine wpList_load_row rfl 35 _ (by with_reducible rfl) w.heap.size rfl 35 (cmC x) (0,0) _ HCX.out Tryz.underlying35 rfl Zaf ?_)
    | (refine wpList_store_row rfl 35 _ _ (by with_reducible rfl) (w.heap.size+1) (cmC x) rfl rfl 35 old HZX.out Zaf HSX.out HNX.out ?_))
   refine bodyPost_ret (v:= .tuple #[.agg (cmC x),.int .i64 0]) (Zag (p:=4) (q:=5) (by kernel_rfl) _ _ (w.heap.size+1) 35 (cmC x) (0,0) _ _ rfl rfl (setRow_heap _ _ _ _ _ _ HZX.out) Tryz.underlying35 rfl Zaf) rfl ?_;exact⟨⟨_,0,rfl,HOX.out.1,HOX.out.2.1,HOX.out.2.2⟩,Zah HBX.out (Nat.le_succ _) _⟩
  have hki:(i:Int) < (s.length:Int):=by omega
  obtain⟨d,hkd⟩:∃d,s[i]? =some d:=⟨_,Zg hlt⟩;have hby:=Zak hkd;have HKD:=Zh hkd;have q10:wr.cell? ⟨w.heap.size,10,none⟩=some (.bool x.al):=HCX.out.cel 10 rfl;have q14:wr.cell? ⟨w.heap.size,14,none⟩=some (.int .u8 x.pr):=HCX.out.cel 14 rfl;obtain⟨xa,hxa⟩:∃xa,x.al=xa:=⟨_,rfl⟩;rw [hxa]at q10;have HXA:=Zh hxa;clear hkd hxa;go_upto_region 5 with fail
  go_cut [23] from 17 to 24 (fun v wx=>IsBo v∧wx=wr)
  case first=>
   by_cases h103:(d.toNat:Int)=103
   case neg=>
    have h103b:((d.toNat:Int)==103)=false:=Zf h103;go_wp2_with fail;go_meet
    case rel=>exact⟨⟨_,rfl⟩,rfl⟩
   have h103b:((d.toNat:Int)==103)=true:=Zt h103;clear h103;cases xa <;> (go_wp2_with fail;go_meet;case rel=>exact⟨⟨_,rfl⟩,rfl⟩)
  case rest=>
   obtain⟨⟨b1,rfl⟩,hw⟩:=hcut;subst hw;clear q10;have HLT:=Zh (show i+1≤s.length from hlt);cases b1
   case true=>
    have u10:wc.cell? ⟨w.heap.size,10,none⟩=some (.bool x.al):=HCX.out.cel 10 rfl;have g10:=HCX.out.fz 10;have HC2:=Zh (HCX.out.setN 10 (.bool true) { x with al:=true } rfl);have HZ2:=Zh (show(wc.setCell ⟨w.heap.size,10,none⟩ (.bool true)).heap[w.heap.size+1]? =some (.cells old 35 (0,0)) from(Below.heap_setCell _ _ _ _ (show w.heap.size+1≠w.heap.size by omega)).trans HZX.out);have HB2:=Zh (HBX.out.setCell (p:=⟨w.heap.size,10,none⟩) (Nat.le_refl _) (.bool true));have HO2:=Zh (show Zcf c { x with al:=true } from⟨HOX.out.1,HOX.out.2.1,⟨HOX.out.2.2.lv,HOX.out.2.2.sv,HOX.out.2.2.dre,HOX.out.2.2.re,HOX.out.2.2.sub⟩⟩);clear q14;go_wp2_with fail;go_roundw
    case rel=>exact⟨⟨_,rfl⟩,i+1,by go_num,HLT.out,Zh ⟨_,HC2.out,HO2.out⟩,Zh ⟨HZ2.out,HB2.out⟩⟩
    case measure=>have:=HLT.out;simp [intOf] <;> omega
   have HID:=Zh (HIN.out wc d);go_upto_region 8 with fail
   go_cut [33] from 27 to 34 (fun v wx=>IsBo v∧wx=wc)
   case first=>
    go_wp2_with fail;refine HID.out.mono ?_;rintro e w5 ⟨⟨b2,rfl,-⟩,rfl⟩;cases b2
    case false=>
     go_wp2_with fail;go_meet
     case rel=>exact⟨⟨_,rfl⟩,rfl⟩
    by_cases hpr:x.pr=0
    case pos=>
     have hpb:(x.pr==0)=true:=Zt hpr;clear hpr;go_wp2_with fail;go_meet
     case rel=>exact⟨⟨_,rfl⟩,rfl⟩
    have hpb:(x.pr==0)=false:=Zf hpr;go_wp2_with fail;go_meet
    case rel=>exact⟨⟨_,rfl⟩,rfl⟩
   case rest=>
    obtain⟨⟨b3,rfl⟩,hw⟩:=hcut;subst hw;clear q14;cases b3
    case true=>
     have u14:wc.cell? ⟨w.heap.size,14,none⟩=some (.int .u8 x.pr):=HCX.out.cel 14 rfl;have g14:=HCX.out.fz 14;have HC2:=Zh (HCX.out.setN 14 (.int .u8 (d.toNat:Int)) { x with pr:=(d.toNat:Int) } rfl);have HZ2:=Zh (show(wc.setCell ⟨w.heap.size,14,none⟩ (.int .u8 (d.toNat:Int))).heap[w.heap.size+1]? =some (.cells old 35 (0,0)) from(Below.heap_setCell _ _ _ _ (show w.heap.size+1≠w.heap.size by omega)).trans HZX.out);have HB2:=Zh (HBX.out.setCell (p:=⟨w.heap.size,14,none⟩) (Nat.le_refl _) (.int .u8 (d.toNat:Int)));have HO2:=Zh (show Zcf c { x with pr:=(d.toNat:Int) } from⟨HOX.out.1,HOX.out.2.1,⟨HOX.out.2.2.lv,HOX.out.2.2.sv,HOX.out.2.2.dre,HOX.out.2.2.re,HOX.out.2.2.sub⟩⟩);go_wp2_with fail;go_roundw
     case rel=>exact⟨⟨_,rfl⟩,i+1,by go_num,HLT.out,Zh ⟨_,HC2.out,HO2.out⟩,Zh ⟨HZ2.out,HB2.out⟩⟩
     case measure=>have:=HLT.out;simp [intOf] <;> omega
    go_upto_region 11 with fail
    go_cut [47] from 38 to 48 (fun v wx=>NumB d v∧wx=wc)
    case first=>
     by_cases h49:(49:Int)≤(d.toNat:Int)
     case neg=>
      go_wp2_with fail;go_meet
      case rel=>exact⟨.mk false (fun h=>by cases h),rfl⟩
     by_cases h57:(d.toNat:Int)≤57
     case neg=>
      go_wp2_with fail;go_meet
      case rel=>exact⟨.mk false (fun h=>by cases h),rfl⟩
     have HDB:=Zh (show 48≤d.toNat∧d.toNat≤57 by omega);cases fb <;> (go_wp2_with fail;go_meet;case rel=>exact⟨.mk _ (fun _=>HDB.out),rfl⟩)
    case rest=>
     obtain⟨⟨b4,rfl,hb4⟩,hw⟩:=hcut;subst hw;cases b4
     case false=>
      clear hb4 hlt
      go_wp2_with (first
       | (refine wpList_load_row rfl 35 _ (by with_reducible rfl) w.heap.size rfl 35 (cmC x) (0,0) _ HCX.out Tryz.underlying35 rfl Zaf ?_)
       | (refine wpList_store_row rfl 35 _ _ (by with_reducible rfl) (w.heap.size+1) (cmC x) rfl rfl 35 old HZX.out Zaf HSX.out HNX.out ?_))
      refine bodyPost_ret (v:= .tuple #[.agg (cmC x),.int .i64 211]) (Zag (p:=4) (q:=5) (by kernel_rfl) _ _ (w.heap.size+1) 35 (cmC x) (0,0) _ _ rfl rfl (setRow_heap _ _ _ _ _ _ HZX.out) Tryz.underlying35 rfl Zaf) rfl ?_;exact⟨⟨_,211,rfl,HOX.out.1,HOX.out.2.1,HOX.out.2.2⟩,Zah HBX.out (Nat.le_succ _) _⟩
     have HD0:=Zh (show dgB s i=true from by
      unfold dgB;rw [HKD.out];simp only;rw [decide_eq_true (hb4 rfl).1,decide_eq_true (hb4 rfl).2]
      rfl)
     clear hb4;go_wp2_with fail
     go_loop [7,9] (fun iv nv=>∃(i2:Nat) (z:Int),iv= .int .i64 (i2:Int)∧nv= .int .i64 z∧i≤i2∧i2≤s.length∧Hid (i2=i→z=0)) (fun iv _=>s.length - (intOf iv).toNat)
     case atStart=>exact⟨i,0,rfl,rfl,Nat.le_refl _,hi,Zh (fun _=>rfl)⟩
     case round=>
      obtain⟨i2,z,rfl,rfl,hi2,hi3,HZ0⟩:=hrel
      by_cases hz:z < 1000
      case neg=>
       have hgt:i < i2:=by
        rcases Nat.lt_or_ge i i2 with h | h
        ·exact h
        ·have e:i2=i:=by omega
         have:=HZ0.out e;omega
       have HGT:=Zh (show i < i2∧i2≤s.length from⟨hgt,hi3⟩);clear hgt;have u11:wc.cell? ⟨w.heap.size,11,none⟩=some (.int .i64 x.nth):=HCX.out.cel 11 rfl;have g11:=HCX.out.fz 11;have HC2:=Zh (HCX.out.setN 11 (.int .i64 z) { x with nth:=z } rfl);have HZ2:=Zh (show(wc.setCell ⟨w.heap.size,11,none⟩ (.int .i64 z)).heap[w.heap.size+1]? =some (.cells old 35 (0,0)) from(Below.heap_setCell _ _ _ _ (show w.heap.size+1≠w.heap.size by omega)).trans HZX.out);have HB2:=Zh (HBX.out.setCell (p:=⟨w.heap.size,11,none⟩) (Nat.le_refl _) (.int .i64 z));have HO2:=Zh (show Zcf c { x with nth:=z } from⟨HOX.out.1,HOX.out.2.1,⟨HOX.out.2.2.lv,HOX.out.2.2.sv,HOX.out.2.2.dre,HOX.out.2.2.re,HOX.out.2.2.sub⟩⟩);go_wp2_with fail;go_roundw
       case rel=>exact⟨⟨_,rfl⟩,i2,by go_num,hi3,Zh ⟨_,HC2.out,HO2.out⟩,Zh ⟨HZ2.out,HB2.out⟩⟩
       case measure=>have:=HGT.out;simp [intOf] <;> omega
      have HDI:=Zh (HDG.out wc i2);go_wp2_with fail;refine HDI.out.mono ?_;rintro e w6 ⟨rfl,rfl⟩;cases hdg:dgB s i2
      case false=>
       have hgt:i < i2:=by
        rcases Nat.lt_or_ge i i2 with h | h
        ·exact h
        ·have e:i2=i:=by omega
         rw [e,HD0.out]at hdg;cases hdg
       have HGT:=Zh (show i < i2∧i2≤s.length from⟨hgt,hi3⟩);clear hgt;clear hdg;have u11:w6.cell? ⟨w.heap.size,11,none⟩=some (.int .i64 x.nth):=HCX.out.cel 11 rfl;have g11:=HCX.out.fz 11;have HC2:=Zh (HCX.out.setN 11 (.int .i64 z) { x with nth:=z } rfl);have HZ2:=Zh (show(w6.setCell ⟨w.heap.size,11,none⟩ (.int .i64 z)).heap[w.heap.size+1]? =some (.cells old 35 (0,0)) from(Below.heap_setCell _ _ _ _ (show w.heap.size+1≠w.heap.size by omega)).trans HZX.out);have HB2:=Zh (HBX.out.setCell (p:=⟨w.heap.size,11,none⟩) (Nat.le_refl _) (.int .i64 z));have HO2:=Zh (show Zcf c { x with nth:=z } from⟨HOX.out.1,HOX.out.2.1,⟨HOX.out.2.2.lv,HOX.out.2.2.sv,HOX.out.2.2.dre,HOX.out.2.2.re,HOX.out.2.2.sub⟩⟩);go_wp2_with fail;go_roundw
       case rel=>exact⟨⟨_,rfl⟩,i2,by go_num,hi3,Zh ⟨_,HC2.out,HO2.out⟩,Zh ⟨HZ2.out,HB2.out⟩⟩
       case measure=>have:=HGT.out;simp [intOf] <;> omega
      have hl2:=dgB_lt hdg;obtain⟨d2,hk2⟩:∃d2,s[i2]? =some d2:=⟨_,Zg hl2⟩;have hby2:=Zak hk2;have hki2:(i2:Int) < (s.length:Int):=by omega
      clear hk2 hdg;go_wp2_with fail;go_round
      case rel=>exact⟨i2+1,_,by go_num,rfl,by omega,hl2,Zh (fun h=>by omega)⟩
      case measure=>simp [intOf] <;> omega
end Go.Proofs.YtndjgbehbgcpkaaGreatDoor
