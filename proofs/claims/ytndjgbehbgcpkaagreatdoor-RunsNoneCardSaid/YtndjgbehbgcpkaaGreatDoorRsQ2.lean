/- lives of chapter 23: the piece with a substitute command. Printed by rsq2.py. -/
import Derived.Test.YtndjgbehbgcpkaaGreatDoorHk7
import Derived.Test.YtndjgbehbgcpkaaGreatDoorSplt1
import Derived.Test.YtndjgbehbgcpkaaGreatDoorPr7
import Derived.Test.YtndjgbehbgcpkaaGreatDoorCbc
import Derived.Test.YtndjgbehbgcpkaaGreatDoorPrv
set_option linter.unusedVariables false
set_option linter.unusedSimpArgs false
set_option maxRecDepth 100000
set_option maxHeartbeats 4000000
namespace Go.Proofs.YtndjgbehbgcpkaaGreatDoor
open Go Go.Proofs Go.Ev Go.RowKit Go.Ink
noncomputable def pcs:List Piece:=[pc0,pc1,pc2]
theorem pcs_hook:Zcj Tryz.prog 101 (hPieceG pcs):=
 pieceG_ok no_count mixed (c:=(Tryz.f101.body).getD .skip) Tryz.func101 (by kernel_rfl) (by
  intro p hp;simp only [pcs,List.mem_cons,List.not_mem_nil,or_false]at hp;rcases hp with rfl | rfl | rfl
  ·exact⟨Zbd,Zav,3000,60,Zbj,Zbb,pc0_run⟩
  ·exact⟨Zbd,Zav,3000,60,Zbj,Zbb,pc1_run⟩
  ·exact⟨Zbd,Zav,3000,60,Zbj,Zbb,pc2_run⟩)
noncomputable def hooksP:List (Nat×Hook):=[(130,hIdx),(129,hMapCl),(178,hSame),(257,hCnt),(232,hNoZ 5),(101,hPieceG pcs)]
theorem hooksP_ok:∀p∈hooksP,Zcj Tryz.prog p.1 p.2:=by
 intro p hp;simp only [hooksP,List.mem_cons,List.not_mem_nil,or_false]at hp;rcases hp with rfl | rfl | rfl | rfl | rfl | rfl
 ·exact idx_ok ext_index
 ·exact mapCl_ok ext_clone
 ·exact same_ok ext_same
 ·exact cnt_ok ext_count
 ·exact noz_ok ext_noz (t:=81) (by kernel_rfl) Tryz.underlying81 (by kernel_rfl)
 ·exact pcs_hook
def is8A:List V×List V:=([.str 0 0,.str 8 8674263157456790316,.int .i64 3],[.str 13 3895841368906325006613453743663])
theorem is8_run:Zcs (Zck Tryz.prog hooksP Zav 3000 60 25 (is8A.1++[.slice 6 0 is8A.2.length is8A.2.length]) (Zcq 6 lr23 9 is8A.2))=true:=by decide+kernel
open Go Go.Proofs Go.Ev Go.RowKit Go.Ink
def is10A:List V×List V:=([.str 0 0,.str 2 25132,.int .i64 1],[.str 5 507601104740])
theorem is10_run:Zcs (Zck Tryz.prog Zbd Zav 3000 60 25 (is10A.1++[.slice 6 0 is10A.2.length is10A.2.length]) (Zcq 6 lr23 9 is10A.2))=true:=by decide+kernel
def is11A:List V×List V:=([.str 1 63,.str 6 106843253531436,.int .i64 3],[.str 9 907075194145871983151])
theorem is11_run:Zcs (Zck Tryz.prog Zbd Zav 3000 60 25 (is11A.1++[.slice 6 0 is11A.2.length is11A.2.length]) (Zcq 6 lr23 9 is11A.2))=true:=by decide+kernel
def is12A:List V×List V:=([.str 1 63,.str 6 106843253531436,.int .i64 3],[.str 2 13424])
theorem is12_run:Zcs (Zck Tryz.prog Zbd Zav 3000 60 25 (is12A.1++[.slice 6 0 is12A.2.length is12A.2.length]) (Zcq 6 lr23 9 is12A.2))=true:=by decide+kernel
def is13A:List V×List V:=([.str 1 63,.str 6 106843253531436,.int .i64 3],[.str 4 841757040])
theorem is13_run:Zcs (Zck Tryz.prog Zbd Zav 3000 60 25 (is13A.1++[.slice 6 0 is13A.2.length is13A.2.length]) (Zcq 6 lr23 9 is13A.2))=true:=by decide+kernel
def is14A:List V×List V:=([.str 0 0,.str 6 106843253531436,.int .i64 1],[.str 3 3239217])
theorem is14_run:Zcs (Zck Tryz.prog Zbd Zav 3000 60 25 (is14A.1++[.slice 6 0 is14A.2.length is14A.2.length]) (Zcq 6 lr23 9 is14A.2))=true:=by decide+kernel
open Go Go.Proofs Go.Ev Go.RowKit Go.Ink
def isT:List (List V×List V):=[is0A,is1A,is2A,is3A,is4A,is5A,is6A,is7A,is8A,is9A,is10A,is11A,is12A,is13A,is14A]
theorem isT_ok:∀p∈isT,∃hooks dhooks:List (Nat×Hook),(∀p∈hooks,Zcj Tryz.prog p.1 p.2)∧(∀p∈dhooks,DefOk1 Tryz.prog p.1 p.2)∧Zcs (Zck Tryz.prog hooks dhooks 3000 60 25 (p.1++[.slice 6 0 p.2.length p.2.length]) (Zcq 6 lr23 9 p.2))=true:=by
 intro l hl;simp only [isT,List.mem_cons,List.not_mem_nil,or_false]at hl;rcases hl with rfl | rfl | rfl | rfl | rfl | rfl | rfl | rfl | rfl | rfl | rfl | rfl | rfl | rfl | rfl
 ·exact⟨Zbd,Zav,Zbj,Zbb,is0_run⟩
 ·exact⟨Zbd,Zav,Zbj,Zbb,is1_run⟩
 ·exact⟨Zbd,Zav,Zbj,Zbb,is2_run⟩
 ·exact⟨Zbd,Zav,Zbj,Zbb,is3_run⟩
 ·exact⟨Zbd,Zav,Zbj,Zbb,is4_run⟩
 ·exact⟨Zbd,Zav,Zbj,Zbb,is5_run⟩
 ·exact⟨Zbd,Zav,Zbj,Zbb,is6_run⟩
 ·exact⟨Zbd,Zav,Zbj,Zbb,is7_run⟩
 ·exact⟨hooksP,Zav,hooksP_ok,Zbb,is8_run⟩
 ·exact⟨Zbd,Zav,Zbj,Zbb,is9_run⟩
 ·exact⟨Zbd,Zav,Zbj,Zbb,is10_run⟩
 ·exact⟨Zbd,Zav,Zbj,Zbb,is11_run⟩
 ·exact⟨Zbd,Zav,Zbj,Zbb,is12_run⟩
 ·exact⟨Zbd,Zav,Zbj,Zbb,is13_run⟩
 ·exact⟨Zbd,Zav,Zbj,Zbb,is14_run⟩
theorem isT_flat:∀p∈isT,p.1.all flat=true∧p.2.all flat=true:=by
 intro l hl;simp only [isT,List.mem_cons,List.not_mem_nil,or_false]at hl;rcases hl with rfl | rfl | rfl | rfl | rfl | rfl | rfl | rfl | rfl | rfl | rfl | rfl | rfl | rfl | rfl <;> exact⟨rfl,rfl⟩
theorem isT_hook:Zcj Tryz.prog 25 (hMemoS 5 365 9 deB isT):=
 memoS_ok no_count mixed (cf:=3000) (fuel:=60) (c:=(Tryz.f25.body).getD .skip) Tryz.func25 (by kernel_rfl) (by kernel_rfl) rfl (by decide) (by decide) one23 (by decide+kernel) isT_ok isT_flat
noncomputable def hooksL:List (Nat×Hook):=[(25,hMemoS 5 365 9 deB isT)]
theorem hooksL_ok:∀p∈hooksL,Zcj Tryz.prog p.1 p.2:=by
 intro p hp;simp only [hooksL,List.mem_cons,List.not_mem_nil,or_false]at hp;subst hp;exact isT_hook
def TabW (w:World):Prop:=∃o,w.heap[5]? =some o∧BRep Tryz.prog (fun _=>undef) (vars 6) ⟨5,0,0⟩ (tabBlk 365 deB) o
theorem TabW.later {w w':World}(h:TabW w)(hb:Below w.heap.size w w'):TabW w':=by
 obtain⟨o,h1,h2⟩:=h;exact⟨o,(hb.block _ (Array.getElem?_eq_some_iff.1 h1).1).trans h1,h2⟩
theorem lives_run:Zcs (Zck Tryz.prog hooksL [] 3000 60 6 [] heap23)=true:=by decide+kernel
theorem lives_any {w:World}(hw:6≤w.heap.size∧TabW w):Calls Tryz.prog 6 #[] w fun e w'=>e= .returned (.bool true)∧Below w.heap.size w w':=
 true_args no_count mixed hooksL_ok (fun p hp=>by cases hp) lives_run (tab_ro one23) (tab_rep hw.1 (by decide) one23 hw.2) (vars_glob (by kernel_rfl)) DenL.nil
open Go Go.Proofs Go.RowKit Go.Ink Go.Sort
theorem below_only {c:Nat}{a w w':World}(h:Below a.heap.size a w)(hk:KeepT (Only c) w w')(hc:a.heap.size≤c):Below a.heap.size a w':=h.trans (hk.below h.size (fun k e=>by unfold Only at e;omega))
theorem coreNew_apartA (l:List Line)(ao:Option Addr)(cap:Nat)(w:World)(hl:SlOf IsStr w ao cap l)(hlen:l.length≤100000)(h0:checkL l=0):
 Calls Tryz.prog 9 #[.slice ao l.length cap] w fun e w'=>∃c t r,e= .returned (.tuple #[.pointer (some ⟨c,0,none⟩),.int .i64 0])∧TabOf (fun x=>x < w.heap.size∨x=c) w' t (ofS [l])∧CoreB w' c t (l.length:Int) [] r false none none none (.slice none 0 0)∧Zdk w' r∧w.heap.size≤c∧Below w.heap.size w w':=by
 have HT:=Zh ((tabNew_any (S:=fun x=>x < w.heap.size) l ao cap w hl hlen (fun _ h=>h)).mono (R':=fun e w'=>∃b,e= .returned (.pointer (some ⟨b,0,none⟩))∧TabOf (fun x=>x < w.heap.size) w' b (ofS [l])∧Below w.heap.size w w') fun e w' h=>by
  unfold NewTab at h;rw [if_pos h0]at h;exact h)
 clear hl h0;go_enter Tryz.func9,Tryz.ntmps9;go_wp2_with fail;refine HT.out.mono ?_;rintro e w1 ⟨t,rfl,ht,hb1⟩;have HTB:=Zh ht;have HB1:=Zh hb1;clear ht hb1;go_wp2_with fail;refine(regsNew_any _).mono ?_;rintro e w2 ⟨r,rfl,hr,-,hb2⟩;have HB2:=Zh (HB1.out.trans (hb2.mono HB1.out.size));have HT2:=Zh (HTB.out.later hb2);have HR:=Zh hr;clear hr hb2;go_wp2_with fail;go_returns;refine⟨w2.heap.size,t,r,rfl,?_,(Zae _ _).trans rfl,HR.out.later ((Below.refl _ _).alloc (Nat.le_refl _) _),HB2.out.size,HB2.out.alloc HB2.out.size _⟩;exact(HT2.out.apart (fun k hk=>by
  rcases hk with hk | hk
  ·exact .inl hk
  ·exact .inr (Nat.le_of_eq hk.symm))).later ((Below.refl _ _).alloc (Nat.le_refl _) _)
theorem one_text1 (w:World)(x:Line)(T:TypeId):SlOf IsStr (w.alloc (.cells #[.string ⟨x.toArray⟩] T (0,0))) (some ⟨w.heap.size,0,none⟩) 1 [x]:=by
 have hb:=Zae w (.cells #[.string ⟨x.toArray⟩] T (0,0));refine⟨by simp,by unfold maxLen;omega,by simp,fun k y hk=>?_⟩
 match k,hk with
 | 0,hk=>simp at hk;subst hk;exact⟨_,0,_,rfl,by rw [Lib.cell_of_heap hb];rfl,rfl⟩
theorem runsNone_law (ln:List UInt8)(tx:List (List UInt8))(ao:Option Addr)(cap:Nat)(w:World)(htx:SlOf IsStr w ao cap tx)(hw:6≤w.heap.size)(ht:TabW w)(hm:MaxW w):
 Calls Tryz.prog 3 #[.agg #[.string ⟨ln.toArray⟩,.slice ao tx.length cap]] w fun e w'=>e= .returned (.bool true)∧Below w.heap.size w w':=by
 have HTX:=Zh htx;have HLV:=Zh (fun(X:World) (hb:Below w.heap.size w X)=>lives_any (w:=X) ⟨Nat.le_trans hw hb.size,ht.later hb⟩);have HMW:=Zh hm;have HNG:=Zh hw;clear htx ht hm;go_enter Tryz.func3,Tryz.ntmps3;go_upto_region 1 with fail;generalize hwA:w.alloc _=wA;have HX:=Zh (show wA.heap[w.heap.size]? =some (.cells #[.string ⟨ln.toArray⟩,.slice ao tx.length cap] 24 (0,0)) from hwA▸Zae w _);have HA:=Zh (show Below w.heap.size w wA from hwA▸Zab w _);clear hwA;obtain⟨tn,htn⟩:∃tn,tx.length=tn:=⟨_,rfl⟩;have HTN:=Zh htn;rw [htn]at HX;have c0:wA.cell? ⟨w.heap.size,0,none⟩=some (.string ⟨ln.toArray⟩):=by rw [Lib.cell_of_heap HX.out];rfl
 have c1:wA.cell? ⟨w.heap.size,1,none⟩=some (.slice ao tn cap):=by rw [Lib.cell_of_heap HX.out];rfl
 have HAC:=Zh (show ActsOf (wA.alloc (.cells #[.string ⟨ln.toArray⟩,.slice ao tn cap] 24)) (some ⟨wA.heap.size,0,none⟩) 1 [(ln,tx)] from by
  have hB:=Zae wA (.cells #[.string ⟨ln.toArray⟩,.slice ao tn cap] 24);refine⟨Nat.le_refl _,by decide,(fun h=>by cases h),fun k x hk=>?_⟩;cases k with
  | succ k=>cases hk
  | zero=>
    simp only [List.getElem?_cons_zero,Option.some.injEq]at hk;subst hk;refine⟨wA.heap.size,0,ao,cap,rfl,by rw [Lib.cell_of_heap hB];rfl,by rw [Lib.cell_of_heap hB,← htn];rfl,(HTX.out.later lasts_str HA.out).later lasts_str (Zab wA _)⟩)
 have HBA:=Zh (show Below w.heap.size w (wA.alloc (.cells #[.string ⟨ln.toArray⟩,.slice ao tn cap] 24)) from HA.out.trans ((Zab wA _).mono HA.out.size));have HBY:=Zh (show Calls Tryz.prog 5 #[.slice (some ⟨wA.heap.size,0,none⟩) 1 1,.int .i64 1] (wA.alloc (.cells #[.string ⟨ln.toArray⟩,.slice ao tn cap] 24)) fun e w'=>SomeB (BeyQ [(ln,tx)] 1) e∧Below (wA.alloc (.cells #[.string ⟨ln.toArray⟩,.slice ao tn cap] 24)).heap.size (wA.alloc (.cells #[.string ⟨ln.toArray⟩,.slice ao tn cap] 24)) w' from beyond23 [(ln,tx)] _ 1 1 _ HAC.out);have HXB:=Zh ((Below.heap_alloc wA (.cells #[.string ⟨ln.toArray⟩,.slice ao tn cap] 24) _ (Zaa HX.out)).trans HX.out);clear htn;go_wp2_with fail;refine HBY.out.mono ?_;rintro e w2 ⟨⟨b,rfl,hb⟩,hb2⟩;have HB2:=Zh (HBA.out.trans (hb2.mono HBA.out.size));have HX2:=Zh ((hb2.block _ (Zaa HXB.out)).trans HXB.out);have HBQ:=Zh hb;clear hb2 c0 c1 hb HBY HAC;cases b
 case true=>
  go_wp2_with fail;refine(HLV.out w2 HB2.out).mono ?_;rintro e w3 ⟨rfl,hb3⟩;have HB3:=Zh (HB2.out.trans (hb3.mono HB2.out.size));clear hb3;go_wp2_with fail;go_returns;exact⟨rfl,HB3.out⟩
 have HLN:=Zh (show ln.length≤60 from((HBQ.out rfl).2 0 _ rfl).1);have c0:w2.cell? ⟨w.heap.size,0,none⟩=some (.string ⟨ln.toArray⟩):=by rw [Lib.cell_of_heap HX2.out];rfl
 have HPA:=Zh (cmdParse ln w2 (by have:=HLN.out;omega) (HMW.out.later HB2.out) (Nat.lt_of_lt_of_le (show 0 < 6 by decide) (Nat.le_trans hw HB2.out.size)));go_wp2_with fail;refine HPA.out.mono ?_;rintro e w3 ⟨⟨c,l,sn,er,rfl,hco,hlo,hso⟩,hb3⟩;have HSH:=Zh (show∃ao n cap,c.lv= .slice ao n cap from by obtain⟨a,p,h⟩:=hlo.shape;exact⟨a,_,p,h⟩);have HON:=Zh (Zbk hco);have HB3:=Zh (HB2.out.trans (hb3.mono HB2.out.size));have HX3:=Zh ((hb3.block _ (Zaa HX2.out)).trans HX2.out);clear hb3 hco hlo hso c0 HPA;have hY9:=Zae w3 (.cells cm0 35);have hbz:=Zab w3 (.cells cm0 35);have HZ:=Zh hY9;have HC4:=Zh (show CmAt ((w3.alloc (.cells cm0 35)).setRow w3.heap.size (cmC c)) w3.heap.size c from setRow_heap _ _ _ _ _ _ hY9);have HW4:=Zh (show Below w3.heap.size w3 ((w3.alloc (.cells cm0 35)).setRow w3.heap.size (cmC c)) from Zah hbz (Nat.le_refl _) _);clear hY9 hbz;go_upto_region 4 with(refine wpList_store_row rfl 35 _ _ (by with_reducible rfl) w3.heap.size (cmC c) rfl rfl 35 cm0 HZ.out Zaf rfl HON.out ?_);change Code.wp _ _ _ _ ((w3.alloc (.cells cm0 35)).setRow w3.heap.size (cmC c));generalize (w3.alloc (.cells cm0 35)).setRow w3.heap.size (cmC c)=w4 at *;have HB4:=Zh (HB3.out.trans (HW4.out.mono HB3.out.size));have HX4:=Zh ((HW4.out.block _ (Zaa HX3.out)).trans HX3.out);obtain⟨g,hg⟩:∃g,w3.heap.size=g:=⟨_,rfl⟩;rw [hg]at HC4 ⊢;clear HZ HW4 hg HB3 HX3;have c1:w4.cell? ⟨w.heap.size,1,none⟩=some (.slice ao tn cap):=by rw [Lib.cell_of_heap HX4.out];rfl
 have HRN:=Zh (runsRun_nil c (.slice ao tn cap) w4);go_wp2_with (refine wpList_load_row rfl 35 _ (by with_reducible rfl) g rfl 35 (cmC c) (0,0) _ HC4.out Tryz.underlying35 rfl Zaf ?_);refine HRN.out.mono ?_;rintro e w5 ⟨rfl,hb5⟩;have HB5:=Zh (HB4.out.trans (hb5.mono HB4.out.size));have HX5:=Zh ((hb5.block _ (Zaa HX4.out)).trans HX4.out);have HC5:=Zh (HC4.out.later hb5);clear hb5 c1 HRN HB4 HX4 HC4;obtain⟨w6,hw6⟩:∃w6,w5.alloc (.cells #[.string ⟨#[97]⟩] 9)=w6:=⟨_,rfl⟩;have hb6:Below w5.heap.size w5 w6:=hw6▸Zab w5 _;have HNW:=Zh (show Calls Tryz.prog 9 #[.slice (some ⟨w5.heap.size,0,none⟩) 1 1] w6 fun e w'=>∃c t r,e= .returned (.tuple #[.pointer (some ⟨c,0,none⟩),.int .i64 0])∧TabOf (fun x=>x < w6.heap.size∨x=c) w' t (ofS [[[97]]])∧CoreB w' c t ((1:Nat):Int) [] r false none none none (.slice none 0 0)∧Zdk w' r∧w6.heap.size≤c∧Below w6.heap.size w6 w' from coreNew_apartA [[97]] _ 1 w6 (hw6▸one_text1 w5 [97] _) (by decide) (by decide));have HB6:=Zh (HB5.out.trans (hb6.mono HB5.out.size));have HX6:=Zh ((hb6.block _ (Zaa HX5.out)).trans HX5.out);have HC6:=Zh (HC5.out.later hb6);clear hb6 HB5 HX5 HC5;go_wp2_with (rw [hw6]);refine HNW.out.mono ?_;rintro e w7 ⟨d,t,r,rfl,htb,hcb,hrg,hd,hb7⟩;have HB7:=Zh (HB6.out.trans (hb7.mono HB6.out.size));have HX7:=Zh ((hb7.block _ (Zaa HX6.out)).trans HX6.out);have HC7:=Zh (HC6.out.later hb7);have HTB:=Zh htb;have HD:=Zh (show w6.heap.size≤d from hd);have HDX:=Zh (show d≠w.heap.size∧d≠g from⟨fun e=>by have:=Zaa HX6.out;omega,fun e=>by have:=Zaa HC6.out;omega⟩);have HBG:=Zh (coreBegin_of hcb hrg);clear htb hcb hrg hd hb7 HNW hw6;go_wp2_with fail;refine HBG.out.mono ?_;rintro e w8 ⟨rfl,sb,hh,hcb,-,-,-,-,hk8⟩;have HCB:=Zh hcb;have HB8:=Zh (below_only HB7.out hk8 (Nat.le_trans HB6.out.size HD.out));have HX8:=Zh ((hk8.block _ (Zaa HX7.out) (fun e=>HDX.out.1 e.symm)).trans HX7.out);have HC8:=Zh (show CmAt w8 g c from(hk8.block _ (Zaa HC7.out) (fun e=>HDX.out.2 e.symm)).trans HC7.out);have HT8:=Zh (HTB.out.kept (hk8.mono (fun x _ hx=>by unfold Only at hx;exact .inr hx)));have c1:w8.cell? ⟨w.heap.size,1,none⟩=some (.slice ao tn cap):=by rw [Lib.cell_of_heap HX8.out];rfl
 have HRB:=Zh (runsRun_begun c HSH.out (.slice ao tn cap) hcb);clear hcb hk8 HBG HB7 HX7 HC7 HTB;go_wp2_with (refine wpList_load_row rfl 35 _ (by with_reducible rfl) g rfl 35 (cmC c) (0,0) _ HC8.out Tryz.underlying35 rfl Zaf ?_);refine HRB.out.mono ?_;rintro e w9 ⟨⟨e2,rfl,he2⟩,hb9⟩;have HB9:=Zh (HB8.out.trans (hb9.mono HB8.out.size));have HC9:=Zh (HC8.out.later hb9);have HE2:=Zh he2
 have HCN:=Zh (fun(X:World) (hX:Below w9.heap.size w9 X)=>(show Calls Tryz.prog 12 #[.pointer (some ⟨d,0,none⟩)] X fun e w'=>e= .returned (.int .i64 1)∧w'=X from
  coreN_of (S:=fun x=>x < w6.heap.size∨x=d) (ps:=ofS [[[97]]]) (t:=t) (cur:=((1:Nat):Int)) ⟨((HCB.out.later hb9).later hX).c0,((HCB.out.later hb9).later hX).c1,(HT8.out.later hb9).later hX,by decide,by decide⟩))
 clear hb9 c1 he2 HRB HB8 HC8 HX8 HT8 HCB
 by_cases her:er=0
 case neg=>
  have herb:(er !=0)=true:=bne_iff_ne.2 her;clear her;go_wp2_with fail;refine(HLV.out w9 HB9.out).mono ?_;rintro e w10 ⟨rfl,hb10⟩;have HB10:=Zh (HB9.out.trans (hb10.mono HB9.out.size));clear hb10;go_wp2_with fail;go_returns;exact⟨rfl,HB10.out⟩
 subst her;have c2:=HC9.out.cel 2 (u:= .int .u8 c.nm) rfl;have HMI:=Zh (mineAny c w9);have HLL:=Zh (fun(X:World) (hX:Below w9.heap.size w9 X)=>(HLV.out X (HB9.out.trans (hX.mono HB9.out.size))));have HFB:=Zh (fun(X:World) (hX:Below w9.heap.size w9 X)=>(show Below w.heap.size w X from HB9.out.trans (hX.mono HB9.out.size)));rcases HE2.out with rfl | ⟨rfl,hmb⟩ | ⟨rfl,hnm⟩
 ·go_wp2_with fail
  refine(HCN.out w9 (Below.refl _ _)).mono ?_;rintro e wa ⟨rfl,rfl⟩;go_wp2_with fail;refine(HLL.out wa (Below.refl _ _)).mono ?_;rintro e wb ⟨rfl,hbb⟩;have HBB:=Zh (HFB.out wb hbb);clear hbb;go_wp2_with fail;go_returns;exact⟨rfl,HBB.out⟩
 ·rw [hmb]at HMI
  clear hmb;have k0:=HC9.out.cel 0 (u:=c.lv) rfl;have k1:=HC9.out.cel 1 (u:=c.sv) rfl;have k3:=HC9.out.cel 3 (u:= .int .i64 c.dk) rfl;have k4:=HC9.out.cel 4 (u:= .int .i64 c.dz) rfl;have k5:=HC9.out.cel 5 (u:= .string ⟨c.dre.toArray⟩) rfl;have k6:=HC9.out.cel 6 (u:= .int .i64 c.da) rfl;have k7:=HC9.out.cel 7 (u:= .int .u8 c.lt) rfl;have k8:=HC9.out.cel 8 (u:= .string ⟨c.re.toArray⟩) rfl;have k9:=HC9.out.cel 9 (u:= .string ⟨c.rp.toArray⟩) rfl;have k10:=HC9.out.cel 10 (u:= .bool c.al) rfl;have k11:=HC9.out.cel 11 (u:= .int .i64 c.nth) rfl;have k12:=HC9.out.cel 12 (u:= .string ⟨c.sub.toArray⟩) rfl;have k13:=HC9.out.cel 13 (u:= .string ⟨c.n2.toArray⟩) rfl;have k14:=HC9.out.cel 14 (u:= .int .u8 c.pr) rfl;go_wp2_with fail;refine HMI.out.mono ?_;rintro e wM ⟨rfl,hbM⟩;have HBM:=Zh hbM;clear hbM;go_wp2_with fail;refine(HCN.out wM HBM.out).mono ?_;rintro e wa ⟨rfl,rfl⟩;go_wp2_with fail;refine(HLL.out wa HBM.out).mono ?_;rintro e wb ⟨rfl,hbb⟩;have HBB:=Zh (HFB.out wb (HBM.out.trans (hbb.mono HBM.out.size)));clear hbb;go_wp2_with fail;go_returns;exact⟨rfl,HBB.out⟩
 ·rw [hnm]at c2
  clear hnm;go_wp2_with fail;refine(HCN.out w9 (Below.refl _ _)).mono ?_;rintro e wa ⟨rfl,rfl⟩;go_wp2_with fail;refine(HLL.out wa (Below.refl _ _)).mono ?_;rintro e wb ⟨rfl,hbb⟩;have HBB:=Zh (HFB.out wb hbb);clear hbb;go_wp2_with fail;go_returns;exact⟨rfl,HBB.out⟩
end Go.Proofs.YtndjgbehbgcpkaaGreatDoor
