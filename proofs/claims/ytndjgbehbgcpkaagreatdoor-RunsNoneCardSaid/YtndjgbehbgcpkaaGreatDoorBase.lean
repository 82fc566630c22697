/- A text. -/
import Derived.WalkKit
import Derived.WalkSpells
import Derived.WalkLawsBesides
import Derived.Lib.Hide
import Derived.Handy
set_option linter.unusedVariables false
set_option linter.unusedSimpArgs false
namespace Go.Ink
open Go Go.RowKit
def SlOf {α:Type}(R:World→Value→α→Prop)(w:World)(ao:Option Addr)(cap:Nat)(xs:List α):Prop:=
 xs.length≤cap∧cap≤maxLen∧(ao=none→cap=0)∧
  ∀k x,xs[k]? =some x→∃b off u,ao=some ⟨b,off,none⟩∧w.cell? ⟨b,off+k,none⟩=some u∧R w u x
def IsStr (_:World)(u:Value)(l:List UInt8):Prop:=u= .string ⟨l.toArray⟩
theorem Zaa {w:World}{b:Nat}{o:Obj}(h:w.heap[b]? =some o):b < w.heap.size:=(Array.getElem?_eq_some_iff.1 h).1
theorem Zbt {w:World}{b o:Nat}{u:Value}(h:w.cell? ⟨b,o,none⟩=some u):b < w.heap.size:=by
 rcases Nat.lt_or_ge b w.heap.size with h' | h'
 ·exact h'
 ·simp [World.cell?,Array.getElem?_eq_none h']at h
def Lasts {α:Type}(R:World→Value→α→Prop):Prop:=∀w w' u x,Below w.heap.size w w'→R w u x→R w' u x
theorem lasts_str:Lasts IsStr:=fun _ _ _ _ _ h=>h
theorem SlOf.later {α:Type}{R:World→Value→α→Prop}(hR:Lasts R){w w':World}{ao:Option Addr}{cap:Nat}{xs:List α}(hb:Below w.heap.size w w')(h:SlOf R w ao cap xs):SlOf R w' ao cap xs:=by
 obtain⟨h1,h2,h3,h4⟩:=h;refine⟨h1,h2,h3,fun k x hk=>?_⟩;obtain⟨b,off,u,ha,hc,hr⟩:=h4 k x hk;exact⟨b,off,u,ha,(hb.cell (p:=⟨b,off+k,none⟩) (Zbt hc)).trans hc,hR _ _ _ _ hb hr⟩
@[simp] theorem size_mk (l : List UInt8) : (⟨l.toArray⟩ : ByteArray).size = l.length := by simp [ByteArray.size]
theorem Zay {w:World}{b j:Nat}{cs:Array Value}{T:TypeId}{fr:Nat×Nat}(h:w.heap[b]? =some (.cells cs T fr))(v:Value):(w.setCell ⟨b,j,none⟩ v).heap[b]? =some (.cells (cs.setIfInBounds j v) T fr):=by
 simp [World.setCell,Array.getElem?_modify,h]
theorem ownsRow_ne {w:World}{B:Nat}{e:TypeId}{v:Value}{n:Nat}{xs:List Value}(h:w.ownsRow B e 1 v n xs){b:Nat}(hb:b < B):v.ownBlock≠some b:=by
 rcases h.2 with⟨rfl,_⟩ | ⟨g,cap,cur,rfl,hg,_⟩
 ·simp [Value.ownBlock]
 ·simp [Value.ownBlock];omega
theorem Zdv {w:World}{B:Nat}{e:TypeId}{v:Value}{n:Nat}{xs:List Value}(h:w.ownsRow B e 1 v n xs):∃ao cap,v= .slice ao n cap:=by
 rcases h.2 with⟨rfl,rfl⟩ | ⟨g,cap,cur,rfl,_⟩
 ·exact⟨_,_,rfl⟩
 ·exact⟨_,_,rfl⟩
theorem ownsRow_base {w:World}{base base':Nat}{e:TypeId}{size:Nat}{v:Value}{n:Nat}{xs:List Value}(h:w.ownsRow base e size v n xs)(hb:base'≤base):w.ownsRow base' e size v n xs:=by
 obtain⟨h1,h2⟩:=h;refine⟨h1,?_⟩;rcases h2 with h2 | ⟨g,cap,cur,hv,hg,r⟩
 ·exact .inl h2
 ·exact .inr ⟨g,cap,cur,hv,Nat.le_trans hb hg,r⟩
theorem Zdc {w w':World}{base:Nat}{e:TypeId}{size:Nat}{v:Value}{n:Nat}{xs:List Value}(h:w.ownsRow base e size v n xs)(hb:Below w.heap.size w w'):w'.ownsRow base e size v n xs:=by
 obtain⟨h1,h2⟩:=h;refine⟨h1,?_⟩;rcases h2 with h2 | ⟨g,cap,cur,hv,hg,hh,r⟩
 ·exact .inl h2
 ·exact .inr ⟨g,cap,cur,hv,hg,(hb.block g (Array.getElem?_eq_some_iff.1 hh).1).trans hh,r⟩
theorem Zh {p:Prop}(h:p):Hid p:=Lib.hid h
theorem Zs1 {α:Type _}(l:List α)(i:Nat)(a:α):l.toArray.setIfInBounds i a=(l.set i a).toArray:=List.setIfInBounds_toArray l i a
theorem Zs2 {α:Type _}{x a:α}{xs:List α}:(x::xs).set 0 a=a::xs:=List.set_cons_zero
theorem Zs3 {α:Type _}{n:Nat}{x a:α}{xs:List α}:(x::xs).set (n+1) a=x::xs.set n a:=List.set_cons_succ
theorem Zg {α:Type _}{l:List α}{i:Nat}(h:i < l.length):l[i]? =some l[i]:=List.getElem?_eq_getElem h
theorem Zf {α:Type _} [BEq α] [LawfulBEq α] {a b:α}(h:¬a=b):(a==b)=false:=beq_eq_false_iff_ne.2 h
theorem Zt {α:Type _} [BEq α] [LawfulBEq α] {a b:α}(h:a=b):(a==b)=true:=beq_iff_eq.2 h
end Go.Ink
