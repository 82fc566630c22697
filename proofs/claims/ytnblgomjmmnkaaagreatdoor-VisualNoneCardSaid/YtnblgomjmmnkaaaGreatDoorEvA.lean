/- An interpreter of the model's code, run by the kernel at closed calls: the interpreter. No program in sight. -/
import Derived.Calls
import Derived.Below
set_option linter.unusedVariables false
set_option linter.unusedSimpArgs false
namespace Go.Ev
open Go

inductive V where
  | bool (b : Bool)
  | int (k : IntKind) (n : Int)
  | str (n c : Nat)
  | pnil
  | ptr (b off : Nat)
  | snil
  | slice (b off len cap : Nat)
  | gsl (b off len lb cut : Nat)
  | sle (b off cut lo size : Nat)
  | fn (f : Fn) (first cap : List V)
  | fnil
  | iface (t : Nat) (v : V)
  | inil
  | agg (l : List V)
  | tup (l : List V)
  | mnil
  | map (b : Nat)
  | opq (i : Nat)
  | junk
instance : Inhabited V := ⟨.pnil⟩

inductive R (α : Type) where
  | ok (a : α)
  | no (n : Nat)

/-! lists -/
noncomputable def lget {α β : Type} (n : Nat) (l : List α) (k : α → β) (e : β) : β :=
  Nat.rec (motive := fun _ => List α → β) (fun l => List.rec e (fun x _ _ => k x) l) (fun _ ih l => List.rec e (fun _ t _ => ih t) l) n l
noncomputable def lset {α β : Type} (n : Nat) (l : List α) (v : α) (k : List α → β) (e : β) : β :=
  Nat.rec (motive := fun _ => List α → (List α → β) → β) (fun l k => List.rec e (fun _ t _ => k (v :: t)) l) (fun _ ih l k => List.rec e (fun x t _ => ih t (fun t' => k (x :: t'))) l) n l k
noncomputable def lmod {α β : Type} (n : Nat) (l : List α) (f : α → (α → β) → β) (k : List α → β) (e : β) : β :=
  Nat.rec (motive := fun _ => List α → (List α → β) → β) (fun l k => List.rec e (fun x t _ => f x fun y => k (y :: t)) l) (fun _ ih l k => List.rec e (fun x t _ => ih t (fun t' => k (x :: t'))) l) n l k
noncomputable def ltake {α β : Type} (e : β) (n : Nat) (l : List α) (k : List α → β) : β :=
  Nat.rec (motive := fun _ => List α → (List α → β) → β) (fun _ k => k []) (fun _ ih l k => List.rec e (fun x t _ => ih t fun t => k (x :: t)) l) n l k
noncomputable def ldrop {α β : Type} (e : β) (n : Nat) (l : List α) (k : List α → β) : β :=
  Nat.rec (motive := fun _ => List α → β) (fun l => k l) (fun _ ih l => List.rec e (fun _ t _ => ih t) l) n l
noncomputable def lapp {α β : Type} (xs ys : List α) (k : List α → β) : β :=
  List.rec (motive := fun _ => (List α → β) → β) (fun k => k ys) (fun x _ ih k => ih fun t => k (x :: t)) xs k
/-- xs laid over the front of l -/
noncomputable def lover {α β : Type} (e : β) (xs l : List α) (k : List α → β) : β :=
  List.rec (motive := fun _ => List α → (List α → β) → β) (fun l k => k l) (fun x _ ih l k => List.rec e (fun _ t _ => ih t fun t => k (x :: t)) l) xs l k
noncomputable def lsplice {α β : Type} (e : β) (n : Nat) (xs l : List α) (k : List α → β) : β :=
  Nat.rec (motive := fun _ => List α → (List α → β) → β) (fun l k => lover e xs l k) (fun _ ih l k => List.rec e (fun x t _ => ih t fun t => k (x :: t)) l) n l k
/-- at place n another thing (or behind the last one) -/
noncomputable def lalt {α β : Type} (n : Nat) (l : List α) (f : Option α → (α → β) → β) (k : List α → β) (e : β) : β :=
  Nat.rec (motive := fun _ => List α → (List α → β) → β) (fun l k => List.rec (f none fun y => k [y]) (fun x t _ => f (some x) fun y => k (y :: t)) l) (fun _ ih l k => List.rec e (fun x t _ => ih t (fun t' => k (x :: t'))) l) n l k
noncomputable def repl {α : Type} (n : Nat) (x : List α) : List α := Nat.rec [] (fun _ ih => x ++ ih) n
noncomputable def llen {α β : Type} (l : List α) (k : Nat → β) : β := List.rec (motive := fun _ => Nat → β) (fun n => k n) (fun _ _ ih n => ih (Nat.succ n)) l 0

noncomputable def forceNat {α : Type} (n : Nat) (k : Nat → α) : α := Nat.rec (k 0) (fun m _ => k (Nat.succ m)) n
noncomputable def forceInt {α : Type} (n : Int) (k : Int → α) : α := Int.rec (fun n => forceNat n fun n => k (.ofNat n)) (fun n => forceNat n fun n => k (.negSucc n)) n

/-! temporaries -/
abbrev Tm := List (List V)
noncomputable def tget {β : Type} (c : Tm) (k : Nat) (K : V → β) (e : β) : β := lget (Nat.div k 8) c (fun l => lget (Nat.mod k 8) l K e) e
noncomputable def tset {β : Type} (c : Tm) (k : Nat) (v : V) (K : Tm → β) (e : β) : β := lmod (Nat.div k 8) c (fun l K => lset (Nat.mod k 8) l v K e) K e

/-! heap -/
/-- a row: of just these cells; of more, some that grew; of more, made of a text; of old memory, to be read alone -/
inductive BK where
  | own | grow | conv | ro
inductive Blk where
  | cells (cs : List V) (elem : Nat) (kind : BK) (fz : Nat)
  | map (es : List (V × V × Nat)) (clock : Nat)
  | siter (n c pos : Nat)
structure H where
  next : Nat
  t : List (List (List (Option Blk)))
  ds : List (V × List V)
noncomputable def hget {β : Type} (h : H) (b : Nat) (K : Blk → β) (e : β) : β :=
  lget (Nat.div b 64) h.t (fun l => lget (Nat.div (Nat.mod b 64) 8) l (fun l => lget (Nat.mod b 8) l (fun x => Option.rec e K x) e) e) e
noncomputable def optL {α β : Type} (o : Option (List α)) (k : List α → β) : β := Option.rec (k []) k o
noncomputable def tput {β : Type} (t : List (List (List (Option Blk)))) (b : Nat) (x : Option Blk) (K : List (List (List (Option Blk))) → β) (e : β) : β :=
  lalt (Nat.div b 64) t (fun o K => optL o fun l => lalt (Nat.div (Nat.mod b 64) 8) l (fun o K => optL o fun l => lalt (Nat.mod b 8) l (fun _ K => K x) K e) K e) K e
noncomputable def hset {β : Type} (h : H) (b : Nat) (x : Option Blk) (K : H → β) (e : β) : β := tput h.t b x (fun t => K ⟨h.next, t, h.ds⟩) e
noncomputable def hnew {β : Type} (h : H) (x : Option Blk) (K : Nat → H → β) (e : β) : β :=
  forceNat h.next fun n => forceNat (Nat.succ n) fun n1 => tput h.t n x (fun t => K n ⟨n1, t, h.ds⟩) e
/-- so many numbers kept -/
noncomputable def hres {β : Type} (m : Nat) (h : H) (K : H → β) (e : β) : β := Nat.rec (motive := fun _ => H → β) K (fun _ ih h => hnew h none (fun _ h => ih h) e) m h

noncomputable def strOf (l : List UInt8) : Nat × Nat := List.rec (0, 0) (fun b _ ih => (Nat.succ ih.1, Nat.add (Nat.mul b.toNat (Nat.pow 256 ih.1)) ih.2)) l
mutual
noncomputable def ofVal : Value → Option V
  | .bool b => some (.bool b)
  | .int k n => some (.int k n)
  | .string s => some (.str (strOf s.data.toList).1 (strOf s.data.toList).2)
  | .pointer none => some .pnil
  | .slice none 0 0 => some .snil
  | .nilFunc => some .fnil
  | .nilIface => some .inil
  | .map none => some .mnil
  | .iface t v => match ofVal v with | some v => some (.iface t v) | none => none
  | .agg ⟨l⟩ => match ofVals l with | some l => some (.agg l) | none => none
  | .tuple ⟨l⟩ => match ofVals l with | some l => some (.tup l) | none => none
  | _ => none
noncomputable def ofVals : List Value → Option (List V)
  | [] => some []
  | v :: l => match ofVal v with
    | some v => match ofVals l with
      | some l => some (v :: l)
      | none => none
    | none => none
end
section
variable {β : Type}
noncomputable def ltI (a b : Int) : Bool := Int.rec (fun n => Int.rec (fun m => Nat.ble (Nat.succ n) m) (fun _ => false) b) (fun n => Int.rec (fun _ => true) (fun m => Nat.ble (Nat.succ m) n) b) a
noncomputable def eqI (a b : Int) : Bool := Int.rec (fun n => Int.rec (fun m => Nat.beq n m) (fun _ => false) b) (fun n => Int.rec (fun _ => false) (fun m => Nat.beq n m) b) a
noncomputable def wrapK (k : IntKind) (n : Int) (K : Int → β) : β :=
  match k with
  | .i64 => Int.rec (fun n => forceNat n fun n => cond (Nat.ble n 9223372036854775807) (K (.ofNat n)) (forceInt (IntKind.wrap .i64 (.ofNat n)) K))
      (fun n => forceNat n fun n => cond (Nat.ble n 9223372036854775807) (K (.negSucc n)) (forceInt (IntKind.wrap .i64 (.negSucc n)) K)) n
  | k => forceInt (IntKind.wrap k n) K
noncomputable def boolK (b : Bool) (K : V → β) : β := cond b (K (.bool true)) (K (.bool false))
noncomputable def nboolK (b : Bool) (K : V → β) : β := cond b (K (.bool false)) (K (.bool true))
noncomputable def intK (k : IntKind) (n : Int) (K : V → β) : β := wrapK k n fun n => K (.int k n)

noncomputable def iAdd (_ : β) (k : IntKind) (a b : Int) (K : V → β) : β := intK k (Int.add a b) K
noncomputable def iSub (_ : β) (k : IntKind) (a b : Int) (K : V → β) : β := intK k (Int.sub a b) K
noncomputable def iMul (_ : β) (k : IntKind) (a b : Int) (K : V → β) : β := intK k (Int.mul a b) K
noncomputable def iQuo (e : β) (k : IntKind) (a b : Int) (K : V → β) : β := cond (eqI b 0) e (intK k (Int.tdiv a b) K)
noncomputable def iRem (e : β) (k : IntKind) (a b : Int) (K : V → β) : β := cond (eqI b 0) e (forceInt (Int.tmod a b) fun n => K (.int k n))
noncomputable def iEql (_ : β) (_ : IntKind) (a b : Int) (K : V → β) : β := boolK (eqI a b) K
noncomputable def iNeq (_ : β) (_ : IntKind) (a b : Int) (K : V → β) : β := nboolK (eqI a b) K
noncomputable def iLss (_ : β) (_ : IntKind) (a b : Int) (K : V → β) : β := boolK (ltI a b) K
noncomputable def iLeq (_ : β) (_ : IntKind) (a b : Int) (K : V → β) : β := nboolK (ltI b a) K
noncomputable def iGtr (_ : β) (_ : IntKind) (a b : Int) (K : V → β) : β := boolK (ltI b a) K
noncomputable def iGeq (_ : β) (_ : IntKind) (a b : Int) (K : V → β) : β := nboolK (ltI a b) K
/-- the bits, of what is not negative -/
noncomputable def natsK (e : β) (a b : Int) (K : Nat → Nat → β) : β := Int.rec (fun a => Int.rec (fun b => K a b) (fun _ => e) b) (fun _ => e) a
/-- the bits of an integer -/
noncomputable def bitsN (k : IntKind) (a : Int) : Nat := Int.toNat (Int.emod a (Int.ofNat (Nat.pow 2 k.bits)))
noncomputable def iAnd (_ : β) (k : IntKind) (a b : Int) (K : V → β) : β := forceNat (Nat.land (bitsN k a) (bitsN k b)) fun n => intK k (.ofNat n) K
noncomputable def iOr (_ : β) (k : IntKind) (a b : Int) (K : V → β) : β := forceNat (Nat.lor (bitsN k a) (bitsN k b)) fun n => intK k (.ofNat n) K
noncomputable def iXor (_ : β) (k : IntKind) (a b : Int) (K : V → β) : β := forceNat (Nat.xor (bitsN k a) (bitsN k b)) fun n => intK k (.ofNat n) K
noncomputable def iAndNot (_ : β) (k : IntKind) (a b : Int) (K : V → β) : β := forceNat (Nat.land (bitsN k a) (Nat.sub (Nat.sub (Nat.pow 2 k.bits) 1) (bitsN k b))) fun n => intK k (.ofNat n) K
noncomputable def iShl (e : β) (k : IntKind) (a b : Int) (K : V → β) : β := Int.rec (fun b => intK k (Int.mul a (.ofNat (Nat.pow 2 (Nat.min b k.bits)))) K) (fun _ => e) b
noncomputable def iShr (e : β) (k : IntKind) (a b : Int) (K : V → β) : β := natsK e a b fun a b => forceNat (Nat.div a (Nat.pow 2 (Nat.min b k.bits))) fun n => K (.int k (.ofNat n))
noncomputable def binInt : BinOp → R β → IntKind → Int → Int → (V → R β) → R β
  | .add => iAdd | .sub => iSub | .mul => iMul | .quo => iQuo | .rem => iRem
  | .eql => iEql | .neq => iNeq | .lss => iLss | .leq => iLeq | .gtr => iGtr | .geq => iGeq
  | .and => iAnd | .or => iOr | .xor => iXor | .shl => iShl | .shr => iShr | .andNot => iAndNot
noncomputable def eqS (n a m b : Nat) : Bool := cond (Nat.beq n m) (Nat.beq a b) false
/-- a text is less than another one -/
noncomputable def ltS (n a m b : Nat) : Bool :=
  cond (Nat.ble n m)
    (cond (Nat.ble (Nat.succ (Nat.mul a (Nat.pow 256 (Nat.sub m n)))) b) true (cond (Nat.beq (Nat.mul a (Nat.pow 256 (Nat.sub m n))) b) (Nat.ble (Nat.succ n) m) false))
    (Nat.ble (Nat.succ a) (Nat.mul b (Nat.pow 256 (Nat.sub n m))))
noncomputable def sAdd (n a m b : Nat) (K : V → R β) : R β := forceNat (Nat.add n m) fun s => cond (Nat.ble s 9223372036854775807) (forceNat (Nat.add (Nat.mul a (Nat.pow 256 m)) b) fun c => K (.str s c)) (.no 106)
noncomputable def sEql (n a m b : Nat) (K : V → β) : β := boolK (eqS n a m b) K
noncomputable def sNeq (n a m b : Nat) (K : V → β) : β := nboolK (eqS n a m b) K
noncomputable def sLss (n a m b : Nat) (K : V → β) : β := boolK (ltS n a m b) K
noncomputable def sLeq (n a m b : Nat) (K : V → β) : β := nboolK (ltS m b n a) K
noncomputable def sGtr (n a m b : Nat) (K : V → β) : β := boolK (ltS m b n a) K
noncomputable def sGeq (n a m b : Nat) (K : V → β) : β := nboolK (ltS n a m b) K
noncomputable def sNo (_ _ _ _ : Nat) (_ : V → R β) : R β := .no 102
def eqJ : IntKind → IntKind → Bool
  | .i8, .i8 => true
  | .i16, .i16 => true
  | .i32, .i32 => true
  | .i64, .i64 => true
  | .u8, .u8 => true
  | .u16, .u16 => true
  | .u32, .u32 => true
  | .u64, .u64 => true
  | _, _ => false
/-- shifts alone take integers of two kinds -/
noncomputable def binI (op : BinOp) (k j : IntKind) (a b : Int) (K : V → R β) : R β := match op with
  | .shl => iShl (.no 103) k a b K
  | .shr => iShr (.no 103) k a b K
  | op => cond (eqJ k j) (binInt op (.no 103) k a b K) (.no 103)
noncomputable def binStr : BinOp → Nat → Nat → Nat → Nat → (V → R β) → R β
  | .add => sAdd | .eql => sEql | .neq => sNeq | .lss => sLss | .leq => sLeq | .gtr => sGtr | .geq => sGeq
  | _ => sNo
end
/-! are they the same, deep down? (of like form) -/
mutual
def vEq : V → V → Bool
  | .bool a, .bool b => cond a b (not b)
  | .int k a, .int j b => cond (eqJ k j) (eqI' a b) false
  | .str n a, .str m b => eqS' n a m b
  | .pnil, .pnil => true
  | .ptr b o, .ptr c p => eqS' b o c p
  | .snil, .snil => true
  | .slice b o n c, .slice b' o' n' c' => cond (eqS' b o b' o') (eqS' n c n' c') false
  | .gsl b o n c k, .gsl b' o' n' c' k' => cond (eqS' b o b' o') (cond (eqS' n c n' c') (Nat.beq k k') false) false
  | .sle b o n c k, .sle b' o' n' c' k' => cond (eqS' b o b' o') (cond (eqS' n c n' c') (Nat.beq k k') false) false
  | .fnil, .fnil => true
  | .inil, .inil => true
  | .iface t v, .iface u w => cond (Nat.beq t u) (vEq v w) false
  | .agg l, .agg m => vEqs l m
  | .tup l, .tup m => vEqs l m
  | .map b, .map c => Nat.beq b c
  | .mnil, .mnil => true
  | .opq i, .opq j => Nat.beq i j
  | _, _ => false
def vEqs : List V → List V → Bool
  | [], [] => true
  | x :: l, y :: m => cond (vEq x y) (vEqs l m) false
  | _, _ => false
def eqI' : Int → Int → Bool
  | .ofNat a, .ofNat b => Nat.beq a b
  | .negSucc a, .negSucc b => Nat.beq a b
  | _, _ => false
def eqS' (n a m b : Nat) : Bool := cond (Nat.beq n m) (Nat.beq a b) false
end
section
variable {β : Type} (P : Program)
noncomputable def ev (T : Tm) (e : β) (x : Operand) (K : V → β) : β :=
  Operand.rec (fun t => tget T t K e) (fun v => Option.rec e K (ofVal v)) (fun g => cond (Nat.ble (Nat.succ g) P.globals.size) (K (.ptr g 0)) e) (fun f => K (.fn (.func f) [] [])) x
noncomputable def evs (T : Tm) (e : β) (xs : List Operand) (K : List V → β) : β :=
  List.rec (motive := fun _ => (List V → β) → β) (fun k => k []) (fun x _ ih k => ev P T e x (fun v => ih fun l => k (v :: l))) xs K
inductive TK where
  | agg (fields : List (Nat × Nat × Nat))  -- offset, size, type
  | arr (n elem size : Nat)
  | slc (elem size : Nat)
  | int (k : IntKind)
  | bool
  | str
  | ptr (elem size : Nat)
  | uns
  | ifc
  | fnc
  | map (key elem : Nat)
  | oth
  | bad
def sizeK (i : Option TypeInfo) (K : Nat → TK) : TK := match i with
  | some i => K i.size
  | none => .bad
def fieldsK (P : Program) : List Field → Option (List (Nat × Nat × Nat))
  | [] => some []
  | f :: fs => match P.info? f.type with
    | some i => (match fieldsK P fs with
      | some l => some ((f.offset, i.size, f.type) :: l)
      | none => none)
    | none => none
def tyK (t : Nat) : TK :=
  match P.underlying t with
  | some (.struct fs) => (match fieldsK P fs.toList with | some l => .agg l | none => .bad)
  | some (.array n e) => sizeK (P.info? e) (.arr n e)
  | some (.slice e) => sizeK (P.info? e) (.slc e)
  | some (.int k) => .int k
  | some .bool => .bool
  | some .string => .str
  | some (.pointer e) => sizeK (P.info? e) (.ptr e)
  | some .unsafePointer => .uns
  | some (.interface _) => .ifc
  | some (.func ..) => .fnc
  | some (.map k e) => .map k e
  | some _ => .oth
  | none => .bad
noncomputable def V.cellsK (v : V) (K : List V → β) : β := match v with
  | .agg l => K l
  | v => K [v]
/-- of many cells, of one, or none of these -/
noncomputable def agK (k : TK) (yes no e : β) : β := TK.rec (fun _ => yes) (fun _ _ _ => yes) (fun _ _ => no) (fun _ => no) no no (fun _ _ => no) no no no (fun _ _ => no) no e k
noncomputable def partK (e : β) (t : Nat) (cs : List V) (off : Nat) (K : V → β) : β :=
  ldrop e off cs fun l => agK (tyK P t) (ltake e (P.cellsOf t) l fun l => K (.agg l)) (List.rec e (fun x _ _ => K x) l) e
/-- == at a type: what is not held here is refused -/
noncomputable def eqK (e : β) (k : TK) (x y : V) (K : Bool → β) : β :=
  match k, x, y with
  | .bool, .bool a, .bool b => K (cond a b (not b))
  | .int _, .int j a, .int k b => cond (eqJ j k) (K (eqI a b)) e
  | .str, .str n a, .str m b => K (eqS n a m b)
  | .ptr .., .pnil, .pnil => K true
  | .ptr .., .pnil, .ptr _ _ => K false
  | .ptr .., .ptr _ _, .pnil => K false
  | .ptr _ s, .ptr b o, .ptr c p => cond (Nat.beq s 0) e (cond (Nat.beq b c) (K (Nat.beq o p)) e)
  | .ifc, .inil, .iface _ _ => K false
  | .ifc, .iface _ _, .inil => K false
  | .map .., .mnil, .mnil => K true
  | .map .., .mnil, .map _ => K false
  | .map .., .map _, .mnil => K false
  | .slc .., .snil, .snil => K true
  | .slc .., .snil, .slice .. => K false
  | .slc .., .slice .., .snil => K false
  | .slc .., .snil, .gsl .. => K false
  | .slc .., .gsl .., .snil => K false
  | .slc .., .snil, .sle .. => K false
  | .slc .., .sle .., .snil => K false
  | .fnc, .fnil, .fnil => K true
  | .fnc, .fnil, .fn .. => K false
  | .fnc, .fn .., .fnil => K false
  | _, _, _ => e
/-- may structs of this type be compared field by field? -/
def eqTy (t : Nat) : Bool := match P.underlying t with
  | some (.struct fs) => fs.toList.all (fun f => f.name != "_") && !P.stoodInHeld t && !P.eqGuardType P.depth t
  | _ => false
/-- fields, one cell each -/
noncomputable def eqsK (e : β) (fs : List (Nat × Nat × Nat)) (o : Nat) (a b : List V) (K : Bool → β) : β :=
  List.rec (motive := fun _ => Nat → List V → List V → β) (fun _ _ _ => K true) (fun f _ ih o a b => cond (Nat.beq f.1 o) (agK (tyK P f.2.2) e (List.rec e (fun x a _ => List.rec e (fun y b _ => eqK e (tyK P f.2.2) x y fun r => cond r (ih (Nat.succ o) a b) (K false)) b) a) e) e) fs o a b
noncomputable def eqG (e : β) (t : Nat) (a b : List V) (K : Bool → β) : β := cond (eqTy P t) (match tyK P t with
    | .agg fs => eqsK P e fs 0 a b K
    | _ => e) e
def cmpb (t : Nat) : Bool := match P.info? t with
  | some i => i.comparable
  | none => false
noncomputable def eqT (e : β) (t : Nat) (c : Bool) (x y : V) (K : Bool → β) : β :=
  match x, y with
  | .agg a, .agg b => eqG P e t a b K
  | .inil, .inil => cond c (match tyK P t with | .ifc => K true | _ => e) e
  | .iface u x, .iface v y => (match tyK P t with
    | .ifc => cond (Nat.beq u v) (cond (cmpb P u) (match x, y with
      | .agg a, .agg b => eqG P e u a b K
      | _, _ => eqK e (tyK P u) x y K) e) (K false)
    | _ => e)
  | x, y => eqK e (tyK P t) x y K
def isC : Operand → Bool
  | .const _ => true
  | _ => false
noncomputable def binop (op : BinOp) (t : Nat) (c : Bool) (x y : V) (K : V → R β) : R β :=
  match x, y with
  | .int k a, .int j b => binI op k j a b K
  | .str n a, .str m b => binStr op n a m b K
  | x, y => match op with
    | .eql => eqT P (.no 104) t c x y fun b => boolK b K
    | .neq => eqT P (.no 104) t c x y fun b => nboolK b K
    | _ => .no 105
noncomputable def loadK (e : β) (t : Nat) (a : V) (h : H) (K : V → β) : β :=
  match a with
  | .ptr b off => hget h b (fun x => match x with
    | .cells cs _ _ _ => partK P e t cs off K
    | _ => e) e
  | _ => e
/-- what may stand in a cell -/
def plainV : V → Bool
  | .agg _ => false
  | .tup _ => false
  | .opq _ => false
  | _ => true
noncomputable def plains (l : List V) : Bool := List.rec true (fun v _ ih => cond (plainV v) ih false) l
/-- cells laid at a place -/
noncomputable def putC (e : β) (b off : Nat) (xs cs : List V) (el : Nat) (k : BK) (fz : Nat) (h : H) (K : H → β) : β :=
  cond (Nat.ble fz off) (cond (plains xs) (lsplice e off xs cs fun cs => hset h b (some (.cells cs el k fz)) K e) e) e
noncomputable def putK (e : β) (b off : Nat) (xs : List V) (h : H) (K : H → β) : β :=
  hget h b (fun x => match x with
    | .cells cs el k fz => BK.rec (putC e b off xs cs el k fz h K) (putC e b off xs cs el k fz h K) (putC e b off xs cs el k fz h K) e k
    | _ => e) e
noncomputable def partsK (T : Tm) (e : β) (place : Nat → (Nat → Nat → β) → β) (ps : List (Nat × Operand)) (cs : List V) (K : List V → β) : β :=
  List.rec (motive := fun _ => List V → β) (fun cs => K cs) (fun p _ ih cs => place p.1 fun off s => ev P T e p.2 fun v => v.cellsK fun xs => llen xs fun n => cond (Nat.beq n s) (lsplice e off xs cs ih) e) ps cs
noncomputable def zeroV (t : Nat) : Option V := match P.info? t with
  | some i => match i.zero with
    | some z => ofVal z
    | none => none
  | none => none
noncomputable def zeroK (e : β) (t : Nat) (K : V → β) : β := Option.rec e K (zeroV P t)
noncomputable def natK (e : β) (v : V) (K : Nat → β) : β := match v with | .int _ n => Int.rec K (fun _ => e) n | _ => e
noncomputable def optN (T : Tm) (e : β) (x : Option Operand) (d : Nat) (K : Nat → β) : β := Option.rec (K d) (fun x => ev P T e x fun v => natK e v K) x
noncomputable def lowB (n c : Nat) (i : Nat) : Nat := Nat.mod (Nat.div c (Nat.pow 256 (Nat.sub (Nat.sub n i) 1))) 256

abbrev CallF := Nat → List V → H → R (V × H)
abbrev OpK (β : Type) := Tm → H → (V → H → R β) → R β
noncomputable def opMove (x : Operand) : OpK β := fun T h K => ev P T (.no 1) x fun v => K v h
noncomputable def opPick (c a b : Operand) : OpK β := fun T h K => ev P T (.no 2) c fun v => match v with
  | .bool c => cond c (ev P T (.no 2) a fun v => K v h) (ev P T (.no 2) b fun v => K v h)
  | _ => .no 2
abbrev OpA (β : Type) := Tm → (Blk → (Nat → V) → R β) → R β
noncomputable def aAlloc (t : Nat) : OpA β := fun _ K => zeroK P (.no 3) t fun z => z.cellsK fun cs => K (.cells cs t .own 0) (fun b => .ptr b 0)
noncomputable def aBox (t : Nat) (x : Operand) : OpA β := fun T K => ev P T (.no 4) x fun v => v.cellsK fun cs => K (.cells cs t .own 0) (fun b => .ptr b 0)
noncomputable def opBuild (t : Nat) (ps : Array (Nat × Operand)) : OpK β := fun T h K => zeroK P (.no 5) t fun z => z.cellsK fun z => match tyK P t with
  | .agg fs => partsK P T (.no 5) (fun i K => lget i fs (fun f => K f.1 f.2.1) (.no 5)) ps.toList z fun cs => K (.agg cs) h
  | .arr _ _ s => partsK P T (.no 5) (fun i K => K (Nat.mul i s) s) ps.toList z fun cs => K (.agg cs) h
  | _ => .no 5
noncomputable def aBuildSlice (t n : Nat) (ps : Array (Nat × Operand)) : OpA β := fun T K => match tyK P t with
  | .slc el s => zeroK P (.no 6) el fun z => z.cellsK fun z => llen z fun m => cond (Nat.beq m s) (cond (Nat.ble (Nat.mul n s) 16777216) (partsK P T (.no 6) (fun i K => K (Nat.mul i s) s) ps.toList (repl n z) fun cs => K (.cells cs el .own 0) (fun b => .slice b 0 n n)) (.no 6)) (.no 6)
  | _ => .no 6
noncomputable def opLoad (t : Nat) (a : Operand) : OpK β := fun T h K => ev P T (.no 7) a fun a => loadK P (.no 8) t a h fun v => K v h
def sizeIs (t n : Nat) : Bool := match P.info? t with
  | some i => Nat.beq n i.size
  | none => false
noncomputable def opStore (t : Nat) (a x : Operand) : OpK β := fun T h K => ev P T (.no 9) a fun a => ev P T (.no 9) x fun v => match a with
  | .ptr b off => v.cellsK fun xs => llen xs fun n => cond (sizeIs P t n) (putK (.no 10) b off xs h fun h => K (.tup []) h) (.no 10)
  | _ => .no 9
noncomputable def opNilCheck (x : Operand) : OpK β := fun T h K => ev P T (.no 11) x fun v => match v with
  | .pnil => .no 12
  | .inil => .no 12
  | .fnil => .no 12
  | .opq _ => .no 12
  | .fn (.func f) a b => K (.fn (.func f) a b) h
  | .fn .. => .no 12
  | v => K v h
noncomputable def opBinOp (op : BinOp) (t : Nat) (x y : Operand) : OpK β := fun T h K => ev P T (.no 13) x fun v => ev P T (.no 13) y fun w => binop P op t (cond (isC x) true (isC y)) v w fun v => K v h
noncomputable def opUnOp (op : UnOp) (x : Operand) : OpK β := fun T h K => ev P T (.no 14) x fun x => match op, x with
  | .not, .bool b => cond b (K (.bool false) h) (K (.bool true) h)
  | .neg, .int k n => intK k (Int.neg n) fun v => K v h
  | _, _ => .no 14
/-- bytes out of cells -/
noncomputable def byteK (e : β) (v : V) (K : Nat → β) : β := match v with
  | .int .u8 (.ofNat b) => cond (Nat.ble b 255) (K b) e
  | _ => e
noncomputable def bytesK (e : β) (cs : List V) (n : Nat) (K : Nat → β) : β :=
  Nat.rec (motive := fun _ => List V → Nat → β) (fun _ c => K c) (fun _ ih cs c => List.rec e (fun v t _ => byteK e v fun b => forceNat (Nat.add (Nat.mul c 256) b) fun c => ih t c) cs) n cs 0
noncomputable def cellsK (n c : Nat) (K : List V → β) : β :=
  Nat.rec (motive := fun _ => (List V → β) → β) (fun k => k []) (fun m ih k => forceNat (Nat.mod (Nat.div c (Nat.pow 256 m)) 256) fun b => ih fun t => k (.int .u8 (.ofNat b) :: t)) n K
noncomputable def convB (b off len : Nat) (h : H) (K : V → H → R β) : R β := hget h b (fun x => match x with
    | .cells cs _ _ _ => ldrop (.no 18) off cs fun cs => bytesK (.no 18) cs len fun c => K (.str len c) h
    | _ => .no 18) (.no 18)
noncomputable def convS (el n c : Nat) (K : Blk → (Nat → V) → R β) : R β := match tyK P el with
    | .int .u8 => cond (Nat.beq (P.cellsOf el) 1) (cellsK n c fun cs => K (.cells cs el .conv 0) (fun b => .gsl b 0 n n 0)) (.no 17)
    | _ => .no 17
noncomputable def aConvert (s d : Nat) (x : Operand) : OpA β := fun T K => ev P T (.no 15) x fun x => match tyK P s, tyK P d, x with
  | .str, .slc el _, .str n c => convS P el n c K
  | _, _, _ => .no 17
noncomputable def cvInt (s : TK) (k : IntKind) (x : V) (h : H) (K : V → H → R β) : R β := match s, x with
  | .bad, _ => .no 20
  | _, .int _ n => intK k n fun v => K v h
  | _, _ => .no 20
noncomputable def cvByt (k : TK) (x : V) (h : H) (K : V → H → R β) : R β := match k, x with
  | .int .u8, .snil => K (.str 0 0) h
  | .int .u8, .sle .. => K (.str 0 0) h
  | .int .u8, .slice b off len _ => convB b off len h K
  | .int .u8, .gsl b off len _ _ => convB b off len h K
  | _, _ => .no 20
noncomputable def cvStr (s : TK) (x : V) (h : H) (K : V → H → R β) : R β := match s, x with
  | .bad, _ => .no 20
  | .slc el _, x => cvByt (tyK P el) x h K
  | _, .str n c => K (.str n c) h
  | _, .int _ n => Int.rec (fun n => cond (Nat.ble n 127) (K (.str 1 n) h) (.no 16)) (fun _ => .no 16) n
  | _, _ => .no 20
noncomputable def cvUns (s : TK) (x : V) (h : H) (K : V → H → R β) : R β := match s, x with
  | .ptr _ u, .ptr b off => cond (Nat.beq u 0) (.no 19) (hget h b (fun x => match x with
      | .cells cs _ .own _ => ldrop (.no 19) off cs fun cs => List.rec (.no 19) (fun _ _ _ => K (.ptr b off) h) cs
      | _ => .no 19) (.no 19))
  | _, _ => .no 19
noncomputable def cvPtr (s : TK) (u : Nat) (x : V) (h : H) (K : V → H → R β) : R β := match s, x with
  | .uns, .ptr b off => hget h b (fun x => match x with
      | .cells cs el .own _ => llen cs fun n => cond (liesAt P P.depth el (Nat.div n (P.cellsOf el)) off u 1) (K (.ptr b off) h) (.no 19)
      | _ => .no 19) (.no 19)
  | _, _ => .no 19
noncomputable def opConvert (s d : Nat) (x : Operand) : OpK β := fun T h K => ev P T (.no 15) x fun x => match tyK P d with
  | .int k => cvInt (tyK P s) k x h K
  | .str => cvStr P (tyK P s) x h K
  | .slc el _ => (match tyK P s, x with
    | .str, .str n c => convS P el n c fun x mk => hnew h (some x) (fun b h => K (mk b) h) (.no 17)
    | _, _ => .no 20)
  | .uns => cvUns (tyK P s) x h K
  | .ptr u _ => cvPtr P (tyK P s) u x h K
  | _ => .no 20
noncomputable def opIface (t : Nat) (x : Operand) : OpK β := fun T h K => ev P T (.no 21) x fun v => match tyK P t with
  | .ifc => .no 21
  | .bad => .no 21
  | _ => K (.iface t v) h
noncomputable def opFunc (f : Fn) (first cap : Array Operand) : OpK β := fun T h K => evs P T (.no 22) first.toList fun a => evs P T (.no 22) cap.toList fun b => K (.fn f a b) h
noncomputable def aMakeSlice (t : Nat) (l c : Operand) : OpA β := fun T K => ev P T (.no 23) l fun l => ev P T (.no 23) c fun c => natK (.no 23) l fun l => natK (.no 23) c fun c => cond (Nat.ble l c) (match tyK P t with
  | .slc el s => zeroK P (.no 24) el fun z => z.cellsK fun z => llen z fun m => cond (Nat.beq m s) (cond (Nat.ble c 281474976710656) (cond (Nat.ble (Nat.mul (P.bytesOf el) c) 281474976710656)
      (forceNat l fun l => forceNat c fun c => lapp (repl c z) [] fun cs => K (.cells cs el .own 0) (fun b => .slice b 0 l c)) (.no 24)) (.no 24)) (.no 24)
  | _ => .no 24) (.no 25)
/-- the piece of a row of exact capacity -/
noncomputable def cutK (b off s lo hi m : Nat) (h : H) (K : V → H → R β) : R β :=
  cond (Nat.ble lo hi) (cond (Nat.beq lo m) (K (.slice b off 0 0) h)
    (forceNat (Nat.add off (Nat.mul lo s)) fun off => forceNat (Nat.sub hi lo) fun len => forceNat (Nat.sub m lo) fun cap => K (.slice b off len cap) h)) (.no 29)
noncomputable def gcutK (b off s lo hi lb cut : Nat) (h : H) (K : V → H → R β) : R β :=
  cond (Nat.ble lo hi) (cond (Nat.beq lo lb) (K (.sle b off cut lo s) h)
    (forceNat (Nat.add off (Nat.mul lo s)) fun off => forceNat (Nat.sub hi lo) fun len => forceNat (Nat.sub lb lo) fun lb => forceNat (Nat.add cut lo) fun cut => K (.gsl b off len lb cut) h)) (.no 29)
/-- the bounds: those that are said, or these -/
noncomputable def boundsK (T : Tm) (lo hi mx : Option Operand) (len cap : Nat) (K : Nat → Nat → Option Nat → R β) : R β :=
  optN P T (.no 28) hi len fun n => optN P T (.no 28) lo 0 fun l => Option.rec (cond (Nat.ble n cap) (K l n none) (.no 30))
    (fun mx => ev P T (.no 28) mx fun v => natK (.no 28) v fun m => cond (Nat.ble m cap) (cond (Nat.ble n m) (Option.rec (.no 30) (fun _ => K l n (some m)) hi) (.no 30)) (.no 30)) mx
noncomputable def opSlice (t : Nat) (x : Operand) (lo hi mx : Option Operand) : OpK β := fun T h K => ev P T (.no 26) x fun x => match x with
  | .str n c => (match tyK P t with
    | .str => boundsK P T lo hi mx n n fun lo hi m => Option.rec (cond (Nat.ble lo hi)
      (forceNat (Nat.sub hi lo) fun m => forceNat (Nat.mod (Nat.div c (Nat.pow 256 (Nat.sub n hi))) (Nat.pow 256 m)) fun c => K (.str m c) h) (.no 27)) (fun _ => .no 27) m
    | _ => .no 27)
  | .slice b off len cap => (match tyK P t with
    | .slc _ s => boundsK P T lo hi mx len cap fun lo hi m => Option.rec (cutK b off s lo hi cap h K) (fun m => cutK b off s lo hi m h K) m
    | _ => .no 28)
  | .gsl b off len lb cut => (match tyK P t with
    | .slc _ s => boundsK P T lo hi mx len lb fun lo hi m => Option.rec (gcutK b off s lo hi lb cut h K) (fun m => cutK b off s lo hi m h K) m
    | _ => .no 28)
  | .snil => (match tyK P t with
    | .slc _ _ => boundsK P T lo hi mx 0 0 fun lo hi _ => cond (Nat.ble lo hi) (K .snil h) (.no 31)
    | _ => .no 31)
  | .ptr b off => (match tyK P t with
    | .arr n _ s => boundsK P T lo hi mx n n fun lo hi m => Option.rec (cutK b off s lo hi n h K) (fun m => cutK b off s lo hi m h K) m
    | _ => .no 32)
  | _ => .no 33
noncomputable def opFieldAddr (t : Nat) (x : Operand) (f : Nat) : OpK β := fun T h K => ev P T (.no 35) x fun v => match v with
  | .ptr b off => (match tyK P t with
    | .agg fs => lget f fs (fun f => cond (Nat.beq f.2.1 0) (.no 36) (forceNat (Nat.add off f.1) fun off => K (.ptr b off) h)) (.no 36)
    | _ => .no 36)
  | _ => .no 37
noncomputable def opField (t : Nat) (x : Operand) (f : Nat) : OpK β := fun T h K => ev P T (.no 38) x fun v => match v with
  | .agg cs => (match tyK P t with
    | .agg fs => lget f fs (fun f => partK P (.no 38) f.2.2 cs f.1 fun v => K v h) (.no 38)
    | _ => .no 38)
  | _ => .no 38
noncomputable def elemK (t b off len i : Nat) (h : H) (K : V → H → R β) : R β := cond (Nat.ble (Nat.succ i) len) (match tyK P t with
    | .slc _ s => forceNat (Nat.add off (Nat.mul i s)) fun off => K (.ptr b off) h
    | _ => .no 41) (.no 42)
noncomputable def opIndexAddr (t : Nat) (x i : Operand) : OpK β := fun T h K => ev P T (.no 39) x fun x => ev P T (.no 39) i fun i => natK (.no 40) i fun i => match x with
  | .slice b off len _ => elemK P t b off len i h K
  | .gsl b off len _ _ => elemK P t b off len i h K
  | .ptr b off => (match tyK P t with
    | .arr n _ s => cond (Nat.ble (Nat.succ i) n) (forceNat (Nat.add off (Nat.mul i s)) fun off => K (.ptr b off) h) (.no 42)
    | _ => .no 41)
  | _ => .no 41
noncomputable def opIndex (t : Nat) (x i : Operand) : OpK β := fun T h K => ev P T (.no 43) x fun x => ev P T (.no 43) i fun i => natK (.no 44) i fun i => match x with
  | .str n c => (match tyK P t with
    | .str => cond (Nat.ble (Nat.succ i) n) (forceNat (lowB n c i) fun b => K (.int .u8 (.ofNat b)) h) (.no 44)
    | _ => .no 44)
  | .agg cs => (match tyK P t with
    | .arr n el s => cond (Nat.ble (Nat.succ i) n) (partK P (.no 45) el cs (Nat.mul i s) fun v => K v h) (.no 44)
    | _ => .no 45)
  | _ => .no 45
noncomputable def opExtract (t : Operand) (i : Nat) : OpK β := fun T h K => ev P T (.no 46) t fun t => match t with
  | .tup l => lget i l (fun v => K v h) (.no 46)
  | _ => .no 46
noncomputable def okK (ok : Bool) (v : V) (h : H) (K : V → H → β) : β := cond ok (K (.tup [v, .bool true]) h) (K v h)
noncomputable def noK (ok : Bool) (t : Nat) (h : H) (K : V → H → R β) : R β := cond ok (zeroK P (.no 48) t fun z => K (.tup [z, .bool false]) h) (.no 47)
def hasAll (want : Array (String × TypeId)) (got : Array Method) : Bool := want.toList.all fun (name, sig) => got.any fun m => m.name == name && m.sig == sig
noncomputable def opAssert (x : Operand) (t : Nat) (ok : Bool) : OpK β := fun T h K => ev P T (.no 48) x fun x => match x with
  | .inil => (match P.underlying t with | some _ => noK P ok t h K | none => .no 48)
  | .iface u v => (match P.underlying t with
    | some (.interface want) => (match P.info? u with
      | some i => cond (hasAll want i.methods) (okK ok (.iface u v) h K) (noK P ok t h K)
      | none => .no 48)
    | some _ => cond (Nat.beq u t) (okK ok v h K) (noK P ok t h K)
    | none => .no 48)
  | _ => .no 48
noncomputable def aMakeMap (r : Option Operand) : OpA β := fun _ K => Option.rec (K (.map [] 0) (fun b => .map b)) (fun _ => .no 49) r
/-- are keys of this type the same? -/
noncomputable def keyK (e : β) (t : TK) (k l : V) (K : Bool → β) : β := match t, k, l with
  | .int _, .int i a, .int j b => cond (eqJ i j) (K (eqI a b)) e
  | .str, .str n a, .str m b => K (eqS n a m b)
  | _, _, _ => e
noncomputable def keyOk (e : β) (t : TK) (k : V) (K : β) : β := match t, k with
  | .int _, .int _ _ => K
  | .str, .str _ _ => K
  | _, _ => e
noncomputable def findE (e : β) (t : TK) (k : V) (es : List (V × V × Nat)) (K : V → β) (no : β) : β :=
  keyOk e t k (List.rec (motive := fun _ => β) no (fun x _ ih => keyK e t k x.1 fun b => cond b (K x.2.1) ih) es)
noncomputable def setE (e : β) (t : TK) (k v : V) (clock : Nat) (es : List (V × V × Nat)) (K : List (V × V × Nat) → Bool → β) : β :=
  keyOk e t k (List.rec (motive := fun _ => (List (V × V × Nat) → Bool → β) → β) (fun K => K [(k, v, clock)] true) (fun x l ih K => keyK e t k x.1 fun b => cond b (K ((k, v, x.2.2) :: l) false) (ih fun l b => K (x :: l) b)) es K)
noncomputable def opLookup (t : Nat) (x i : Operand) (ok : Bool) : OpK β := fun T h K => ev P T (.no 50) x fun x => ev P T (.no 50) i fun i => match x with
  | .map b => (match tyK P t with
    | .map key el => hget h b (fun x => match x with
      | .map es _ => findE (.no 50) (tyK P key) i es (fun v => okK ok v h K) (zeroK P (.no 50) el fun z => cond ok (K (.tup [z, .bool false]) h) (K z h))
      | _ => .no 50) (.no 50)
    | _ => .no 50)
  | _ => .no 50
noncomputable def opMapSet (t : Nat) (m k x : Operand) : OpK β := fun T h K => ev P T (.no 51) m fun m => ev P T (.no 51) k fun k => ev P T (.no 51) x fun x => match m with
  | .map b => (match tyK P t with
    | .map key _ => hget h b (fun y => match y with
      | .map es c => setE (.no 51) (tyK P key) k x c es fun es n => forceNat (cond n (Nat.succ c) c) fun c => hset h b (some (.map es c)) (fun h => K (.tup []) h) (.no 51)
      | _ => .no 51) (.no 51)
    | _ => .no 51)
  | _ => .no 51
/-- the entry of a key, or a new one of zero -/
noncomputable def entE (e : β) (t : TK) (k z : V) (clock : Nat) (es : List (V × V × Nat)) (K : List (V × V × Nat) → V → Nat → Bool → β) : β :=
  keyOk e t k (List.rec (motive := fun _ => (List (V × V × Nat) → V → Nat → Bool → β) → β) (fun K => K [(k, z, clock)] z clock true) (fun x l ih K => keyK e t k x.1 fun b => cond b (K ((k, x.2) :: l) x.2.1 x.2.2 false) (ih fun l => K (x :: l))) es K)
noncomputable def opMapEntry (t : Nat) (m k : Operand) : OpK β := fun T h K => ev P T (.no 110) m fun m => ev P T (.no 110) k fun k => match m with
  | .map b => (match tyK P t with
    | .map key el => zeroK P (.no 110) el fun z => hget h b (fun y => match y with
      | .map es c => entE (.no 110) (tyK P key) k z c es fun es v s n => forceNat (cond n (Nat.succ c) c) fun c => hset h b (some (.map es c)) (fun h => K (.tup [v, .int .i64 (.ofNat s)]) h) (.no 110)
      | _ => .no 110) (.no 110)
    | _ => .no 110)
  | _ => .no 110
noncomputable def putE (e : β) (s : Nat) (v : V) (es : List (V × V × Nat)) (K : List (V × V × Nat) → β) : β :=
  List.rec (motive := fun _ => (List (V × V × Nat) → β) → β) (fun _ => e) (fun x t ih K => cond (Nat.beq x.2.2 s) (K ((x.1, v, x.2.2) :: t)) (ih fun t => K (x :: t))) es K
noncomputable def opEntryStore (m s x : Operand) : OpK β := fun T h K => ev P T (.no 111) m fun m => ev P T (.no 111) s fun s => ev P T (.no 111) x fun x => natK (.no 111) s fun s => match m with
  | .map b => hget h b (fun y => match y with
    | .map es c => putE (.no 111) s x es fun es => hset h b (some (.map es c)) (fun h => K (.tup []) h) (.no 111)
    | _ => .no 111) (.no 111)
  | _ => .no 111
noncomputable def opRange (t : Nat) (x : Operand) : OpK β := fun T h K => ev P T (.no 52) x fun x => match tyK P t, x with
  | .str, .str n c => hnew h (some (.siter n c 0)) (fun b h => K (.ptr b 0) h) (.no 52)
  | _, _ => .no 52
noncomputable def opNext (x : Operand) (s : Bool) : OpK β := fun T h K => cond s (ev P T (.no 53) x fun x => match x with
  | .ptr b 0 => hget h b (fun y => match y with
    | .siter n c p => cond (Nat.ble n p) (K (.tup [.bool false]) h) (forceNat (lowB n c p) fun r => cond (Nat.ble r 127) (forceNat (Nat.succ p) fun q => hset h b (some (.siter n c q)) (fun h => K (.tup [.bool true, .int .i64 (.ofNat p), .int .i32 (.ofNat r)]) h) (.no 53)) (.no 54))
    | _ => .no 53) (.no 53)
  | _ => .no 53) (.no 53)
noncomputable def opDefer (c : Call) : OpK β := fun T h K => match c.callee with
  | .value f => ev P T (.no 55) f fun f => evs P T (.no 55) c.args.toList fun l => (match f with
    | .fn f a b => K (.tup []) ⟨h.next, h.t, (.fn f a b, l) :: h.ds⟩
    | _ => .no 55)
  | _ => .no 55
noncomputable def bLenK (k : TK) (x : V) (h : H) (K : V → H → R β) : R β := match k, x with
  | .str, .str n _ => K (.int .i64 (.ofNat n)) h
  | .slc .., .slice _ _ n _ => K (.int .i64 (.ofNat n)) h
  | .slc .., .gsl _ _ n _ _ => K (.int .i64 (.ofNat n)) h
  | .slc .., .snil => K (.int .i64 (.ofNat 0)) h
  | .slc .., .sle .. => K (.int .i64 (.ofNat 0)) h
  | _, _ => .no 60
noncomputable def bLen (ts : List Nat) (l : List V) (h : H) (K : V → H → R β) : R β := match ts, l with
  | t :: _, [x] => bLenK (tyK P t) x h K
  | _, _ => .no 60
noncomputable def bCapK (k : TK) (x : V) (h : H) (K : V → H → R β) : R β := match k, x with
  | .slc .., .slice _ _ _ c => K (.int .i64 (.ofNat c)) h
  | .slc .., .snil => K (.int .i64 (.ofNat 0)) h
  | _, _ => .no 61
noncomputable def bCap (ts : List Nat) (l : List V) (h : H) (K : V → H → R β) : R β := match ts, l with
  | t :: _, [x] => bCapK (tyK P t) x h K
  | _, _ => .no 61
/-- the greatest, the least of integers -/
noncomputable def foldI (less : Int → Int → Bool) (e : β) (l : List V) (k : IntKind) (n : Int) (K : V → β) : β :=
  List.rec (motive := fun _ => Int → β) (fun n => K (.int k n)) (fun v _ ih n => match v with
    | .int _ m => cond (less m n) (ih m) (ih n)
    | _ => e) l n
noncomputable def gtI (a b : Int) : Bool := ltI b a
noncomputable def bMax (l : List V) (h : H) (K : V → H → R β) : R β := match l with
  | .int k n :: l => foldI gtI (.no 62) l k n fun v => K v h
  | _ => .no 62
noncomputable def bMin (l : List V) (h : H) (K : V → H → R β) : R β := match l with
  | .int k n :: l => foldI ltI (.no 63) l k n fun v => K v h
  | _ => .no 63
noncomputable def srcB (e : β) (b off n : Nat) (h : H) (K : List V → β) : β := hget h b (fun x => match x with
    | .cells cs _ _ _ => ldrop e off cs fun cs => ltake e n cs K
    | _ => e) e
/-- the first n elements' cells -/
noncomputable def srcK (e : β) (s n : Nat) (x : V) (h : H) (K : List V → β) : β := match x with
  | .snil => K []
  | .sle .. => K []
  | .str m c => cellsK n (Nat.div c (Nat.pow 256 (Nat.sub m n))) K
  | .slice b off _ _ => srcB e b off (Nat.mul n s) h K
  | .gsl b off _ _ _ => srcB e b off (Nat.mul n s) h K
  | _ => e
noncomputable def lenK (e : β) (x : V) (K : Nat → β) : β := match x with
  | .snil => K 0
  | .sle .. => K 0
  | .str n _ => K n
  | .slice _ _ n _ => K n
  | .gsl _ _ n _ _ => K n
  | _ => e
/-- a row that grew: so many elements -/
noncomputable def newG (el : Nat) (k : BK) (cs : List V) (n fz : Nat) (h : H) (K : V → H → R β) : R β := hnew h (some (.cells cs el k fz)) (fun b h => K (.gsl b 0 n n 0) h) (.no 64)
/-- may a row of so many be made? -/
def hasZ (el : Nat) : Bool := match P.info? el with
  | some i => (match i.zero with
    | some z => Nat.beq z.cells.size i.size
    | none => false)
  | none => false
noncomputable def fitK (el n : Nat) (K : R β) : R β := cond (hasZ P el) (cond (Nat.ble n 140737488355328) (cond (Nat.ble (Nat.mul n (P.bytesOf el)) 140737488355328) K (.no 65)) (.no 65)) (.no 65)
noncomputable def appE (el s b off len cap n : Nat) (new : List V) (h : H) (K : V → H → R β) : R β := forceNat (Nat.add len n) fun need => 
  cond (Nat.ble need cap)
    (putK (.no 68) b (Nat.add off (Nat.mul len s)) new h fun h => K (.slice b off need cap) h)
    (cond (Nat.ble len cap) (fitK P el need (srcB (.no 65) b off (Nat.mul len s) h fun old => lapp old new fun cs => newG el .grow cs need 0 h K)) (.no 65))
noncomputable def appN (el s off len need : Nat) (new cs : List V) (k : BK) (fz b : Nat) (h : H) (K : V → H → R β) : R β :=
  ldrop (.no 65) off cs fun cs => ltake (.no 65) (Nat.mul len s) cs fun old => lapp old new fun cs => forceNat (Nat.sub fz off) fun fz => cond (Nat.ble fz (Nat.mul len s)) (hset h b none (fun h => newG el k cs need fz h K) (.no 66)) (.no 66)
noncomputable def appG (el s b off len lb cut n : Nat) (new : List V) (h : H) (K : V → H → R β) : R β := forceNat (Nat.add len n) fun need => 
  cond (Nat.ble need lb)
    (putK (.no 68) b (Nat.add off (Nat.mul len s)) new h fun h => K (.gsl b off need lb cut) h)
    (cond (Nat.beq off (Nat.mul cut s)) (fitK P el need (hget h b (fun y => match y with
      | .cells cs el' .grow fz => cond (Nat.beq el el') (appN el s off len need new cs .grow fz b h K) (.no 69)
      | .cells cs el' .conv fz => cond (Nat.beq el el') (appN el s off len need new cs .conv fz b h K) (.no 69)
      | _ => .no 69) (.no 70))) (.no 69))
noncomputable def appK (el s : Nat) (x : V) (n : Nat) (new : List V) (h : H) (K : V → H → R β) : R β := match x with
  | .snil => cond (Nat.beq n 0) (K .snil h) (fitK P el n (newG el .grow new n 0 h K))
  | .slice b off len cap => appE P el s b off len cap n new h K
  | .gsl b off len lb cut => appG P el s b off len lb cut n new h K
  | .sle b off cut lo s => cond (Nat.beq n 0) (K (.sle b off cut lo s) h) (.no 71)
  | _ => .no 71
def isStr : V → Bool
  | .str .. => true
  | _ => false
noncomputable def bAppend (ts : List Nat) (l : List V) (h : H) (K : V → H → R β) : R β := match ts, l with
  | [t, u], [s, x] => (match tyK P t with
    | .slc el sz => cond (Nat.beq sz 0) (.no 72) (match tyK P u with
      | .int _ => natK (.no 72) x fun n => fitK P el n (zeroK P (.no 72) el fun z => z.cellsK fun z => llen z fun m => cond (Nat.beq m sz) (cond (plains z) (lapp (repl n z) [] fun new => appK P el sz s n new h K) (.no 72)) (.no 72))
      | .slc .. => cond (isStr x) (.no 73) (lenK (.no 73) x fun n => srcK (.no 73) sz n x h fun new => cond (plains new) (appK P el sz s n new h K) (.no 73))
      | .str => cond (Nat.beq sz 1) (lenK (.no 73) x fun n => srcK (.no 73) sz n x h fun new => cond (plains new) (appK P el sz s n new h K) (.no 73)) (.no 73)
      | _ => .no 73)
    | _ => .no 74)
  | _, _ => .no 75
noncomputable def copyK (d : V) (n : Nat) (xs : List V) (h : H) (K : V → H → R β) : R β := match d with
  | .slice b off _ _ => putK (.no 78) b off xs h fun h => K (.int .i64 (.ofNat n)) h
  | .gsl b off _ _ _ => putK (.no 78) b off xs h fun h => K (.int .i64 (.ofNat n)) h
  | .snil => K (.int .i64 (.ofNat n)) h
  | .sle .. => K (.int .i64 (.ofNat n)) h
  | _ => .no 78
noncomputable def bCopy (ts : List Nat) (l : List V) (h : H) (K : V → H → R β) : R β := match ts, l with
  | t :: _, [d, x] => (match tyK P t with
    | .slc _ sz => lenK (.no 76) d fun m => lenK (.no 76) x fun n => forceNat (Nat.min n m) fun n => srcK (.no 77) sz n x h fun xs => copyK d n xs h K
    | _ => .no 79)
  | _, _ => .no 79
noncomputable def clearB (t b off n : Nat) (h : H) (K : V → H → R β) : R β := cond (Nat.beq n 0) (K (.tup []) h) (match tyK P t with
      | .slc el _ => zeroK P (.no 80) el fun z => z.cellsK fun z => lapp (repl n z) [] fun xs => putK (.no 80) b off xs h fun h => K (.tup []) h
      | _ => .no 80)
noncomputable def bClear (ts : List Nat) (l : List V) (h : H) (K : V → H → R β) : R β := match ts, l with
  | t :: _, [x] => (match P.underlying t, x with
    | none, _ => .no 80
    | _, .snil => K (.tup []) h
    | _, .sle .. => K (.tup []) h
    | _, .slice b off n _ => clearB P t b off n h K
    | _, .gsl b off n _ _ => clearB P t b off n h K
    | _, _ => .no 80)
  | _, _ => .no 80
noncomputable def bSliceData (l : List V) (h : H) (K : V → H → R β) : R β := match l with
  | [.snil] => K .pnil h
  | [.slice b off _ c] => cond (Nat.beq c 0) (.no 81) (K (.ptr b off) h)
  | [.gsl b off _ c _] => cond (Nat.beq c 0) (.no 81) (K (.ptr b off) h)
  | _ => .no 81
noncomputable def bStrK (b off n : Nat) (cs : List V) (el : Nat) (k : BK) (fz : Nat) (h : H) (K : V → H → R β) : R β :=
  (match tyK P el with
  | .int .u8 => cond (Nat.beq (P.cellsOf el) 1) (ldrop (.no 83) off cs fun xs => bytesK (.no 83) xs n fun c => forceNat (Nat.max fz (Nat.add off n)) fun fz => hset h b (some (.cells cs el k fz)) (fun h => forceNat n fun n => K (.str n c) h) (.no 83)) (.no 83)
  | _ => .no 83)
noncomputable def strB (n b off : Nat) (h : H) (K : V → H → R β) : R β := cond (Nat.ble n 9223372036854775807) (hget h b (fun x => match x with
      | .cells cs el .own fz => bStrK P b off n cs el .own fz h K
      | .cells cs el .grow fz => bStrK P b off n cs el .grow fz h K
      | _ => .no 83) (.no 83)) (.no 83)
noncomputable def strK (k : TK) (p : V) (n : Nat) (h : H) (K : V → H → R β) : R β := match k, p with
  | .int .u8, .pnil => cond (Nat.beq n 0) (K (.str 0 0) h) (.no 82)
  | .int .u8, .ptr b off => cond (Nat.beq n 0) (K (.str 0 0) h) (strB P n b off h K)
  | _, _ => .no 82
noncomputable def bString (ts : List Nat) (l : List V) (h : H) (K : V → H → R β) : R β := match ts, l with
  | t :: _, [p, n] => natK (.no 82) n fun n => (match tyK P t with
    | .ptr u _ => strK P (tyK P u) p n h K
    | _ => .no 82)
  | _, _ => .no 82
noncomputable def bNo (_ : List V) (_ : H) (_ : V → H → R β) : R β := .no 84
noncomputable def bi (ts : List Nat) : Builtin → List V → H → (V → H → R β) → R β
  | .len => bLen P ts | .cap => bCap P ts | .max => bMax | .min => bMin | .append => bAppend P ts | .copy => bCopy P ts | .clear => bClear P ts
  | .unsafeSliceData => bSliceData | .unsafeString => bString P ts
  | _ => bNo
noncomputable def callK (callF : CallF) (f : V) (l : List V) (h : H) (K : V → H → R β) : R β := match f with
  | .fn f first cap => (match f with
    | .func f => lapp l cap fun l => lapp first l fun l => R.rec (fun r => Prod.rec K r) (fun n => .no n) (callF f l h)
    | _ => .no 56)
  | _ => .no 57
/-- a method of an interface value -/
noncomputable def invokeK (callF : CallF) (r : V) (name : String) (l : List V) (h : H) (K : V → H → R β) : R β := match r with
  | .iface t v => (match P.info? t with
    | some i => (match i.methods.find? (·.name == name) with
      | some m => (match m.path.toList, m.func with
        | [], some (f, ptr) => (match tyK P t with
          | .bad => .no 58
          | .ptr .. => cond ptr (R.rec (fun r => Prod.rec K r) (fun n => .no n) (callF f (v :: l) h)) (.no 58)
          | _ => cond ptr (.no 58) (R.rec (fun r => Prod.rec K r) (fun n => .no n) (callF f (v :: l) h)))
        | _, _ => .no 58)
      | none => .no 58)
    | none => .no 58)
  | _ => .no 59
noncomputable def opCall (callF : CallF) (c : Call) : OpK β := fun T h K => evs P T (.no 85) c.args.toList fun l => match c.callee with
  | .value f => ev P T (.no 86) f fun f => callK callF f l h K
  | .builtin b => bi P c.argTypes.toList b l h K
  | .invoke r m => ev P T (.no 86) r fun r => invokeK P callF r m l h K
/-- an operation that lays a block, at the next number -/
noncomputable def opA (f : OpA β) : OpK β := fun T h K => f T fun x mk => hnew h (some x) (fun b h => K (mk b) h) (.no 3)
noncomputable def opNo : OpK β := fun _ _ _ => .no 99
noncomputable def evOp (callF : CallF) : Op → OpK β
  | .move x => opMove P x
  | .assign x => opMove P x
  | .pick c a b => opPick P c a b
  | .alloc t => opA (aAlloc P t)
  | .box t x => opA (aBox P t x)
  | .build t ps => opBuild P t ps
  | .buildSlice t n ps => opA (aBuildSlice P t n ps)
  | .load t a => opLoad P t a
  | .store t a x => opStore P t a x
  | .nilCheck x => opNilCheck P x
  | .binOp op t x y _ => opBinOp P op t x y
  | .unOp op _ x => opUnOp P op x
  | .convert s d x => opConvert P s d x
  | .makeInterface t x => opIface P t x
  | .makeFunc f a b => opFunc P f a b
  | .makeMap _ r => opA (aMakeMap r)
  | .makeSlice t l c => opA (aMakeSlice P t l c)
  | .slice t x a b c => opSlice P t x a b c
  | .fieldAddr t x f => opFieldAddr P t x f
  | .field t x f => opField P t x f
  | .indexAddr t x i => opIndexAddr P t x i
  | .index t x i => opIndex P t x i
  | .lookup t x i ok => opLookup P t x i ok
  | .mapUpdate t m k x => opMapSet P t m k x
  | .insert t m k x => opMapSet P t m k x
  | .mapEntry t m k => opMapEntry P t m k
  | .entryStore _ m s x => opEntryStore P m s x
  | .range t x => opRange P t x
  | .next x s => opNext P x s
  | .typeAssert x _ t ok => opAssert P x t ok
  | .extract t i => opExtract P t i
  | .call c => opCall P callF c
  | .defer c => opDefer P c
  | _ => opNo
end

inductive Ex where
  | normal | exit (n : Nat) | ret

section
variable (P : Program)
/-- the temporary of operation j -/
noncomputable def gdst (ops : List Oper) (j : Nat) : Option Tmp := lget j ops (fun p => p.dst) none
/-- is it to be done -/
noncomputable def wantG {β : Type} (want : Bool) (d : Option Tmp) (T : Tm) (yes no : R β) : R β :=
  Option.rec (.no 87) (fun d => tget T d (fun v => match v with | .bool b => cond (cond b want (not want)) yes no | .opq _ => .no 87 | _ => no) (.no 87)) d
noncomputable def wantK {β : Type} (ops : List Oper) (o : Oper) (T : Tm) (yes no : R β) : R β := Option.rec yes (fun g => wantG g.2 (gdst ops g.1) T yes no) o.guard
noncomputable def dstK {β : Type} (d : Option Tmp) (v : V) (T : Tm) (K : Tm → R β) : R β := Option.rec (K T) (fun d => tset T d v K (.no 88)) d
noncomputable def runOps {β : Type} (callF : CallF) (all : List Oper) (ops : List Oper) (T : Tm) (h : H) (K : Tm → H → R β) : R β :=
  List.rec (motive := fun _ => Tm → H → R β) (fun T h => K T h)
    (fun o _ ih T h => wantK all o T
      (evOp P callF o.op T h fun v h => dstK o.dst v T fun T => ih T h)
      (dstK o.dst (.tup []) T fun T => ih T h)) ops T h
/-! a region whose order is drawn -/
def clsB : Builtin → Nat
  | .len => 0 | .cap => 0 | .max => 0 | .min => 0 | .unsafeSliceData => 0
  | _ => 2
def clsCall : Callee → Nat
  | .builtin b => clsB b
  | _ => 2
/-- 0: neither reads nor writes; 1: reads; 2: may write; 3: lays a block, and that is all -/
def clsV (d s : TK) : Nat := match d, s with
  | .int _, _ => 0
  | .str, .slc .. => 1
  | .str, _ => 0
  | .slc .., .str => 3
  | _, _ => 2
def cls : Op → Nat
  | .move _ => 0
  | .assign _ => 0
  | .pick .. => 0
  | .build .. => 0
  | .nilCheck _ => 0
  | .binOp .. => 0
  | .unOp .. => 0
  | .makeInterface .. => 0
  | .makeFunc .. => 0
  | .slice .. => 0
  | .fieldAddr .. => 0
  | .field .. => 0
  | .indexAddr .. => 0
  | .index .. => 0
  | .typeAssert .. => 0
  | .extract .. => 0
  | .load .. => 1
  | .lookup .. => 1
  | .alloc _ => 3
  | .box .. => 3
  | .buildSlice .. => 3
  | .makeSlice .. => 3
  | .makeMap .. => 3
  | .call c => clsCall c.callee
  | .convert s d _ => clsV (tyK P d) (tyK P s)
  | _ => 2
noncomputable def evA {β : Type} : Op → OpA β
  | .alloc t => aAlloc P t
  | .box t x => aBox P t x
  | .buildSlice t n ps => aBuildSlice P t n ps
  | .makeSlice t l c => aMakeSlice P t l c
  | .makeMap _ r => aMakeMap r
  | .convert s d x => aConvert P s d x
  | _ => fun _ _ => .no 100
def bindsAny (e : Edge) : Bool := match e.ground with | .textOnly _ => false | .gcOnly _ => false | _ => true
/-- must j be done ahead of i? -/
def reach (ops : List Oper) : Nat → Nat → Nat → Bool
  | 0, _, _ => false
  | n + 1, i, j => match ops[i]? with
    | some o => o.after.toList.any (fun e => bindsAny e && Nat.beq e.on j) || o.after.toList.any (fun e => bindsAny e && Nat.ble (j + 1) e.on && reach ops n e.on j)
    | none => false
abbrev Open := List (Nat × Oper × Tm × V)
/-- an operation's value and heap -/
noncomputable def evR (callF : CallF) (op : Op) (T : Tm) (h : H) : R (V × H) := evOp P callF op T h fun v h => .ok (v, h)
noncomputable def goR {β : Type} (x : R (V × H)) (K : V → H → R β) : R β := R.rec (fun p => Prod.rec K p) (fun n => .no n) x
noncomputable def evAR (op : Op) (T : Tm) : R (Blk × (Nat → V)) := evA P op T fun x mk => .ok (x, mk)
noncomputable def goA {β : Type} (x : R (Blk × (Nat → V))) (K : Blk → (Nat → V) → R β) : R β := R.rec (fun p => Prod.rec K p) (fun n => .no n) x
/-- without the blocks that were laid by operations i need not wait for -/
noncomputable def hidR {β : Type} (all : List Oper) (i base : Nat) (ns : List Nat) (h : H) (K : H → R β) : R β :=
  List.rec (motive := fun _ => H → R β) K (fun n _ ih h => cond (reach all i i n) (ih h) (forceNat (Nat.add base n) fun b => hset h b none ih (.no 113))) ns h
noncomputable def backK {β : Type} (callF : CallF) (all : List Oper) (base : Nat) (ns : List Nat) (i : Nat) (o : Oper) (T : Tm) (v : V) (hs : List (Nat × H)) (K : R β) : R β :=
  List.rec (motive := fun _ => R β) K (fun p _ ih => cond (reach all i i p.1) K (hidR all i base ns p.2 fun h0 => goR (evR P callF o.op T h0) fun w _ => cond (vEq v w) ih (.no 90))) hs
noncomputable def openK {β : Type} (callF : CallF) (all : List Oper) (base : Nat) (ns : List Nat) (i : Nat) (h : H) (os : Open) (K : Open → R β) : R β :=
  List.rec (motive := fun _ => (Open → R β) → R β) (fun K => K []) (fun p _ ih K => cond (reach all i i p.1) (ih K) (hidR all p.1 base ns h fun h0 => goR (evR P callF p.2.1.op p.2.2.1 h0) fun w _ => cond (vEq p.2.2.2 w) (ih fun t => K (p :: t)) (.no 91))) os K
noncomputable def lastOk {β : Type} (all : List Oper) (i : Nat) (hs : List (Nat × H)) (K : R β) : R β := List.rec K (fun p _ _ => cond (reach all i i p.1) K (.no 92)) hs
/-- blocks that were laid by operations i need not wait for are hidden (ns: whose); they come back -/
noncomputable def hideK {β : Type} (all : List Oper) (i base : Nat) (ns : List Nat) (h : H) (K : H → List (Nat × Blk) → R β) : R β :=
  List.rec (motive := fun _ => H → (H → List (Nat × Blk) → R β) → R β) (fun h K => K h []) (fun n _ ih h K => cond (reach all i i n) (ih h K) (forceNat (Nat.add base n) fun b => hget h b (fun x => hset h b none (fun h => ih h fun h l => K h ((b, x) :: l)) (.no 106)) (.no 106))) ns h K
noncomputable def backB {β : Type} (l : List (Nat × Blk)) (h : H) (K : H → R β) : R β :=
  List.rec (motive := fun _ => H → R β) K (fun p _ ih h => hset h p.1 (some p.2) ih (.no 107)) l h
structure DS where
  i : Nat
  h : H
  hs : List (Nat × H)  -- the heaps ahead of the writing operations
  os : Open            -- what was read
  ns : List Nat        -- which ones laid a block
noncomputable def drawOps {β : Type} (callF : CallF) (all : List Oper) (base : Nat) (ops : List Oper) (T : Tm) (s : DS) (K : Tm → H → R β) : R β :=
  List.rec (motive := fun _ => Tm → DS → R β) (fun T s => K T s.h)
    (fun o _ ih T s => wantK all o T
      (Nat.rec
        (goR (evR P callF o.op T s.h) fun v _ => dstK o.dst v T fun T' => ih T' ⟨Nat.succ s.i, s.h, s.hs, s.os, s.ns⟩)
        (fun n _ => Nat.rec
          (hidR all s.i base s.ns s.h fun h0 => goR (evR P callF o.op T h0) fun v _ => backK P callF all base s.ns s.i o T v s.hs (dstK o.dst v T fun T' => ih T' ⟨Nat.succ s.i, s.h, s.hs, (s.i, o, T, v) :: s.os, s.ns⟩))
          (fun n _ => Nat.rec
            (lastOk all s.i s.hs (hideK all s.i base s.ns s.h fun h0 l => goR (evR P callF o.op T h0) fun v h1 => backB l h1 fun h2 => openK P callF all base s.ns s.i h2 s.os fun os => dstK o.dst v T fun T' => ih T' ⟨Nat.succ s.i, h2, (s.i, s.h) :: s.hs, os, s.ns⟩))
            (fun _ _ => goA (evAR P o.op T) fun x mk => forceNat (Nat.add base s.i) fun b => hset s.h b (some x) (fun h => dstK o.dst (mk b) T fun T' => ih T' ⟨Nat.succ s.i, h, s.hs, s.os, s.i :: s.ns⟩) (.no 108)) n) n) (cls P o.op))
      (dstK o.dst (.tup []) T fun T' => ih T' ⟨Nat.succ s.i, s.h, s.hs, s.os, s.ns⟩)) ops T s
def lays (o : Oper) : Bool := Nat.beq (cls P o.op) 3
/-- the temporaries an operation looks at -/
def looks (all : List Oper) (o : Oper) : List Nat := (o.op.operands.toList.filterMap fun x => match x with | .tmp t => some t | _ => none) ++ (match o.guard with
  | some g => (match all[g.1]? with
    | some p => p.dst.toList
    | none => [])
  | none => [])
def hits (all : List Oper) (d : Option Nat) (o : Oper) : Bool := match d with
  | some d => (looks all o).any (Nat.beq d)
  | none => false
def clash (all : List Oper) (o p : Oper) : Bool := hits all o.dst p || hits all p.dst o || (match o.dst, p.dst with | some d, some e => Nat.beq d e | _, _ => false)
/-- edges go backwards; operations that share a temporary that one of them writes are ordered -/
def regOk (all : List Oper) : Bool := (List.range all.length).all fun i => match all[i]? with
  | some o => o.after.toList.all (fun e => !bindsAny e || Nat.ble (e.on + 1) i) && (List.range i).all fun j => match all[j]? with
    | some p => !clash all o p || reach all i i j
    | none => true
  | none => true
noncomputable def drawRun {β : Type} (callF : CallF) (ops : List Oper) (T : Tm) (h : H) (K : Tm → H → R β) : R β := cond (regOk ops)
  (cond (ops.any (lays P)) (forceNat h.next fun base => llen ops fun n => hres n h (fun h => drawOps P callF ops base ops T ⟨0, h, [], [], []⟩ K) (.no 109))
    (drawOps P callF ops 0 ops T ⟨0, h, [], [], []⟩ K)) (.no 112)

abbrev CodeK := Tm → H → R (Ex × Tm × H)
noncomputable def cSkip : CodeK := fun T h => .ok (.normal, T, h)
noncomputable def cRegion (callF : CallF) (ops : Array Oper) (draw : Bool) : CodeK := fun T h => cond draw (drawRun P callF ops.toList T h fun T h => .ok (.normal, T, h)) (runOps P callF ops.toList ops.toList T h fun T h => .ok (.normal, T, h))
noncomputable def cSeq (ih : Code → CodeK) (a b : Code) : CodeK := fun T h => R.rec (fun r => Prod.rec (fun x r => Ex.rec (Prod.rec (ih b) r) (fun n => .ok (.exit n, r)) (.ok (.ret, r)) x) r) (fun n => .no n) (ih a T h)
noncomputable def cCond (ih : Code → CodeK) (x : Operand) (a b : Code) : CodeK := fun T h => ev P T (.no 93) x fun v => match v with
  | .bool c => cond c (ih a T h) (ih b T h)
  | _ => .no 93
noncomputable def cBlock (ih : Code → CodeK) (id : Nat) (a : Code) : CodeK := fun T h => R.rec (fun r => Prod.rec (fun x r => Ex.rec (.ok (.normal, r)) (fun n => cond (Nat.beq n id) (.ok (.normal, r)) (.ok (.exit n, r))) (.ok (.ret, r)) x) r) (fun n => .no n) (ih a T h)
noncomputable def cLoop (ih : Code → CodeK) (a : Code) : CodeK := fun T h => R.rec (fun r => Prod.rec (fun x r => Ex.rec (Prod.rec (ih (.loop a)) r) (fun n => .ok (.exit n, r)) (.ok (.ret, r)) x) r) (fun n => .no n) (ih a T h)
noncomputable def cExit (n : Nat) : CodeK := fun T h => .ok (.exit n, T, h)
noncomputable def cRet : CodeK := fun T h => .ok (.ret, T, h)
noncomputable def cNo (n : Nat) : CodeK := fun _ _ => .no n
noncomputable def codeStep (callF : CallF) (ih : Code → CodeK) : Code → CodeK
  | .skip => cSkip
  | .region _ ops draw => cRegion P callF ops draw
  | .seq a b => cSeq ih a b
  | .cond x a b => cCond P ih x a b
  | .block id c => cBlock ih id c
  | .loop c => cLoop ih c
  | .exit n => cExit n
  | .ret => cRet
  | .rangeFunc .. => cNo 94
  | .goto _ => cNo 95
  | _ => cNo 96
noncomputable def runCode (callF : CallF) (fuel : Nat) : Code → CodeK :=
  Nat.rec (motive := fun _ => Code → CodeK) (fun _ => cNo 97) (fun _ ih => codeStep P callF ih) fuel
noncomputable def rows (n : Nat) : Tm := repl (Nat.div n 8) [repl 8 [.tup []]] ++ [repl (Nat.mod n 8) [.tup []]]
noncomputable def putArgs {β : Type} (l : List V) (i : Nat) (T : Tm) (K : Tm → R β) : R β :=
  List.rec (motive := fun _ => Nat → Tm → R β) (fun _ T => K T) (fun v _ ih i T => tset T i v (fun T => ih (Nat.succ i) T) (.no 89)) l i T
noncomputable def resK {β : Type} (rs : List ResultVar) (T : Tm) (h : H) (K : List V → R β) : R β :=
  List.rec (motive := fun _ => (List V → R β) → R β) (fun k => k []) (fun r _ ih k => match r with
    | .tmp t => tget T t (fun v => ih fun l => k (v :: l)) (.no 98)
    | .cell a t => tget T a (fun a => loadK P (.no 98) t a h fun v => ih fun l => k (v :: l)) (.no 98)) rs K
noncomputable def oneV (l : List V) : V := match l with | [v] => v | l => .tup l
noncomputable def defersK {β : Type} (callF : CallF) (ds : List (V × List V)) (h : H) (K : H → R β) : R β :=
  List.rec (motive := fun _ => H → R β) K (fun d _ ih h => callK callF d.1 d.2 h fun _ h => ih h) ds h
abbrev Hook := List V → H → R (V × H)
/-- hooks: by the function's number -/
noncomputable def findH {β : Type} (f : Nat) (l : List (Nat × Hook)) (yes : Hook → β) (no : β) : β := List.rec no (fun p _ ih => cond (Nat.beq f p.1) (yes p.2) ih) l
/-- what is done with the deferred calls -/
abbrev DefK := List (V × List V) → H → (H → R (V × H)) → R (V × H)
noncomputable def noDefers : DefK := fun ds h K => List.rec (K h) (fun _ _ _ => .no 205) ds
noncomputable def endK (dk : DefK) (fn : Func) (ds : List (V × List V)) (T : Tm) (h : H) : R (V × H) := dk h.ds ⟨h.next, h.t, []⟩ fun h => resK P fn.results.toList T h fun l => .ok (oneV l, ⟨h.next, h.t, ds⟩)
noncomputable def callBody (ih : CallF) (dk : DefK) (cf : Nat) (f : Nat) (l : List V) (h : H) : R (V × H) :=
  match P.funcs[f]? with
  | some fn => (match fn.body with
    | some c => putArgs l 0 (rows fn.ntmps) fun T => R.rec
        (fun r => Prod.rec (fun x r => Ex.rec (Prod.rec (endK P dk fn h.ds) r) (fun _ => .no 201) (Prod.rec (endK P dk fn h.ds) r) x) r)
        (fun n => .no (Nat.add (Nat.mul n 1000) f)) (runCode P ih cf c T ⟨h.next, h.t, []⟩)
    | none => .no (Nat.add 202000 f))
  | none => .no 203
noncomputable def defF (dhooks : List (Nat × Hook)) (ih : CallF) (cf : Nat) : CallF := fun f l h => findH f dhooks (fun k => k l h) (callBody P ih noDefers cf f l h)
noncomputable def runCall (hooks dhooks : List (Nat × Hook)) (cf fuel : Nat) : CallF :=
  Nat.rec (motive := fun _ => CallF) (fun _ _ _ => .no 204) (fun _ ih f l h => findH f hooks (fun k => k l h) (callBody P ih (defersK (defF P dhooks ih cf)) cf f l h)) fuel
noncomputable def isTrue (r : R (V × H)) : Bool := match r with | .ok (.bool true, _) => true | _ => false
noncomputable def h0 (n : Nat) : H := ⟨n, [[repl n [none]]], []⟩
end

/-! hooks of body-less functions -/
noncomputable def findB {β : Type} (n c b : Nat) (K : Nat → β) (no : β) : β := Nat.rec (motive := fun _ => Nat → β) (fun _ => no) (fun _ ih i => cond (Nat.beq (lowB n c i) b) (K i) (ih (Nat.succ i))) n 0
end Go.Ev
