/-
  An interpreter of the program's code over plain values, without memory: what a call answers, where it can be told. (Its soundness over the machine is proved in the texts behind it.) To: Each operation of the interpreter is the machine's: operands, plain computations.
-/
import Derived.Calls
import Derived.Orders
import Derived.LoopN
import Derived.Defers
import Derived.Recover
import Derived.KernelRfl
import Derived.Laws.World
import Derived.Laws.Cells
import Derived.Laws.Sem
import Derived.WalkKit
import Derived.WalkLawsBesides
set_option linter.all false
noncomputable section
namespace Go.Vai
theorem pb : ∀ {p : Prop} [inst : Decidable p], p → decide p = true := @decide_eq_true
theorem pd : ∀ {p : Prop} [inst : Decidable p], ¬p → decide p = false := @decide_eq_false
theorem ph : ∀ {p : Prop} [inst : Decidable p], decide p = true → p := @of_decide_eq_true
theorem pj : ∀ {α : Type} {as bs : List α}, (as ++ bs).length = as.length + bs.length := @List.length_append
theorem pm : ∀ {α β : Type} {as : List α} (f : α → β), (List.map f as).length = as.length := @List.length_map
theorem po : ∀ {n m : Nat}, n.beq m = true → n = m := @Nat.eq_of_beq_eq_true
theorem pq : ∀ (a b : Bool), ((a && b) = true) = (a = true ∧ b = true) := @Bool.and_eq_true
theorem pr : ∀ {α : Type} {i : Nat} {a : α} {l : List α}, l[i]? = some a ↔ ∃ h, l[i]'h = a := @List.getElem?_eq_some_iff
theorem px : ∀ (n : Nat), ((n : Int)).toNat = n := @Int.toNat_natCast
theorem py : ∀ {α : Type} {a : α} {l : List α}, a ∈ a :: l := @List.mem_cons_self
theorem pz : ∀ {α : Type} {l : List α} {i : Nat} {a : α}, l[i]? = some a → a ∈ l := @List.mem_of_getElem?
theorem p0 : ∀ {α : Type} (y : α) {a : α} {l : List α}, a ∈ l → a ∈ y :: l := @List.mem_cons_of_mem
theorem p4 : ∀ {n m : Nat}, n.ble m = true → n ≤ m := @Nat.le_of_ble_eq_true
theorem p5 : ∀ {α : Type} (a b : α), (bif true then a else b) = a := fun _ _ => rfl
theorem p6 : ∀ {α : Type} (a b : α), (bif false then a else b) = b := fun _ _ => rfl
theorem p7 : ∀ {α : Type} {a : α} {as : List α}, (a :: as).length = as.length + 1 := rfl
theorem p8 : ∀ {α : Type}, ([] : List α).length = 0 := rfl
theorem p9 : ∀ {α : Type} {l : List α} {i : Nat} (h : i < l.length), l[i]? = some l[i] := @List.getElem?_eq_getElem
inductive D where
 | int (k:IntKind) (n:Int)
 | bool (b:Bool)
 | str (s:List UInt8)
 | agg (l:List D)
 | sl (sz:Nat) (l:List D)
 | map (ks vs:List D)
 | iface (t:Nat) (x:D)
 | nilIface
 | nilptr
 | nilmap
 | nilfunc
 deriving Inhabited
inductive V where
 | d (x:D)
 | ptr (id off:Nat)
 | eptr (x:D) (off:Nat)
 | gptr (g off:Nat)
 | agg (l:List V)
 | sl (sz:Nat) (l:List D) (id:Nat)
 | slo (id sz k:Nat)
 | wptr (id sz k i off:Nat)
 | func (f:Nat) (cap:List V)
 | mfunc (f:Nat) (first:List D)
 | map (id:Nat)
 | iface (t:Nat) (v:V)
 | tup (l:List V)
 deriving Inhabited
inductive Ob where
 | val (n:Nat) (v:V)
 | row (l:List D)
 | tok (n:Nat)
 | map (ks vs:List D)
 deriving Inhabited
def szN(n:Nat):Nat:=n % 1048576
def zhp(n el:Nat):Prop:=n<1048576∨n / 1048576=el+1
def zsg(n el o k:Nat):Prop:=n<1048576∨(n / 1048576=el+1∧o=0∧0<k)
def zy4(n el:Nat):Bool:=Nat.blt n 1048576||Nat.beq (n / 1048576) (el+1)
abbrev St:=List (Nat×Ob)
abbrev Fr:=List (Nat×V)
inductive Out where
 | ret (v:V)
 | pan (v:V)
 deriving Inhabited
inductive Ex where
 | normal
 | exit (id:Nat)
 | goto (l:Nat)
 | ret
 | pan (v:V)
structure Cx where
 P:Program
 live:Nat→Nat→List Nat
 glob:Nat→Option D
 keep:Nat→Bool
 dom:Nat→List V→Bool:=λ _ _=>true
 dfr:Nat→Bool:=λ _=>false
 gives:Nat→Bool:=λ _=>false
 pend:Nat→Nat→Option Nat:=λ _ _=>none
 flat:Nat→Nat→List Nat:=λ _ _=>[]
 bare:Nat→Nat→Bool:=λ _ _=>false
 typed:Nat→Nat→Bool:=λ _ _=>false
 tagS:Nat→Nat→Nat:=λ _ _=>0
 nat:Nat→List V→St→Option (Out×St):=λ _ _ _=>none
 own:Nat→Nat→Bool:=λ _ _=>false
 thaw:Nat→Nat→Bool:=λ _ _=>false
 grow:Nat→Option Nat:=λ _=>none
 nils:Nat→Nat→Bool:=λ _ _=>false
def zf{α:Type}:List (Nat×α)→Nat→Option α
 | [],_=>none
 | (j,x)::r,i=>bif Nat.beq j i then some x else zf r i
def vx{α:Type}:List (Nat×α)→Nat→α→List (Nat×α)
 | [],i,y=>[(i,y)]
 | (j,x)::r,i,y=>bif Nat.beq j i then (i,y)::r else (j,x)::vx r i y
def D.cells:D→List D
 | .agg l=>l
 | x=>[x]
def V.cells:V→List V
 | .d (.agg l)=>l.map .d
 | .agg l=>l
 | v=>[v]
def zcm:List V→Option (List D)
 | []=>some []
 | .d x::r=>(match zcm r with | some l=>some (x::l) | none=>none)
 | _::_=>none
def za4(l:List V):V:=match zcm l with | some ds=>.d (.agg ds) | none=>.agg l
mutual
def V.ids:V→List Nat
 | .d _ | .eptr .. | .gptr .. | .mfunc ..=>[]
 | .ptr id _ | .sl _ _ id | .slo id _ _ | .wptr id _ _ _ _ | .map id=>[id]
 | .agg l | .func _ l | .tup l=>V.idsL l
 | .iface _ v=>v.ids
def V.idsL:List V→List Nat
 | []=>[]
 | v::r=>v.ids++V.idsL r
end
mutual
def V.ren(f:Nat→Nat):V→V
 | .d x=>.d x
 | .eptr x o=>.eptr x o
 | .gptr g o=>.gptr g o
 | .mfunc g l=>.mfunc g l
 | .ptr id o=>.ptr (f id) o
 | .sl s l id=>.sl s l (f id)
 | .slo id sz k=>.slo (f id) sz k
 | .wptr id sz k i off=>.wptr (f id) sz k i off
 | .map id=>.map (f id)
 | .agg l=>.agg (V.renL f l)
 | .func g l=>.func g (V.renL f l)
 | .tup l=>.tup (V.renL f l)
 | .iface t v=>.iface t (v.ren f)
def V.renL(f:Nat→Nat):List V→List V
 | []=>[]
 | v::r=>v.ren f::V.renL f r
end
def Ob.ids:Ob→List Nat
 | .val _ v=>v.ids
 | _=>[]
def Ob.ren(f:Nat→Nat):Ob→Ob
 | .val n v=>.val n (v.ren f)
 | o=>o
def w6(σ:St):Nat→List Nat→List Nat→List Nat
 | 0,_,seen=>seen.reverse
 | _,[],seen=>seen.reverse
 | n+1,i::todo,seen=>
  bif seen.elem i then w6 σ n todo seen
  else match zf σ i with
   | some o=>w6 σ n (o.ids++todo) (i::seen)
   | none=>w6 σ n todo seen
def xe:List Nat→Nat→Nat
 | [],_=>0
 | j::r,i=>bif Nat.beq j i then 0 else xe r i+1
def za8:List Nat→Nat→Nat
 | [],_=>0
 | j::_,0=>j
 | _::r,i+1=>za8 r i
section
variable {R:Type}
def asB(v:V)(K:Bool→Option R):Option R:=match v with | .d (.bool b)=>K b | _=>none
def asInt(x:D)(k:IntKind)(K:Int→Option R):Option R:=match x with | .int k' n=>bif decide (k'=k) then K n else none | _=>none
def asBool(x:D)(K:Bool→Option R):Option R:=match x with | .bool b=>K b | _=>none
def zj2(x:D)(K:List UInt8→Option R):Option R:=match x with | .str s=>K s | _=>none
def zr8(x:D)(sz:Nat)(K:List D→Option R):Option R:=match x with | .sl s l=>bif Nat.beq s sz||l.isEmpty then K l else none | _=>none
def asAgg(x:D)(n:Nat)(K:D→Option R):Option R:=match x with | .agg l=>bif Nat.beq l.length n then K x else none | _=>none
def asD(v:V)(K:D→Option R):Option R:=match v with | .d x=>K x | _=>none
def vh(l:List D)(i:Nat)(K:D→Option R):Option R:=match l[i]? with | some x=>K x | none=>none
def zc4(x:D)(off:Nat):Nat→(List D→Option R)→Option R
 | 0,K=>K []
 | n+1,K=>vh x.cells off λ c=>zc4 x (off+1) n λ l=>K (c::l)
def zq5(l:List V)(i:Nat)(K:V→Option R):Option R:=match l[i]? with | some x=>K x | none=>none
def unc(l:List V)(K:V→List V→Option R):Option R:=match l with | v::r=>K v r | []=>none
def unn(l:List V)(K:Option R):Option R:=match l with | []=>K | _=>none
def zmr(v:V)(K:List V→Option R):Option R:=match v with | .tup l=>K l | _=>none
def zh(b:Bool)(K:Option R):Option R:=bif b then K else none
def zby(P:Program)(t:Nat)(x:D)(K:V→Option R):Option R:=
 match P.underlying t with
 | some (.int k)=>asInt x k λ n=>K (.d (.int k n))
 | some .bool=>asBool x λ b=>K (.d (.bool b))
 | some .string=>zj2 x λ s=>K (.d (.str s))
 | some (.slice e)=>zr8 x (P.cellsOf e) λ l=>K (.d (.sl (P.cellsOf e) l))
 | some (.struct _) | some (.array ..)=>asAgg x (P.cellsOf t) λ y=>K (.d y)
 | some _=>(match x with | .agg _=>none | y=>K (.d y))
 | none=>none
def xv(P:Program)(t:Nat):Bool:=match P.underlying t with | some (.struct _) | some (.array ..)=>true | _=>false
def qg(P:Program)(t:Nat):Bool:=match P.underlying t with | some _=>true | none=>false
def V.aggV:V→Bool | .agg _=>true | _=>false
def V.aggish:V→Bool | .agg _ | .d (.agg _)=>true | _=>false
def V.tupV:V→Bool | .tup _=>true | _=>false
def zb2(P:Program)(t:Nat)(v:V)(K:V→Option R):Option R:=
 match v with
 | .d x=>zby P t x K
 | v=>zh (v.aggV == xv P t&&!v.tupV) (K v)
end
def zeroCells(P:Program):Nat→Nat→Option (List D)
 | 0,_=>none
 | n+1,t=>
  match P.underlying t with
  | some (.int k)=>some [.int k 0]
  | some .bool=>some [.bool false]
  | some .string=>some [.str []]
  | some (.slice e)=>some [.sl (P.cellsOf e) []]
  | some (.pointer _)=>some [.nilptr]
  | some (.map ..)=>some [.nilmap]
  | some (.func ..)=>some [.nilfunc]
  | some (.interface _)=>some [.nilIface]
  | some (.struct fs)=>fs.toList.foldr (λ f acc=>match acc,zeroCells P n f.type with | some l,some k=>some (k++l) | _,_=>none) (some [])
  | some (.array k e)=>(match zeroCells P n e with | some l=>some (List.replicate k l).flatten | none=>none)
  | _=>none
def yd:List Value→List D→Bool
 | [],[]=>true
 | .int k n::r,.int k' n'::q=>decide (k=k')&&decide (n=n')&&yd r q
 | .bool b::r,.bool b'::q=>decide (b=b')&&yd r q
 | .string s::r,.str []::q=>Nat.beq s.size 0&&yd r q
 | .slice none 0 0::r,.sl _ []::q=>yd r q
 | .pointer none::r,.nilptr::q=>yd r q
 | .map none::r,.nilmap::q=>yd r q
 | .nilFunc::r,.nilfunc::q=>yd r q
 | .nilIface::r,.nilIface::q=>yd r q
 | _,_=>false
def zsb:Value→Bool | .agg _=>true | _=>false
def zeroOf(P:Program)(t:Nat):Option (List D):=
 match P.info? t,zeroCells P 8 t with
 | some i,some l=>(match i.zero with | some z=>bif qg P t&&zsb z == xv P t&&yd z.cells.toList l&&Nat.beq l.length i.size then some l else none | none=>none)
 | _,_=>none
def wn(P:Program)(t:Nat)(l:List D):D:=bif xv P t then .agg l else (match l with | [x]=>x | _=>.nilIface)
def ztv:Value→Option D
 | .int k n=>some (.int k n)
 | .bool b=>some (.bool b)
 | .string s=>some (.str s.data.toList)
 | .slice none 0 0=>some (.sl 0 [])
 | .pointer none=>some .nilptr
 | .map none=>some .nilmap
 | .nilFunc=>some .nilfunc
 | .nilIface=>some .nilIface
 | _=>none
def zp2:List Value→Option (List D)
 | []=>some []
 | v::r=>(match ztv v,zp2 r with | some x,some l=>some (x::l) | _,_=>none)
def ztu:Value→Option V
 | .int k n=>some (.d (.int k n))
 | .bool b=>some (.d (.bool b))
 | .string s=>some (.d (.str s.data.toList))
 | .pointer none=>some (.d .nilptr)
 | .map none=>some (.d .nilmap)
 | .nilFunc=>some (.d .nilfunc)
 | .nilIface=>some (.d .nilIface)
 | .agg cs=>(match zp2 cs.toList with | some l=>some (.d (.agg l)) | none=>none)
 | _=>none
def opd(fr:Fr):Operand→Option V
 | .tmp t=>zf fr t
 | .const v=>ztu v
 | .global g=>some (.gptr g 0)
 | .func f=>some (.func f [])
def zct(P:Program)(t:Nat)(fr:Fr)(x:Operand):Option V:=
 match x with
 | .const (.slice none 0 0)=>(match P.underlying t with | some (.slice e)=>some (.d (.sl (P.cellsOf e) [])) | _=>none)
 | x=>opd fr x
inductive Oc where
 | val (v:V)
 | pan (v:V)
abbrev De:=List (Nat×Ob)
def wa:V:=.tup []
def ze(σ:St):De→St
 | []=>σ
 | (i,o)::r=>ze (vx σ i o) r
def xf(op:BinOp)(k:IntKind)(x y:Int):Int:=
 let a:=BitVec.ofInt k.bits x
 let b:=BitVec.ofInt k.bits y
 k.wrap ((match op with | .and=>a &&& b | .or=>a ||| b | .xor=>a ^^^ b | _=>a &&& ~~~b).toNat)
section
variable {R:Type}
def zob(op:BinOp)(k:IntKind)(a b:Int)(K:V→Option R):Option R:=
 match op with
 | .add=>K (.d (.int k (k.wrap (a+b))))
 | .sub=>K (.d (.int k (k.wrap (a - b))))
 | .mul=>K (.d (.int k (k.wrap (a * b))))
 | .quo=>zh (!decide (b=0)) (K (.d (.int k (k.wrap (a.tdiv b)))))
 | .rem=>zh (!decide (b=0)) (K (.d (.int k (a.tmod b))))
 | .and=>K (.d (.int k (xf .and k a b)))
 | .or=>K (.d (.int k (xf .or k a b)))
 | .xor=>K (.d (.int k (xf .xor k a b)))
 | .andNot=>K (.d (.int k (xf .andNot k a b)))
 | .eql=>K (.d (.bool (decide (a=b))))
 | .neq=>K (.d (.bool (!decide (a=b))))
 | .lss=>K (.d (.bool (decide (a<b))))
 | .leq=>K (.d (.bool (decide (a≤b))))
 | .gtr=>K (.d (.bool (decide (b<a))))
 | .geq=>K (.d (.bool (decide (b≤a))))
 | _=>none
def znn(op:BinOp)(a b:List UInt8)(K:V→Option R):Option R:=
 match op with
 | .add=>zh (decide (a.length+b.length≤4611686018427387904)) (K (.d (.str (a++b))))
 | .eql=>K (.d (.bool (decide (a=b))))
 | .neq=>K (.d (.bool (!decide (a=b))))
 | .lss=>K (.d (.bool (Op.bytesLess a b)))
 | .leq=>K (.d (.bool (Op.bytesLess a b||decide (a=b))))
 | .gtr=>K (.d (.bool (!(Op.bytesLess a b||decide (a=b)))))
 | .geq=>K (.d (.bool (!Op.bytesLess a b)))
 | _=>none
def zd7(op:BinOp)(k:IntKind)(a b:Int)(K:V→Option R):Option R:=
 match op with
 | .shl=>zh (!decide (b<0)) (K (.d (.int k (k.wrap (a * 2 ^ (min b.toNat k.bits))))))
 | .shr=>zh (!decide (b<0)) (K (.d (.int k (a.fdiv (2 ^ (min b.toNat k.bits))))))
 | _=>none
def eqV(op:BinOp)(b:Bool)(K:V→Option R):Option R:=
 match op with
 | .eql=>K (.d (.bool b))
 | .neq=>K (.d (.bool (!b)))
 | _=>none
def isIface(P:Program)(t:Nat):Bool:=match P.underlying t with | some (.interface _)=>true | _=>false
def isBool(P:Program)(t:Nat):Bool:=match P.underlying t with | some .bool=>true | _=>false
def isPtr(P:Program)(t:Nat):Bool:=match P.underlying t with | some (.pointer _)=>true | _=>false
def zs7(P:Program)(t:Nat):Bool:=match P.underlying t with | some (.pointer e)=>(P.info? e).isSome | _=>false
def zfb(P:Program)(t:Nat):Bool:=match P.underlying t with
 | some (.struct fs)=>(match fs.toList with
  | [f,g]=>(match P.underlying f.type,P.underlying g.type with
   | some (.int _), some (.int _) => Nat.beq f.offset 0 && Nat.beq g.offset 1 && !(f.name == "_") && !(g.name == "_") && !P.stoodInHeld t
   | _,_=>false)
  | _=>false)
 | _=>false
def eq2:List D→List D→Option Bool
 | [.int k a,.int l b],[.int k' c,.int l' d]=>bif decide (k=k')&&decide (l=l') then some (decide (a=c)&&decide (b=d)) else none
 | _,_=>none
def zwi(P:Program)(cst:Bool)(op:BinOp)(t:Nat)(x y:V)(K:V→Option R):Option R:=
 match x,y with
 | .d (.int k a),.d (.int k' b)=>
  (match op with
   | .shl=>zd7 .shl k a b K
   | .shr=>zd7 .shr k a b K
   | op=>bif decide (k=k') then zob op k a b K else none)
 | .d (.str a),.d (.str b)=>znn op a b K
 | .d (.bool a),.d (.bool b)=>zh (isBool P t) (eqV op (a == b) K)
 | .d (.iface ..),.d .nilIface=>zh (isIface P t) (eqV op false K)
 | .iface ..,.d .nilIface=>zh (isIface P t) (eqV op false K)
 | .d .nilIface,.d .nilIface=>zh (isIface P t&&cst) (eqV op true K)
 | .ptr ..,.d .nilptr=>zh (isPtr P t) (eqV op false K)
 | .d .nilptr,.d .nilptr=>zh (isPtr P t) (eqV op true K)
 | .ptr i a,.ptr j b=>zh (zs7 P t&&Nat.beq i j&&Nat.beq a b) (eqV op true K)
 | .d (.agg a),.d (.agg b)=>zh (zfb P t&&!P.eqGuardType P.depth t) (match eq2 a b with | some r=>eqV op r K | none=>none)
 | _,_=>none
def unV(op:UnOp)(x:V)(K:V→Option R):Option R:=
 match op,x with
 | .not,.d (.bool b)=>K (.d (.bool (!b)))
 | .neg,.d (.int k n)=>K (.d (.int k (k.wrap (0 - n))))
 | _,_=>none
def dataOf(v:V)(K:Nat→List D→Option R):Option R:=
 match v with
 | .d (.sl sz l)=>K sz l
 | .sl sz l _=>K (szN sz) l
 | .d (.str s)=>K 1 (s.map λ b=>.int .u8 b.toNat)
 | _=>none
def zjz(v:V)(K:Nat→List D→Option R):Option R:=
 match v with
 | .d (.sl sz l)=>K sz l
 | .sl sz l _=>K (szN sz) l
 | _=>none
def bytesOf:List D→Option (List UInt8)
 | []=>some []
 | .int .u8 n::r=>(match bytesOf r with | some l=>some (UInt8.ofNat n.toNat::l) | none=>none)
 | _=>none
def zox(P:Program)(src dst:Nat)(x:V)(K:V→Option R):Option R:=
 match P.underlying src,P.underlying dst,x with
 | some (.int _),some (.int k),.d (.int _ n)=>K (.d (.int k (k.wrap n)))
 | some .string,some .string,.d (.str s)=>K (.d (.str s))
 | some (.slice e),some .string,v=>
  (match P.underlying e with
   | some (.int .u8)=>zjz v λ sz l=>zh (Nat.beq sz 1||l.isEmpty) (match bytesOf l with | some s=>K (.d (.str s)) | none=>none)
   | _=>none)
 | _,_,_=>none
def zig(P:Program)(t:Nat)(ok:Bool)(x:V)(K:V→Option R):Option R:=
 zh (qg P t&&!isIface P t) (match x with
  | .d (.iface t' y)=>bif Nat.beq t' t then K (bif ok then .tup [.d y,.d (.bool true)] else .d y) else none
  | _=>none)
def bound(v:Option V)(y dflt:Nat)(K:Nat→Option R):Option R:=
 match v with
 | none=>K dflt
 | some (.d (.int _ i))=>zh (decide (0≤i)&&decide (i≤(y:Int))) (K i.toNat)
 | some _=>none
def index(v:V)(n:Nat)(K:Nat→Option R):Option R:=
 match v with
 | .d (.int _ i)=>zh (decide (0≤i)&&decide (i<(n:Int))) (K i.toNat)
 | _=>none
end
def zok(place:Nat→Option (Nat×Nat))(cells:List V):List (Nat×V)→Option (List V)
 | []=>some cells
 | (i,v)::rest=>
  match place i with
  | none=>none
  | some (off,size)=>bif !v.tupV&&Nat.beq v.cells.length size&&Nat.ble (off+size) cells.length then zok place (cells.take off++v.cells++cells.drop (off+size)) rest else none
def fieldAt(P:Program)(t f:Nat):Option (Nat×Nat):=
 match P.underlying t with
 | some (.struct fs)=>(match fs[f]? with | some x=>some (x.offset,x.type) | none=>none)
 | _=>none
def placeOf(P:Program)(t i:Nat):Option (Nat×Nat):=
 match P.underlying t with
 | some (.struct fs)=>(match fs[i]? with | some x=>some (x.offset,P.cellsOf x.type) | none=>none)
 | some (.array _ e)=>some (i * P.cellsOf e,P.cellsOf e)
 | _=>none
def zdu(P:Program)(t:Nat):Bool:=
 match P.underlying t with
 | some (.struct fs)=>fs.toList.all λ f=>qg P f.type
 | some (.array _ e)=>qg P e
 | _=>false
def z02(P:Program)(t i:Nat):Nat:=
 match P.underlying t with
 | some (.struct fs)=>(match fs[i]? with | some x=>x.type | none=>0)
 | some (.array _ e) | some (.slice e)=>e
 | _=>0
def zh0(P:Program)(fr:Fr)(t:Nat):List (Nat×Operand)→Option (List (Nat×V))
 | []=>some []
 | (i,x)::r=>(match zct P (z02 P t i) fr x,zh0 P fr t r with | some v,some l=>some ((i,v)::l) | _,_=>none)
def vq(P:Program)(fr:Fr):List Operand→List Nat→Option (List V)
 | [],_=>some []
 | x::r,ts=>(match zct P (ts.headD 0) fr x,vq P fr r ts.tail with | some v,some l=>some (v::l) | _,_=>none)
def qw:Operand→Bool | .const (.slice none 0 0)=>true | _=>false
def zt8:Operand→Nat | .tmp t=>t | _=>0
def zg6:List Operand→Bool
 | []=>false
 | x::r=>qw x||zg6 r
def zab(P:Program)(fr:Fr)(id:Nat):List Operand→List Nat→Option (List V)
 | [],_=>some []
 | x::r,ts=>
  match zab P fr id r ts.tail with
  | none=>none
  | some l=>
   match x with
   | .const (.slice none 0 0)=>(match P.underlying (ts.headD 0) with | some (.slice e)=>some (.sl (P.cellsOf e) [] id::l) | _=>none)
   | x=>(match opd fr x with | some v=>some (v::l) | none=>none)
def V.handed:V→V
 | .sl sz l _=>.d (.sl (szN sz) l)
 | v=>v
def ze5(v:V):Option D:=
 match v with
 | .d x=>some x
 | .sl sz l _=>some (.sl (szN sz) l)
 | .agg l=>(match zcm (l.map V.handed) with | some ds=>some (.agg ds) | none=>none)
 | _=>none
def za0(P:Program)(e:Nat)(l:List D):List (Nat×V)→Option (List D)
 | []=>some l
 | (i,v)::r=>(match ze5 v with
  | some x=>bif Nat.beq x.cells.length (P.cellsOf e)&&Nat.blt i l.length then za0 P e (l.set i x) r else none
  | none=>none)
def zi7:D→D→Option Bool
 | .str s,.str t=>some (decide (s=t))
 | .int k n,.int k' m=>bif decide (k=k') then some (decide (n=m)) else none
 | .agg a,.agg b=>eq2 a b
 | _,_=>none
def zah(x:D):List D→Nat→Option (Option Nat)
 | [],_=>some none
 | k::ks,i=>match zi7 x k with | some b=>bif b then some (some i) else zah x ks (i+1) | none=>none
def zrg(P:Program)(kt:Nat)(x:D):Bool:=
 match P.underlying kt,x with
 | some .string,.str _=>true
 | some (.int k),.int k' _=>decide (k'=k)
 | some (.struct _),.agg [.int _ _,.int _ _]=>zfb P kt
 | _,_=>false
def zu(tg:Nat):List D→Nat→Nat→List V×De
 | [],_,_=>([],[])
 | .sl sz []::r,id,nt=>(.sl (szN sz+1048576 * tg) [] id::(zu tg r (id+nt) nt).1,(id,.tok 0)::(zu tg r (id+nt) nt).2)
 | x::r,id,nt=>(.d x::(zu tg r (id+nt) nt).1,(zu tg r (id+nt) nt).2)
def z8(σ:St):De→Bool
 | []=>true
 | (i,_)::r=>(match zf σ i with | none=>true | some _=>false)&&r.all (λ p=>!Nat.beq p.1 i)&&z8 σ r
section
variable {R:Type}
def za{α:Type}(o:Option α)(K:α→Option R):Option R:=match o with | some x=>K x | none=>none
def zk3{α:Type}(o:Option α)(K:α→Option R)(E:Option R):Option R:=match o with | some x=>K x | none=>E
def zcv(cx:Cx)(σ:St)(t:Nat)(p:V)(K:V→List Nat→Option R):Option R:=
 zh (qg cx.P t) <| match p with
 | .ptr id off=>
  (match zf σ id with
   | some (.val n v)=>
    bif Nat.beq off 0&&Nat.beq (szN n) (cx.P.cellsOf t) then zb2 cx.P t v λ v=>K v [id]
    else bif xv cx.P t then zh (Nat.ble (off+cx.P.cellsOf t) (szN n)) (K (za4 ((v.cells.drop off).take (cx.P.cellsOf t))) [id])
    else zq5 v.cells off λ c=>zb2 cx.P t c λ v=>K v [id]
   | _=>none)
 | .eptr x off=>
  bif xv cx.P t then zc4 x off (cx.P.cellsOf t) λ l=>K (.d (.agg l)) []
  else vh x.cells off λ c=>zby cx.P t c λ v=>K v []
 | .wptr id _ k i off=>
  (match zf σ id with
   | some (.row l)=>zh (Nat.beq k l.length) (vh l i λ x=>
    bif xv cx.P t then zc4 x off (cx.P.cellsOf t) λ r=>K (.d (.agg r)) [id]
    else vh x.cells off λ c=>zby cx.P t c λ v=>K v [id])
   | _=>none)
 | .gptr g off=>
  za (cx.glob g) λ x=>
   bif xv cx.P t then zh (Nat.ble (off+cx.P.cellsOf t) x.cells.length) (K (.d (.agg ((x.cells.drop off).take (cx.P.cellsOf t)))) [])
   else vh x.cells off λ c=>zby cx.P t c λ v=>K v []
 | _=>none
def qi(cx:Cx)(σ:St)(t:Nat)(p v:V)(K:De→List Nat→Option R):Option R:=
 match p with
 | .ptr id off=>
  (match zf σ id with
   | some (.val n u)=>
    bif Nat.beq off 0&&Nat.beq (szN n) (cx.P.cellsOf t) then zh (!v.tupV&&Nat.beq v.cells.length (szN n)) (K [(id,.val n v)] [id])
    else zh (!v.tupV&&Nat.beq v.cells.length (cx.P.cellsOf t)&&Nat.ble (off+cx.P.cellsOf t) (szN n)&&Nat.beq u.cells.length (szN n))
     (K [(id,.val n (za4 (u.cells.take off++v.cells++u.cells.drop (off+cx.P.cellsOf t))))] [id])
   | _=>none)
 | .wptr id sz k i off=>
  (match zf σ id with
   | some (.row l)=>zh (Nat.beq k l.length&&Nat.beq off 0&&Nat.beq sz (cx.P.cellsOf t)) (za (ze5 v) λ y=>zh (Nat.beq y.cells.length sz&&!v.tupV) (K [(id,.row (l.set i y))] [id]))
   | _=>none)
 | _=>none
def zbv(cx:Cx)(σ:St)(site t:Nat)(p:V)(K:De→List Nat→Option R):Option R:=
 match cx.P.underlying t with
 | some (.slice e)=>zh (qg cx.P t&&z8 σ [(site,.tok 0)]) <| qi cx (vx σ site (.tok 0)) t p (.sl (cx.P.cellsOf e) [] site) λ δ fp=>K ((site,.tok 0)::δ) (site::fp)
 | _=>none
def zer(P:Program):List Nat→List V→(List V→Option R)→Option R
 | [],vs,K=>unn vs (K [])
 | t::ts,vs,K=>unc vs λ v r=>zb2 P t v λ v'=>zer P ts r λ l=>K (v'::l)
def zes(P:Program)(t:Nat)(v:V)(K:V→Option R):Option R:=
 match P.underlying t with
 | some (.tuple ts)=>(match ts.toList with | []=>K v | ts=>zmr v λ vs=>zer P ts vs λ l=>K (.tup l))
 | _=>zb2 P t v K
def zlh(old new:V)(K:V→Option R):Option R:=
 match old with
 | .d (.int k _)=>asD new λ x=>asInt x k λ n=>K (.d (.int k n))
 | .d (.bool _)=>asD new λ x=>asBool x λ b=>K (.d (.bool b))
 | .d (.str _)=>asD new λ x=>zj2 x λ s=>K (.d (.str s))
 | .d (.sl sz _)=>asD new λ x=>zr8 x sz λ l=>K (.d (.sl sz l))
 | .d .nilptr=>K new
 | .d _=>asD new λ x=>K (.d x)
 | .sl sz _ id=>(match new with | .sl sz' l id'=>bif Nat.beq sz sz'&&Nat.beq id id' then K (.sl sz l id) else none | _=>none)
 | _=>K new
def zlj:List V→List V→(List V→Option R)→Option R
 | [],new,K=>unn new (K [])
 | o::os,new,K=>unc new λ v r=>zlh o v λ v'=>zlj os r λ l=>K (v'::l)
def zn6(old new:Ob)(K:Ob→Option R):Option R:=
 match old,new with
 | .val n (.agg l),.val n' v=>zh (Nat.beq n n') (match v with | .agg l'=>zlj l l' λ r=>K (.val n (.agg r)) | v=>K (.val n v))
 | .val n v,.val n' v'=>zh (Nat.beq n n') (zlh v v' λ u=>K (.val n u))
 | _,new=>K new
def qu(ren:List Nat)(σ σ':St):Nat→List Nat→(De→Option R)→Option R
 | _,[],K=>K []
 | k,i::r,K=>za (zf σ i) λ old=>za (zf σ' k) λ new=>zn6 old (new.ren (za8 ren)) λ o=>qu ren σ σ' (k+1) r λ δ=>K ((i,o)::δ)
def xd(σ:St)(ren:List Nat):Nat→List Nat→St
 | _,[]=>[]
 | k,i::r=>(match zf σ i with | some o=>(k,o.ren (xe ren))::xd σ ren (k+1) r | none=>xd σ ren (k+1) r)
def nodupB:List Nat→Bool
 | []=>true
 | i::r=>!r.elem i&&nodupB r
def closedIn(σ:St)(ids:List Nat)(ren:List Nat):Bool:=
 nodupB ren&&ids.all (ren.elem ·)&&ren.all λ i=>match zf σ i with | some o=>o.ids.all (ren.elem ·) | none=>false
def vi(cx:Cx)(call:Nat→List V→St→Option (Out×St))(σ:St)(t f:Nat)(args:List V)(xs:List Nat)(K:Oc→De→List Nat→Option R):Option R:=
 let ren:=w6 σ 1000 (V.idsL args++xs) []
 zh (closedIn σ (V.idsL args++xs) ren) <| zh (cx.dom f (V.renL (xe ren) args)) <| match call f (V.renL (xe ren) args) (xd σ ren 0 ren) with
 | some (.ret v,σ')=>qu ren σ σ' 0 ren λ δ=>zes cx.P t (v.ren (za8 ren)) λ v=>K (.val v) δ ren
 | some (.pan v,σ')=>qu ren σ σ' 0 ren λ δ=>K (.pan (v.ren (za8 ren))) δ ren
 | none=>none
def V.handed2:V→V
 | .agg l=>(match ze5 (.agg l) with | some x=>.d x | none=>.agg l)
 | v=>v.handed
def qy(keep:Bool)(l:List V):List V:=bif keep then l else l.map V.handed2
def zdd(cx:Cx)(σ:St)(site t:Nat)(s x:V)(qw:Bool)(K:V→De→List Nat→Option R):Option R:=
 match cx.P.underlying t with
 | some (.slice e)=>
  dataOf x λ sz' ys=>zh ((Nat.beq sz' (cx.P.cellsOf e)||ys.isEmpty)&&Nat.ble (cx.P.bytesOf e) 4096&&(zeroOf cx.P e).isSome)
   (bif qw then
    zh (z8 σ [(site,.tok 0)]&&decide (ys.length≤4294967296)&&Nat.blt (cx.P.cellsOf e) 1048576) (K (.sl (cx.P.cellsOf e) ys site) [(site,.tok ys.length)] [site])
   else match s with
    | .sl sz l id=>
     (match zf σ id with
      | some (.tok n)=>zh (Nat.beq (szN sz) (cx.P.cellsOf e)&&zy4 sz e&&decide (n=l.length)&&decide (l.length+ys.length≤4294967296))
       (K (.sl sz (l++ys) id) [(id,.tok (l.length+ys.length))] [id])
      | _=>none)
    | .slo id sz k=>
     (match zf σ id with
      | some (.row l)=>zh (Nat.beq sz (cx.P.cellsOf e)&&Nat.beq k l.length&&decide (l.length+ys.length≤4294967296)) (K (.slo id sz (l.length+ys.length)) [(id,.row (l++ys))] [id])
      | _=>none)
    | _=>none)
 | _=>none
def zd6(cx:Cx)(σ:St)(site t:Nat)(x:V)(lo hi mx:Option V)(K:V→De→List Nat→Option R):Option R:=
 match cx.P.underlying t with
 | some .string=>(match x,mx with
  | .d (.str s),none=>bound hi s.length s.length λ h=>bound lo h 0 λ l=>K (.d (.str ((s.take h).drop l))) [] []
  | _,_=>none)
 | some (.slice e)=>zh (qg cx.P e) (zjz x λ sz xs=>zh (Nat.beq sz (cx.P.cellsOf e)||xs.isEmpty)
  (match mx with
   | none=>bound hi xs.length xs.length λ h=>bound lo h 0 λ l=>K (.d (.sl (cx.P.cellsOf e) ((xs.take h).drop l))) [] []
   | some m=>zh hi.isSome <| bound (some m) xs.length 0 λ m'=>bound hi m' m' λ h=>bound lo h 0 λ l=>
    bif Nat.beq m' l then zh (z8 σ [(site,.tok 0)]&&Nat.blt (cx.P.cellsOf e) 1048576) (K (.sl (cx.P.cellsOf e) [] site) [(site,.tok 0)] [site])
    else K (.d (.sl (cx.P.cellsOf e) ((xs.take h).drop l))) [] []))
 | _=>none
def lenV(cx:Cx)(σ:St)(t:Nat)(x:V)(K:V→List Nat→Option R):Option R:=
 match cx.P.underlying t,x with
 | some .string,.d (.str s)=>K (.d (.int .i64 s.length)) []
 | some (.slice _),.d (.sl _ l) | some (.slice _),.sl _ l _=>K (.d (.int .i64 l.length)) []
 | some (.slice _),.slo _ _ n=>K (.d (.int .i64 n)) []
 | some (.array n _),_=>K (.d (.int .i64 n)) []
 | some (.map ..),.d (.map ks _)=>K (.d (.int .i64 ks.length)) []
 | some (.map ..),.map id=>(match zf σ id with | some (.map ks _)=>K (.d (.int .i64 ks.length)) [id] | _=>none)
 | some (.map ..),.d .nilmap=>K (.d (.int .i64 0)) []
 | _,_=>none
def zbk(cx:Cx)(t:Nat)(x i:V)(K:V→Option R):Option R:=
 match cx.P.underlying t with
 | some (.slice e)=>zh (qg cx.P e) (match x with
  | .d (.sl sz l)=>index i l.length λ j=>vh l j λ y=>zh (Nat.beq sz (cx.P.cellsOf e)) (K (.eptr y 0))
  | .sl sz l _=>index i l.length λ j=>vh l j λ y=>zh (Nat.beq (szN sz) (cx.P.cellsOf e)) (K (.eptr y 0))
  | .slo id sz k=>index i k λ j=>zh (Nat.beq sz (cx.P.cellsOf e)) (K (.wptr id sz k j 0))
  | _=>none)
 | some (.array n e)=>zh (qg cx.P e) (match x with
  | .ptr id off=>index i n λ j=>K (.ptr id (off+j * cx.P.cellsOf e))
  | .eptr y off=>index i n λ j=>K (.eptr y (off+j * cx.P.cellsOf e))
  | .gptr g off=>index i n λ j=>K (.gptr g (off+j * cx.P.cellsOf e))
  | _=>none)
 | _=>none
def zbl(cx:Cx)(s:Nat)(x:V)(f:Nat)(K:V→Option R):Option R:=
 za (fieldAt cx.P s f) λ p=>zh (!Nat.beq (cx.P.cellsOf p.2) 0)
  (match x with
   | .ptr id off=>K (.ptr id (off+p.1))
   | .eptr y off=>K (.eptr y (off+p.1))
   | .gptr g off=>K (.gptr g (off+p.1))
   | .wptr id sz k i off=>K (.wptr id sz k i (off+p.1))
   | _=>none)
def zhx(cx:Cx)(t:Nat)(v:V)(off:Nat)(K:V→Option R):Option R:=
 zh (qg cx.P t&&v.aggish) <| bif xv cx.P t then zh (Nat.ble (off+cx.P.cellsOf t) v.cells.length) (K (za4 ((v.cells.drop off).take (cx.P.cellsOf t))))
 else zq5 v.cells off λ c=>zb2 cx.P t c K
def zi9(cx:Cx)(t:Nat)(x i:V)(K:V→Option R):Option R:=
 match cx.P.underlying t with
 | some .string=>(match x with
  | .d (.str s)=>index i s.length λ j=>za s[j]? λ b=>K (.d (.int .u8 b.toNat))
  | _=>none)
 | some (.array n e)=>index i n λ j=>zhx cx e x (j * cx.P.cellsOf e) K
 | _=>none
def zb8(cx:Cx)(σ:St)(t:Nat)(x k:V)(commaOk:Bool)(K:V→List Nat→Option R):Option R:=
 match cx.P.underlying t with
 | some (.map kt e)=>
  za (zeroOf cx.P e) λ z=>asD k λ key=>zh (zrg cx.P kt key)
   (let go (ks vs:List D) (fp:List Nat):Option R:=
    za (zah key ks 0) λ o=>zk3 o
     (λ i=>vh vs i λ y=>zby cx.P e y λ v=>K (bif commaOk then .tup [v,.d (.bool true)] else v) fp)
     (K (bif commaOk then .tup [.d (wn cx.P e z),.d (.bool false)] else .d (wn cx.P e z)) fp)
    match x with
    | .d (.map ks vs)=>go ks vs []
    | .d .nilmap=>go [] [] []
    | .map id=>(match zf σ id with | some (.map ks vs)=>go ks vs [id] | _=>none)
    | _=>none)
 | _=>none
def zb7(cx:Cx)(σ:St)(t:Nat)(m k v:V)(K:De→List Nat→Option R):Option R:=
 match cx.P.underlying t with
 | some (.map kt _)=>
  (match m with
   | .map id=>(match zf σ id with
    | some (.map ks vs)=>asD k λ key=>za (ze5 v) λ y=>zh (zrg cx.P kt key)
      (za (zah key ks 0) λ o=>zk3 o (λ i=>K [(id,.map ks (vs.set i y))] [id]) (K [(id,.map (ks++[key]) (vs++[y]))] [id]))
    | _=>none)
   | _=>none)
 | _=>none
def vm(cx:Cx)(σ:St)(site t:Nat)(l c:V)(K:V→De→List Nat→Option R):Option R:=
 match cx.P.underlying t,l,c with
 | some (.slice e),.d (.int .i64 n),.d (.int .i64 n')=>
  za (zeroOf cx.P e) λ z=>zh (decide (0≤n)&&decide (n≤n')&&decide (n'≤4294967296)&&!Nat.beq (cx.P.cellsOf e) 0&&Nat.ble (cx.P.bytesOf e) 4096&&z8 σ [(site,.tok 0)])
   (K (.slo site (cx.P.cellsOf e) n.toNat) [(site,.row (List.replicate n.toNat (wn cx.P e z)))] [site])
 | _,_,_=>none
def zgn(σ:St)(v:V)(K:V→De→List Nat→Option R):Option R:=
 match v with
 | .slo id sz k=>(match zf σ id with
   | some (.row l)=>zh (Nat.beq k l.length) (K (.d (.sl sz l)) [(id,.row (l++[.nilIface]))] [id])
   | _=>none)
 | _=>none
def zec(fr:Fr)(x:Option Operand)(K:Option V→Option R):Option R:=match x with | none=>K none | some x=>za (opd fr x) λ v=>K (some v)
def z4i:List (Nat×Operand)→Bool
 | [(_,.const (.agg _))]=>true
 | _=>false
def zfl(P : Program)(g : Nat) : Bool := match P.funcs[g]? with | some fn => fn.body.isNone && fn.name == "internal/abi.NoEscape" && fn.origin == "" | none => false
def zvf{R:Type}(l:List V)(K:V→Option R):Option R:=match l with | [v]=>K v | _=>none
def zxz(P:Program)(s t:Nat):Bool:=(match P.underlying s with | some .unsafePointer=>true | _=>false)||(match P.underlying t with | some .unsafePointer=>true | _=>false)
def z0i(P:Program)(s t n off:Nat):Bool:=
 match P.underlying s,P.underlying t with
 | some (.pointer e),some .unsafePointer=>(match P.info? e with | some j=>!Nat.beq j.size 0 | none=>false)&&Nat.blt off (szN n)
 | some .unsafePointer,some (.pointer u)=>(P.info? u).isSome&&!Nat.blt n 1048576&&liesAt P P.depth (n / 1048576 - 1) (szN n / P.cellsOf (n / 1048576 - 1)) off u 1
 | _,_=>false
def zma{R:Type}(cx:Cx)(σ:St)(s t:Nat)(a:V)(K:V→List Nat→Option R):Option R:=
 match a with
 | .ptr id off=>(match zf σ id with
   | some (.val n _)=>zh (z0i cx.P s t n off) (K (.ptr id off) [id])
   | _=>none)
 | _=>none
def zy3(cx:Cx)(nt:Nat)(dst:Option Nat)(e:Nat):Nat:=bif cx.typed nt (dst.getD 0) then cx.P.cellsOf e+1048576 * (e+1) else cx.P.cellsOf e
def z0q(b:Bool)(v:V):V:=bif b then v.handed2 else v
def zpq(cx:Cx)(nt:Nat)(dst:Option Nat)(ps:List (Nat×Operand)):Bool:=z4i ps||cx.bare nt (dst.getD 0)
def zgr{R:Type}(cx:Cx)(σ:St)(site g:Nat)(cap:List V)(args:List Operand)(fr:Fr)(K:Oc→De→List Nat→Option R):Option R:=
 match args with
 | [.const (.slice none 0 0),y]=>za (cx.grow g) λ e=>za (opd fr y) λ v=>(match v with
   | .d (.int .i64 n)=>zh (decide (0≤n)&&decide (n≤4294967296)&&cap.isEmpty&&z8 σ [(site,.tok 0)]&&Nat.blt (cx.P.cellsOf e) 1048576) (K (.val (.sl (cx.P.cellsOf e) [] site)) [(site,.tok 0)] [site])
   | _=>none)
 | _=>none
def xo(cx : Cx)(m nt : Nat)(call : Nat → List V → St → Option (Out × St))(o : Oper)(fr : Fr)(σ : St)(K : Oc → De → List Nat → Option R) : Option R :=
  let P := cx.P
  let site := m + o.dst.getD 0
  let val (v : V) : Option R := K (.val v) [] []
  match o.op with
  | .move x | .assign x =>
    (match x with
     | .const (.slice none 0 0) =>
       (match P.underlying o.type with
        | some (.slice e) => (match zf σ site with
          | none => bif cx.own nt (o.dst.getD 0) then K (.val (.slo site (P.cellsOf e) 0)) [(site, .row [])] [site] else K (.val (.sl (P.cellsOf e) [] site)) [(site, .tok 0)] [site]
          | some _ => K (.val (.d (.sl (P.cellsOf e) []))) [] [site])
        | _ => none)
     | x => za (opd fr x) λ v => bif cx.thaw nt (o.dst.getD 0) then zgn σ v λ v δ fp => K (.val v) δ fp else val v)
  | .pick c a b => za (opd fr c) λ c => asB c λ t => bif t then za (opd fr a) val else za (opd fr b) val
  | .alloc e => za (zeroOf P e) λ z =>
      let l := zu (cx.tagS nt (o.dst.getD 0)) z (site + nt) nt
      let δ := (site, Ob.val (zy3 cx nt o.dst e) (bif xv P e then za4 l.1 else l.1.headD wa)) :: l.2
      zh (z8 σ δ && !(bif xv P e then false else !Nat.beq l.1.length 1) && Nat.blt (P.cellsOf e) 1048576) (K (.val (.ptr site 0)) δ (δ.map (·.1)))
  | .box e x => za (zct P e fr x) λ v => zh (!v.tupV && Nat.beq v.cells.length (P.cellsOf e) && z8 σ [(site, .tok 0)] && Nat.blt (P.cellsOf e) 1048576) (K (.val (.ptr site 0)) [(site, .val (zy3 cx nt o.dst e) v)] [site])
  | .build t ps => bif cx.typed nt (o.dst.getD 0) then za (zeroOf P t) λ z => zh (ps.isEmpty && zdu P t && z8 σ (zu (cx.tagS nt (o.dst.getD 0)) z site nt).2)
        (K (.val (za4 (zu (cx.tagS nt (o.dst.getD 0)) z site nt).1)) (zu (cx.tagS nt (o.dst.getD 0)) z site nt).2 ((zu (cx.tagS nt (o.dst.getD 0)) z site nt).2.map (·.1)))
      else za (zeroOf P t) λ z => za (zh0 P fr t ps.toList) λ l => za (zok (placeOf P t) (z.map .d) l) λ cs => zh (zdu P t) (val (z0q (cx.bare nt (o.dst.getD 0)) (za4 cs)))
  | .buildSlice t n ps =>
    (match P.underlying t with
     | some (.slice e) => za (zeroOf P e) λ z => za (zh0 P fr t ps.toList) λ l => za (za0 P e (List.replicate n (wn P e z)) l) λ xs =>
        zh (z8 σ [(site, .tok 0)] && Nat.ble n 4096 && Nat.ble (P.cellsOf e) 4096 && !Nat.beq (P.cellsOf e) 0) (bif zpq cx nt o.dst ps.toList then K (.val (.d (.sl (P.cellsOf e) xs))) [] [site] else bif cx.own nt (o.dst.getD 0) then K (.val (.slo site (P.cellsOf e) n)) [(site, .row xs)] [site] else K (.val (.sl (P.cellsOf e) xs site)) [(site, .tok n)] [site])
     | _ => none)
  | .load t a => za (opd fr a) λ p => zcv cx σ t p λ v fp => K (.val v) [] fp
  | .store t a x => za (opd fr a) λ p => bif qw x && cx.nils nt (zt8 a) then zbv cx σ (m + zt8 a) t p (λ δ fp => K (.val wa) δ fp) else za (zct P t fr x) λ v => zh (qg P t) <| qi cx σ t p v λ δ fp => K (.val wa) δ fp
  | .nilCheck x => za (opd fr x) λ v => (match v with | .ptr .. | .eptr .. | .gptr .. | .wptr .. | .func .. | .mfunc .. => val v | _ => none)
  | .binOp op t x y _ => za (zct P t fr x) λ a => za (zct P t fr y) λ b => zwi P (match x, y with | .const _, _ => true | _, .const _ => true | _, _ => false) op t a b val
  | .unOp op _ x => za (opd fr x) λ a => unV op a val
  | .convert s t x => za (zct P s fr x) λ a =>
      (match P.underlying s, P.underlying t, a with
       | some (.slice _), some (.slice e), .sl sz l id => (match P.underlying e, zf σ id with
          | some (.int .u8), some (.tok n) => zh (Nat.beq s t && !l.isEmpty && decide (l.length = n)) (K (.val (.sl sz l id)) [(id, .tok n)] [id])
          | _, _ => none)
       | _, _, _ => bif zxz P s t then zma cx σ s t a (λ v fp => K (.val v) [] fp) else zox P s t a val)
  | .makeInterface t x => (match P.underlying t with
      | some (.interface _) => none
      | none => none
      | _ => za (zct P t fr x) λ v => (match ze5 v with | some y => val (.d (.iface t y)) | none => val (.iface t v)))
  | .makeFunc (.func f) first caps => bif first.isEmpty then (za (vq P fr caps.toList []) λ l => val (.func f l)) else zh caps.isEmpty (za (vq P fr first.toList []) λ l => za (zcm (l.map V.handed2)) λ ds => val (.mfunc f ds))
  | .makeMap _ none => zh (z8 σ [(site, .tok 0)]) (K (.val (.map site)) [(site, .map [] [])] [site])
  | .makeSlice t l c => za (opd fr l) λ l => za (opd fr c) λ c => vm cx σ site t l c λ v δ fp => K (.val v) δ fp
  | .slice t x lo hi mx =>
      za (zct P t fr x) λ a => zec fr lo λ l => zec fr hi λ h => zec fr mx λ mm => zd6 cx σ site t a l h mm λ v δ fp => K (.val v) δ fp
  | .fieldAddr s x f => za (opd fr x) λ v => zbl cx s v f val
  | .field t x f => za (opd fr x) λ v => za (fieldAt P t f) λ p => zhx cx p.2 v p.1 val
  | .indexAddr t x i => za (opd fr x) λ v => za (opd fr i) λ j => zbk cx t v j val
  | .index t x i => za (opd fr x) λ v => za (opd fr i) λ j => zi9 cx t v j val
  | .lookup t x i ok => za (opd fr x) λ v => za (opd fr i) λ k => zb8 cx σ t v k ok λ v fp => K (.val v) [] fp
  | .mapUpdate t mm k x | .insert t mm k x => za (opd fr mm) λ a => za (opd fr k) λ b => za (zct P (match P.underlying t with | some (.map _ e) => e | _ => 0) fr x) λ c => zb7 cx σ t a b c λ δ fp => K (.val wa) δ fp
  | .extract t i => za (opd fr t) λ v => zmr v λ l => zq5 l i val
  | .typeAssert x _ t ok => za (opd fr x) λ v => zig P t ok v val
  | .panic x => za (opd fr x) λ v => (match v with | .d (.iface ..) => K (.pan v) [] [] | _ => none)
  | .call c =>
    (match c.callee with
     | .value f => za (opd fr f) λ fv => (match fv with
        | .mfunc g first => za (vq P fr c.args.toList c.argTypes.toList) λ args => vi cx call σ o.type g (first.map .d ++ qy (cx.keep g) args) [] K
        | .func g cap => bif (cx.grow g).isSome then zgr cx σ site g cap c.args.toList fr K
          else bif zfl P g && cap.isEmpty then za (vq P fr c.args.toList c.argTypes.toList) λ l => zvf l val else bif cx.gives g
          then za (vq P fr c.args.toList c.argTypes.toList) λ l => zh (z8 σ [(site, .tok 0)]) (vi cx call (vx σ site (.tok 0)) o.type g (qy (cx.keep g) l ++ cap) [site] λ oc δ fp => K oc ((site, .tok 0) :: δ) (site :: fp))
          else bif cx.keep g && zg6 c.args.toList
          then za (zab P fr site c.args.toList c.argTypes.toList) λ l => zh (z8 σ [(site, .tok 0)]) (vi cx call (vx σ site (.tok 0)) o.type g (l ++ cap) [] λ oc δ fp => K oc ((site, .tok 0) :: δ) (site :: fp))
          else za (vq P fr c.args.toList c.argTypes.toList) λ args => vi cx call σ o.type g (qy (cx.keep g) args ++ cap) [] K
        | _ => none)
     | .builtin .len => (match c.args.toList, c.argTypes.toList with
        | [x], [t] => za (zct P t fr x) λ v => lenV cx σ t v λ v fp => K (.val v) [] fp
        | _, _ => none)
     | .builtin .append => (match c.args.toList, c.argTypes.toList with
        | [s, x], [t, t'] => za (zct P t fr s) λ a => za (zct P t' fr x) λ b => zh (match P.underlying t' with | some (.int _) => false | some _ => true | none => false)
            (zdd cx σ site t a b (qw s) λ v δ fp => K (.val v) δ fp)
        | _, _ => none)
     | _ => none)
  | _ => none
end
def zc1(fr:Fr)(dst:Option Nat)(v:V):Fr:=match dst with | some t=>(t,v)::fr | none=>fr
def zkq(ops:List Oper)(j:Nat):Option Nat:=match ops[j]? with | some o=>o.dst | none=>none
section
variable {R:Type}
def zak(ops:List Oper)(o:Oper)(fr:Fr)(yes no:Fr→Option R):Option R:=
 match o.guard with
 | none=>yes fr
 | some (j,want)=>
  match zkq ops j with
  | none=>no fr
  | some t=>
   match zf fr t with
   | some (.d (.bool b))=>bif b then (bif want then yes ((t,.d (.bool true))::fr) else no ((t,.d (.bool true))::fr))
     else (bif want then no ((t,.d (.bool false))::fr) else yes ((t,.d (.bool false))::fr))
   | some _=>no fr
   | none=>none
def zjx(nt:Nat):Option Nat→Bool | some d=>Nat.blt d nt | none=>true
def q6(cx:Cx)(m nt:Nat)(call:Nat→List V→St→Option (Out×St))(o:Oper)(fr:Fr)(σ:St):Option (Oc×De×List Nat):=
 xo cx m nt call o fr σ λ oc δ fp=>some (oc,δ,fp)
def qz(cx:Cx)(m nt:Nat)(call:Nat→List V→St→Option (Out×St))(ops:List Oper):List Oper→Fr→St→(Ex→Fr→St→Option R)→Option R
 | [],fr,σ,K=>K .normal fr σ
 | o::r,fr,σ,K=>zh (zjx nt o.dst) <| zak ops o fr
   (λ fr=>za (q6 cx m nt call o fr σ) λ p=>match p.1 with
    | .val v=>qz cx m nt call ops r (zc1 fr o.dst v) (ze σ p.2.1) K
    | .pan v=>K (.pan v) fr (ze σ p.2.1))
   (λ fr=>qz cx m nt call ops r (zc1 fr o.dst wa) σ K)
def vf:List Oper→List Nat→List Nat
 | [],acc=>acc
 | o::r,acc=>vf r (acc++[o.after.toList.foldl (λ s e=>bif Region.binds .any e then s ||| 2 ^ e.on ||| acc.getD e.on 0 else s) 0])
def yz(pre:List Nat)(i j:Nat):Bool:=(pre.getD i 0).testBit j
def looks(ops:List Oper)(o:Oper):List Nat:=
 (o.op.operands.toList.filterMap λ | .tmp t=>some t | _=>none)++(match o.guard with | some (g,_)=>(zkq ops g).toList | none=>[])
def zeb(pre:List Nat)(ls:List Nat)(j:Nat):Nat→List Oper→Bool
 | _,[]=>true
 | k,o::r=>(match o.dst with | some t=>!ls.elem t||(Nat.blt k j&&yz pre j k)||(Nat.blt j k&&yz pre k j) | none=>true)&&zeb pre ls j (k+1) r
def zv2:List Oper→List Nat
 | []=>[]
 | o::r=>(match o.dst with | some t=>[t] | none=>[])++zv2 r
def zaa(j:Nat)(o:Oper):Bool:=o.after.toList.all λ e=>!Region.binds .any e||Nat.blt e.on j
def zuh(ops:List Oper)(pre:List Nat):Nat→List Oper→Bool
 | _,[]=>true
 | j,o::r=>zeb pre (looks ops o) j 0 ops&&zaa j o&&zuh ops pre (j+1) r
def zel(ops:List Oper)(pre:List Nat):Bool:=nodupB (zv2 ops)&&zuh ops pre 0 ops
structure Log where
 i:Nat
 fp:List Nat
 w:List Nat
def zyd(a b:List Nat):Bool:=a.all λ x=>!b.elem x
def zde(pre:List Nat)(a b:Log):Bool:=
 (a.w.isEmpty&&b.w.isEmpty)||yz pre b.i a.i||(zyd a.w b.fp&&zyd b.w a.fp)
def zic(pre:List Nat)(i:Nat):Option (Nat×V)→Bool | some (k,_)=>yz pre i k | none=>false
def x4(cx:Cx)(m nt:Nat)(call:Nat→List V→St→Option (Out×St))(ops:List Oper)(pre:List Nat) :
  Nat→List Oper→List Log→Option (Nat×V)→Fr→St→(Ex→Fr→St→Option R)→Option R
 | _,[],_,none,fr,σ,K=>K .normal fr σ
 | _,[],log,some (k,v),_,σ,K=>zh (log.all λ a=>a.w.isEmpty||Nat.beq a.i k||yz pre k a.i) (K (.pan v) [] σ)
 | i,o::r,log,dead,fr,σ,K=>
   bif zic pre i dead then x4 cx m nt call ops pre (i+1) r log dead fr σ K
   else zh (zjx nt o.dst) <| zak ops o fr
    (λ fr=>za (q6 cx m nt call o fr σ) λ p=>zh (log.all λ a=>zde pre a ⟨i,p.2.1.map (·.1)++p.2.2,p.2.1.map (·.1)⟩) (match p.1,dead with
     | .val u,_=>x4 cx m nt call ops pre (i+1) r (⟨i,p.2.1.map (·.1)++p.2.2,p.2.1.map (·.1)⟩::log) dead (zc1 fr o.dst u) (ze σ p.2.1) K
     | .pan v,none=>x4 cx m nt call ops pre (i+1) r (⟨i,p.2.1.map (·.1)++p.2.2,p.2.1.map (·.1)⟩::log) (some (i,v)) fr (ze σ p.2.1) K
     | .pan _,some _=>none))
    (λ fr=>x4 cx m nt call ops pre (i+1) r log dead (zc1 fr o.dst wa) σ K)
def zfi(fr:Fr):List Nat→Fr
 | []=>[]
 | t::r=>(match zf fr t with | some v=>(t,v)::zfi fr r | none=>zfi fr r)
def zrn:Fr→List Nat
 | []=>[]
 | (_,v)::r=>v.ids++zrn r
def zbj(σ:St):List Nat→St
 | []=>[]
 | i::r=>(match zf σ i with | some o=>(i,o)::zbj σ r | none=>zbj σ r)
def zp4(σ:St)(is:List Nat)(ren:List Nat):Bool:=
 is.all (ren.elem ·)&&ren.all λ i=>match zf σ i with | some o=>o.ids.all (ren.elem ·) | none=>false
def zpv:List Nat→St→St
 | [],σ=>σ
 | i::r,σ=>zpv r (match zf σ i with
   | some (.val n (.agg l))=>(match zcm (l.map V.handed) with | some ds=>vx σ i (.val n (.d (.agg ds))) | none=>σ)
   | _=>σ)
def tidy(cx:Cx)(m f key:Nat)(fr:Fr)(σ:St)(K:Fr→St→Option R):Option R:=
 let σ:=zpv (cx.flat f key) σ
 let fr':=zfi fr (cx.live f key)
 let ren:=w6 σ 1000 (List.range m++zrn fr') []
 zh (zp4 σ (List.range m++zrn fr') ren) (K fr' (zbj σ ren))
structure Pend where
 t:Nat
 t2:Nat
 a:Nat
 p:Nat
 e:Nat
 sv:Operand
 pv:Operand
 j:Operand
 x:Operand
def zvd(y:Operand)(a:Nat):Bool:=match y with | .tmp b=>Nat.beq b a | _=>false
def zb1(y:Operand)(a:Nat):Bool:=match y with | .tmp b=>!Nat.beq b a | _=>true
def zi1(o i s:Oper):Option Pend:=
 match o.op,i.op,s.op with
 | .call c,.indexAddr t' y j,.store e q x=>
  (match c.callee,c.args.toList,c.argTypes.toList,o.dst,i.dst with
   | .builtin .append,[sv,pv],[t,t2],some a,some p=>
    bif zvd y a&&zvd q p&&zb1 j a&&zb1 x a&&zb1 x p&&!Nat.beq a p&&Nat.beq t' t&&o.guard.isNone&&i.guard.isNone&&s.guard.isNone&&s.dst.isNone then some ⟨t,t2,a,p,e,sv,pv,j,x⟩ else none
   | _,_,_,_,_=>none)
 | _,_,_=>none
def zxi(P:Program)(t:Nat):Bool:=match P.underlying t with | some (.int _)=>false | some _=>true | none=>false
def zc6(cx:Cx)(nt:Nat)(σ:St)(fr:Fr)(q:Pend)(K:Fr→St→Option R):Option R:=
 zh (Nat.blt q.a nt&&Nat.blt q.p nt) <|
 match cx.P.underlying q.t with
 | some (.slice e)=>zh (Nat.beq e q.e&&qg cx.P e&&Nat.ble (cx.P.bytesOf e) 4096&&(zeroOf cx.P e).isSome&&zxi cx.P q.t2) <|
  za (zct cx.P q.t fr q.sv) λ s=>za (zct cx.P q.t2 fr q.pv) λ pl=>za (opd fr q.j) λ jv=>za (zct cx.P e fr q.x) λ v=>za (ze5 v) λ y=>
   (match s,jv with
    | .sl sz l id,.d (.int _ n)=>
     (match zf σ id with
     | some (.tok k)=>zh (Nat.beq (szN sz) (cx.P.cellsOf e)&&zy4 sz e&&decide (k=l.length)&&decide (n=(l.length:Int))&&decide (l.length+1≤4294967296)&&Nat.beq y.cells.length (cx.P.cellsOf e)&&!v.tupV) <|
       dataOf pl λ sz' ps=>zh (Nat.beq sz' (cx.P.cellsOf e)&&Nat.beq ps.length 1) (K ((q.p,.eptr y 0)::(q.a,.sl sz (l++[y]) id)::fr) (vx σ id (.tok (l.length+1))))
     | _=>none)
    | _,_=>none)
 | _=>none
def zal(cx:Cx)(nt:Nat)(ops:List Oper)(k:Nat)(fr:Fr)(σ:St)(K:List Oper→Fr→St→Option R):Option R:=
 match ops.drop k with
 | o::i::s::r=>za (zi1 o i s) λ q=>zc6 cx nt σ fr q λ fr σ=>K r fr σ
 | _=>none
def z0k(k:Nat)(o:Oper):Bool:=(List.range k).all λ j=>o.after.toList.any λ e=>Region.binds .any e&&Nat.beq e.on j
def zk5(k:Nat)(o:Oper):Bool:=o.after.toList.any λ e=>Region.binds .any e&&Nat.beq e.on k
def zfe(ops:List Oper)(k:Nat):Bool:=
 match ops.drop k with
 | [o,i,s,t]=>z0k k o&&zk5 k i&&zk5 (k+1) s&&zk5 k t&&t.guard.isNone&&t.dst.isNone
 | _=>false
def zbm(cx:Cx)(nt:Nat)(ops:List Oper)(k:Nat)(fr:Fr)(σ:St)(K:Fr→St→Option R):Option R:=
 match ops.drop k with
 | [o,i,s,t]=>za (zi1 o i s) λ q=>zc6 cx nt σ fr q λ fr σ=>
   (match t.op with
   | .store ty (.tmp pt) (.tmp b)=>zh (Nat.beq b q.a&&!Nat.beq pt q.a&&!Nat.beq pt q.p&&qg cx.P ty&&Nat.beq (cx.P.cellsOf ty) 1) <|
     za (zf fr pt) λ pv=>za (zf fr q.a) λ v=>
      (match pv,v with
      | .ptr ido off,.sl sz l id=>(match zf σ ido with | some (.val n _)=>zh (Nat.beq off 0&&Nat.beq n 1) (K fr (vx σ ido (.val 1 (.sl sz l id)))) | _=>none)
      | _,_=>none)
   | _=>none)
 | _=>none
def iter(body:Fr→St→(Ex→Fr→St→Option R)→Option R)(head:Fr→St→(Fr→St→Option R)→Option R):Nat→Fr→St→(Ex→Fr→St→Option R)→Option R
 | 0,_,_,_=>none
 | n+1,fr,σ,K=>body fr σ λ e fr σ=>match e with
   | .normal=>head fr σ λ fr σ=>iter body head n fr σ K
   | e=>K e fr σ
def yf:Code→Nat
 | .region id _ _=>id
 | .seq a _=>yf a
 | .block _ c=>yf c
 | .loop c=>yf c
 | .scope c=>yf c
 | _=>0
def yb(cx:Cx)(f m nt:Nat)(call:Nat→List V→St→Option (Out×St))(n:Nat):Code→Fr→St→(Ex→Fr→St→Option R)→Option R
 | .skip,fr,σ,K=>K .normal fr σ
 | .label _,fr,σ,K=>K .normal fr σ
 | .region id ops false,fr,σ,K=>(match cx.pend f id with
   | none=>qz cx m nt call ops.toList ops.toList fr σ K
   | some k=>qz cx m nt call ops.toList (ops.toList.take k) fr σ λ e fr σ=>match e with
     | .normal=>zal cx nt ops.toList k fr σ λ r fr σ=>qz cx m nt call ops.toList r fr σ K
     | e=>K e fr σ)
 | .region id ops true,fr,σ,K=>(match cx.pend f id with
   | none=>zh (zel ops.toList (vf ops.toList [])) (x4 cx m nt call ops.toList (vf ops.toList []) 0 ops.toList [] none fr σ K)
   | some k=>zh (zfe ops.toList k) <| zh (zel ops.toList (vf ops.toList [])) (x4 cx m nt call ops.toList (vf ops.toList []) 0 (ops.toList.take k) [] none fr σ λ e fr σ=>match e with
     | .normal=>zbm cx nt ops.toList k fr σ (K .normal)
     | e=>K e fr σ))
 | .seq a b,fr,σ,K=>yb cx f m nt call n a fr σ λ e fr σ=>match e with
   | .normal=>yb cx f m nt call n b fr σ K
   | e=>K e fr σ
 | .cond c a b,fr,σ,K=>za (opd fr c) λ v=>asB v λ t=>bif t then yb cx f m nt call n a fr σ K else yb cx f m nt call n b fr σ K
 | .block id c,fr,σ,K=>yb cx f m nt call n c fr σ λ e fr σ=>match e with
   | .normal=>tidy cx m f (2 * id) fr σ (K .normal)
   | .exit id'=>bif Nat.beq id' id then tidy cx m f (2 * id) fr σ (K .normal) else K (.exit id') fr σ
   | e=>K e fr σ
 | .loop c,fr,σ,K=>tidy cx m f (2 * yf c+1) fr σ λ fr σ=>
   iter (yb cx f m nt call n c) (tidy cx m f (2 * yf c+1)) n fr σ K
 | .exit id,fr,σ,K=>K (.exit id) fr σ
 | .goto l,fr,σ,K=>K (.goto l) fr σ
 | .ret,fr,σ,K=>K .ret fr σ
 | .scope c,fr,σ,K=>yb cx f m nt call n c fr σ λ e fr σ=>match e with
   | .goto _=>none
   | e=>K e fr σ
 | _,_,_,_=>none
def resV(cx:Cx)(fr:Fr)(σ:St):List ResultVar→(List V→Option R)→Option R
 | [],K=>K []
 | .tmp t::r,K=>za (zf fr t) λ v=>resV cx fr σ r λ l=>K (v::l)
 | .cell a t::r,K=>za (zf fr a) λ p=>zcv cx σ t p λ v _=>resV cx fr σ r λ l=>K (v::l)
def vy:Nat→List V→Fr
 | _,[]=>[]
 | i,v::r=>(i,v)::vy (i+1) r
mutual
def V.leave(m:Nat)(σ:St):V→Option V
 | .d x=>some (.d x)
 | .sl sz l id=>some (bif Nat.blt id m then .sl sz l id else .d (.sl (szN sz) l))
 | .slo id sz k=>(match zf σ id with
   | some (.row l)=>bif Nat.blt id m then some (.slo id sz k) else bif Nat.beq k l.length then some (.d (.sl sz l)) else none
   | _=>none)
 | .wptr id sz k i off=>bif Nat.blt id m then some (.wptr id sz k i off) else none
 | .map id=>(match zf σ id with
   | some (.map ks vs)=>some (bif Nat.blt id m then .map id else .d (.map ks vs))
   | _=>none)
 | .ptr id off=>bif Nat.blt id m then some (.ptr id off) else none
 | .agg l=>(match V.leaveL m σ l with | some r=>some (za4 r) | none=>none)
 | .tup l=>(match V.leaveL m σ l with | some r=>some (.tup r) | none=>none)
 | .func g l=>(match V.leaveL m σ l with | some r=>some (.func g r) | none=>none)
 | .iface t v=>(match v.leave m σ with | some r=>some (.iface t r) | none=>none)
 | .eptr x off=>some (.eptr x off)
 | .gptr g off=>some (.gptr g off)
 | .mfunc g l=>some (.mfunc g l)
def V.leaveL(m:Nat)(σ:St):List V→Option (List V)
 | []=>some []
 | v::r=>(match v.leave m σ,V.leaveL m σ r with | some u,some l=>some (u::l) | _,_=>none)
end
def qf(m:Nat)(σ:St):List Nat→Option St
 | []=>some []
 | i::r=>
  match zf σ i,qf m σ r with
  | some (.val n v),some l=>(match v.leave m σ with | some u=>some ((i,.val n u)::l) | none=>none)
  | some o,some l=>some ((i,o)::l)
  | _,_=>none
def zfk:List V→V
 | [v]=>v
 | l=>.tup l
end
def zdp(m:Nat)(σ:St)(vs:List V):Option (Out×St):=
 match (zfk vs).leave m σ,qf m σ (List.range m) with
 | some v,some s=>some (.ret v,s)
 | _,_=>none
def zpt(m:Nat)(σ:St)(vs:List V):Option (Out×St):=
 match vs with
 | .sl sz l g::rest=>
  (match zf σ g,zf σ (m - 1) with
   | some (.tok n),some (.tok 0)=>bif Nat.ble m g&&Nat.blt 0 m&&decide (n=l.length)&&Nat.blt 0 n then (match V.leaveL m σ rest,qf m σ (List.range m) with
    | some r,some s=>some (.ret (zfk (.sl sz l (m - 1)::r)),vx s (m - 1) (.tok n))
    | _,_=>none) else zdp m σ vs
   | _,_=>zdp m σ vs)
 | vs=>zdp m σ vs
def zg9(cx:Cx)(f m:Nat)(res:List ResultVar):Ex→Fr→St→Option (Out×St):=λ e fr σ'=>
 match e with
 | .normal | .ret=>resV cx fr σ' res λ vs=>bif cx.gives f then zpt m σ' vs else zdp m σ' vs
 | .pan v=>(match v.leave m σ',qf m σ' (List.range m) with | some v,some s=>some (.pan v,s) | _,_=>none)
 | _=>none
def zf8(o:Oper):Option Nat:=
 match o.op with
 | .defer c=>(match c.callee with | .value (.tmp t)=>bif c.args.isEmpty&&c.argTypes.isEmpty&&o.guard.isNone&&o.dst.isNone then some t else none | _=>none)
 | _=>none
def zhw(o:Oper):Option Nat:=
 match o.op with
 | .call c=>(match c.callee with | .builtin .recover=>bif c.args.isEmpty&&c.argTypes.isEmpty&&o.guard.isNone then o.dst else none | _=>none)
 | _=>none
def zd5:Code→Option (List Code×Nat×Array Oper×Nat×Code)
 | .seq (.region id ops false) b=>
  (match ops.toList.getLast? with
   | some o=>(match zf8 o with
    | some t=>some ([],id,ops,t,b)
    | none=>(match zd5 b with | some (l,x)=>some (.region id ops false::l,x) | none=>none))
   | none=>(match zd5 b with | some (l,x)=>some (.region id ops false::l,x) | none=>none))
 | .seq a b=>(match zd5 b with | some (l,x)=>some (a::l,x) | none=>none)
 | _=>none
def ze3{R:Type}(cx:Cx)(f m nt:Nat)(call:Nat→List V→St→Option (Out×St))(n:Nat):List Code→Fr→St→(Ex→Fr→St→Option R)→Option R
 | [],fr,σ,K=>K .normal fr σ
 | a::r,fr,σ,K=>yb cx f m nt call n a fr σ λ e fr σ=>match e with
   | .normal=>ze3 cx f m nt call n r fr σ K
   | e=>K e fr σ
def q9:Code→Bool
 | .seq a b=>q9 a||q9 b
 | .cond _ a b=>q9 a||q9 b
 | .block .. | .loop _=>true
 | .scope c=>q9 c
 | _=>false
def z00:Option D→D
 | none=>.nilIface
 | some x=>x
def za6(cx:Cx)(call:Nat→List V→St→Option (Out×St))(n g:Nat)(args:List V)(σ:St)(u:Option D):Option St:=
 match cx.P.funcs[g]? with
 | none=>none
 | some fn=>
  match fn.body with
  | some (.seq (.region _ ops false) c)=>
   (match ops.toList with
    | o::r=>za (zhw o) λ t=>zh (Nat.blt t fn.ntmps&&fn.results.isEmpty) <|
     qz cx σ.length fn.ntmps call ops.toList r ((t,.d (z00 u))::vy 0 args) σ λ e fr σ'=>match e with
      | .normal=>yb cx g σ.length fn.ntmps call n c fr σ' λ e _ σ'=>(match e with | .normal | .ret=>qf σ.length σ' (List.range σ.length) | _=>none)
      | _=>none
    | []=>none)
  | _=>none
def zfu{R:Type}(cx:Cx)(rec:Nat→List V→St→Option D→Option St)(σ:St)(g:Nat)(cap:List V)(u:Option D)(K:De→Option R):Option R:=
 let ren:=w6 σ 1000 (V.idsL cap) []
 zh (closedIn σ (V.idsL cap) ren) <| match rec g (V.renL (xe ren) cap) (xd σ ren 0 ren) u with
 | some σ'=>qu ren σ σ' 0 ren K
 | none=>none
def zlz(cx:Cx)(rec:Nat→List V→St→Option D→Option St)(f m:Nat)(res:List ResultVar)(g:Nat)(cap:List V):Ex→Fr→St→Option (Out×St):=λ e fr σ=>
 match e with
 | .normal | .ret=>zfu cx rec σ g cap none λ δ=>zg9 cx f m res .ret fr (ze σ δ)
 | .pan (.d (.iface t x))=>zfu cx rec σ g cap (some (.iface t x)) λ δ=>zg9 cx f m res .ret fr (ze σ δ)
 | _=>none
def zfq(cx:Cx)(f m nt:Nat)(res:List ResultVar)(call:Nat→List V→St→Option (Out×St))(n:Nat)(c:Code)(fr:Fr)(σ:St):Option (Out×St):=
 match zd5 c with
 | none=>none
 | some (as,_,ops,t,b)=>
  ze3 cx f m nt call n as fr σ λ e fr σ=>match e with
   | .normal=>qz cx m nt call ops.toList ops.toList.dropLast fr σ λ e fr σ=>(match e with
     | .normal=>za (zf fr t) λ fv=>(match fv with
       | .func g cap=>zh (!q9 b) (yb cx f m nt call n b fr σ (zlz cx (za6 cx call n) f m res g cap))
       | _=>none)
     | e=>zg9 cx f m res e fr σ)
   | e=>zg9 cx f m res e fr σ
def qc(cx:Cx)(call:Nat→List V→St→Option (Out×St))(n f:Nat)(args:List V)(σ:St):Option (Out×St):=
 match cx.nat f args σ with
 | some r=>some r
 | none=>
 match cx.P.funcs[f]? with
 | none=>none
 | some fn=>
  match fn.body with
  | none=>none
  | some c=>
   bif cx.dfr f then zfq cx f σ.length fn.ntmps fn.results.toList call n c (vy 0 args) σ
   else yb cx f σ.length fn.ntmps call n c (vy 0 args) σ (zg9 cx f σ.length fn.results.toList)
def xz(cx:Cx):Nat→Nat→List V→St→Option (Out×St)
 | 0,_,_,_=>none
 | n+1,f,args,σ=>qc cx (xz cx n) n f args σ
def y8(s:List UInt8):ByteArray:=⟨s.toArray⟩
abbrev Own:=Nat→Nat→Prop
inductive RD (w:World) (own:Own):Value→D→Prop
 | int (k:IntKind) (n:Int):RD w own (.int k n) (.int k n)
 | bool (b:Bool):RD w own (.bool b) (.bool b)
 | str (s:List UInt8):RD w own (.string (y8 s)) (.str s)
 | agg (cs:Array Value) (l:List D) (hl:cs.size=l.length) (ho:∀ x∈cs.toList,x.oneCell'=true) (h:∀ (i:Nat) x y,cs[i]?=some x→l[i]?=some y→RD w own x y):RD w own (.agg cs) (.agg l)
 | sl0 (base:Option Addr) (cap sz:Nat):RD w own (.slice base 0 cap) (.sl sz [])
 | sl (b o n cap sz:Nat) (l:List D) (xs:Nat→Value) (hn:n=l.length) (hcap:n≤cap) (hsz:∀ y∈l,y.cells.length=sz)
   (hc:∀ k,k<n * sz→w.cell? ⟨b,o+k,none⟩=some (xs k)∧¬ own b (o+k)∧(xs k).oneCell'=true)
   (h:∀ (i j:Nat) y c,l[i]?=some y→y.cells[j]?=some c→RD w own (xs (i * sz+j)) c):RD w own (.slice (some ⟨b,o,none⟩) n cap) (.sl sz l)
 | map (r:Nat) (es:Array MapEntry) (clock:Nat) (ks vs:List D) (hm:w.heap[r]?=some (.map es clock)) (ho : ¬ own r 0)
   (hk:es.size=ks.length) (hv:es.size=vs.length)
   (h:∀ (i:Nat) e k,es[i]?=some e→ks[i]?=some k→RD w own e.key k) (h':∀ (i:Nat) e v,es[i]?=some e→vs[i]?=some v→RD w own e.val v) :
   RD w own (.map (some r)) (.map ks vs)
 | iface (t:Nat) (v:Value) (x:D) (h:RD w own v x):RD w own (.iface t v) (.iface t x)
 | nilIface:RD w own .nilIface .nilIface
 | nilptr:RD w own (.pointer none) .nilptr
 | nilmap:RD w own (.map none) .nilmap
 | nilfunc:RD w own .nilFunc .nilfunc
structure Lo where
 blk:Option Nat
 f:Nat:=0
 e:Nat:=0
 el:Nat:=0
structure Mu where
 lo:Nat→Lo
 fr:Own
instance:CoeFun Mu λ _=>Nat→Lo:=⟨Mu.lo⟩
def owns(μ:Mu)(id:Nat)(o:Ob)(b i:Nat):Prop:=
 match o with
 | .tok _=>(μ id).blk=some b∧(μ id).f≤i
 | _=>(μ id).blk=some b
def Mine(σ:St)(μ:Mu):Own:=λ b i=>∃ id o,zf σ id=some o∧owns μ id o b i
def zp(σ:St)(μ:Mu):Own:=λ b i=>μ.fr b i∨Mine σ μ b i
def tail(μ:Mu)(id:Nat)(v:Value)(sz:Nat):Prop:=
 match v with
 | .slice base n cap=>(cap=0∧n=0∧(μ id).blk=none∧(sz<1048576∨base=none))∨∃ b o,base=some ⟨b,o,none⟩∧(μ id).blk=some b∧o+n * szN sz=(μ id).f∧o+cap * szN sz≤(μ id).e∧n≤cap∧zsg sz (μ id).el o n
 | _=>False
def zx0:Option Ob→Prop
 | some (.val ..)=>True
 | _=>False
def rowAt(μ:Mu)(id sz:Nat)(base:Option Addr)(cap:Nat):Prop:=
 ((μ id).blk=none∧base=none∧cap=0)∨∃ b,base=some ⟨b,0,none⟩∧(μ id).blk=some b∧(μ id).f=sz∧cap * sz≤(μ id).e
def zug(μ:Mu)(id sz k i off:Nat)(a:Addr):Prop:=i<k∧∃ b,a=⟨b,i * sz+off,none⟩∧(μ id).blk=some b∧(μ id).f=sz
def RDs(w:World)(own:Own)(vs:List Value)(l:List D):Prop:=vs.length=l.length∧∀ (i:Nat) x y,vs[i]?=some x→l[i]?=some y→RD w own x y
inductive RV (w:World) (σ:St) (μ:Mu):Value→V→Prop
 | d (v:Value) (x:D) (h:RD w (zp σ μ) v x):RV w σ μ v (.d x)
 | ptr (id off b:Nat) (hi:zx0 (zf σ id)) (hb:(μ id).blk=some b):RV w σ μ (.pointer (some ⟨b,off,none⟩)) (.ptr id off)
 | eptr (x:D) (b o off:Nat) (xs:Nat→Value) (hc:∀ j,j<x.cells.length→w.cell? ⟨b,o+j,none⟩=some (xs j)∧¬ zp σ μ b (o+j)∧(xs j).oneCell'=true)
   (h:∀ (j:Nat) c,x.cells[j]?=some c→RD w (zp σ μ) (xs j) c):RV w σ μ (.pointer (some ⟨b,o+off,none⟩)) (.eptr x off)
 | gptr (g off:Nat):RV w σ μ (.pointer (some ⟨g,off,none⟩)) (.gptr g off)
 | agg (cs:Array Value) (l:List V) (hl:cs.size=l.length) (ho:∀ x∈cs.toList,x.oneCell'=true) (h:∀ (i:Nat) x y,cs[i]?=some x→l[i]?=some y→RV w σ μ x y):RV w σ μ (.agg cs) (.agg l)
 | sl (v:Value) (sz:Nat) (l:List D) (id n:Nat) (h:RD w (zp σ μ) v (.sl (szN sz) l)) (ht:zf σ id=some (.tok n)) (hn:l.length≤n)
   (he:l.length=n→tail μ id v sz):RV w σ μ v (.sl sz l id)
 | slo (id sz k cap:Nat) (base:Option Addr) (l:List D) (hi:zf σ id=some (.row l)) (hk:k≤l.length) (hcap:k≤cap) (hn:base=none→k=0) (he:k=l.length→rowAt μ id sz base cap):RV w σ μ (.slice base k cap) (.slo id sz k)
 | wptr (id sz k i off:Nat) (a:Addr) (l:List D) (hi:zf σ id=some (.row l)) (hk:k≤l.length) (he:k=l.length→zug μ id sz k i off a):RV w σ μ (.pointer (some a)) (.wptr id sz k i off)
 | func (f:Nat) (cs:Array Value) (l:List V) (hl:cs.size=l.length) (h:∀ (i:Nat) x y,cs[i]?=some x→l[i]?=some y→RV w σ μ x y) :
   RV w σ μ (.func (.func f) #[] cs) (.func f l)
 | mfunc (f:Nat) (cs:Array Value) (l:List D) (h:RDs w (zp σ μ) cs.toList l):RV w σ μ (.func (.func f) cs #[]) (.mfunc f l)
 | map (id b:Nat) (ks vs:List D) (hi:zf σ id=some (.map ks vs)) (hb:(μ id).blk=some b):RV w σ μ (.map (some b)) (.map id)
 | iface (t:Nat) (v:Value) (u:V) (h:RV w σ μ v u):RV w σ μ (.iface t v) (.iface t u)
 | tup (cs:Array Value) (l:List V) (hl:cs.size=l.length) (h:∀ (i:Nat) x y,cs[i]?=some x→l[i]?=some y→RV w σ μ x y):RV w σ μ (.tuple cs) (.tup l)
theorem zit{n:Nat}(h:n<1048576):szN n=n:=Nat.mod_eq_of_lt h
theorem zuc{n el:Nat}(h:zy4 n el=true):zhp n el:=by
 unfold zy4 at h;rw [Bool.or_eq_true] at h;rcases h with h | h
 ·exact .inl (by simpa using h)
 ·exact .inr (po h)
theorem zhp.o{n el k:Nat}(h:zhp n el)(hk:0<k):zsg n el 0 k:=h.imp id λ h=>⟨h,rfl,hk⟩
theorem zsg.more{n el o k k':Nat}(h:zsg n el o k)(hk:k≤k'):zsg n el o k':=h.imp id λ h=>⟨h.1,h.2.1,Nat.lt_of_lt_of_le h.2.2 hk⟩
theorem zd3{μ:Mu}{id b o n cap sz c:Nat}(hc:szN sz=c)(h1:(μ id).blk=some b)(h2:o+n * c=(μ id).f)(h3:o+cap * c≤(μ id).e)(h4:n≤cap)(h5:zsg sz (μ id).el o n) :
  tail μ id (.slice (some ⟨b,o,none⟩) n cap) sz:=by
 subst hc;exact .inr ⟨b,o,rfl,h1,h2,h3,h4,h5⟩
theorem zqn{μ:Mu}{id n cap sz c:Nat}{base:Option Addr}(hc:szN sz=c)(h:tail μ id (.slice base n cap) sz) :
  (cap=0∧n=0∧(μ id).blk=none∧(sz<1048576∨base=none))∨∃ b o,base=some ⟨b,o,none⟩∧(μ id).blk=some b∧o+n * c=(μ id).f∧o+cap * c≤(μ id).e∧n≤cap∧zsg sz (μ id).el o n:=by
 subst hc;exact h
theorem RV.slm{w:World}{σ:St}{μ:Mu}{v:Value}{sz c:Nat}{l:List D}{id n:Nat}(hc:szN sz=c)(h:RD w (zp σ μ) v (.sl c l))(ht:zf σ id=some (.tok n))(hn:l.length≤n)
  (he:l.length=n→tail μ id v sz):RV w σ μ v (.sl sz l id):=by
 subst hc;exact .sl v sz l id n h ht hn he
def RVs(w:World)(σ:St)(μ:Mu)(vs:List Value)(l:List V):Prop:=vs.length=l.length∧∀ (i:Nat) x y,vs[i]?=some x→l[i]?=some y→RV w σ μ x y
structure Stays (w:World) (own:Own) (w':World) (own':Own):Prop where
 cell:∀ b i x,¬ own b i→w.cell? ⟨b,i,none⟩=some x→w'.cell? ⟨b,i,none⟩=some x∧¬ own' b i
 map:∀ r es clock,¬ own r 0→w.heap[r]?=some (.map es clock)→w'.heap[r]?=some (.map es clock)∧¬ own' r 0
theorem Stays.refl(w:World)(own:Own):Stays w own w own:=⟨λ _ _ _ h hc=>⟨hc,h⟩,λ _ _ _ h hc=>⟨hc,h⟩⟩
theorem RD.stays{w w':World}{own own':Own}(hs:Stays w own w' own'){v:Value}{x:D}(h:RD w own v x):RD w' own' v x:=by
 induction h with
 | int k n=>exact .int k n
 | bool b=>exact .bool b
 | str s=>exact .str s
 | agg cs l hl ho _ ih=>exact .agg cs l hl ho ih
 | sl0 base cap sz=>exact .sl0 base cap sz
 | sl b o n cap sz l xs hn hcap hsz hc _ ih=>exact .sl b o n cap sz l xs hn hcap hsz (λ k hk=>⟨(hs.cell _ _ _ (hc k hk).2.1 (hc k hk).1).1,(hs.cell _ _ _ (hc k hk).2.1 (hc k hk).1).2,(hc k hk).2.2⟩) ih
 | map r es clock ks vs hm ho hk hv _ _ ih ih'=>obtain ⟨a,b⟩:=hs.map r es clock ho hm; exact .map r es clock ks vs a b hk hv ih ih'
 | iface t v x _ ih=>exact .iface t v x ih
 | nilIface=>exact .nilIface
 | nilptr=>exact .nilptr
 | nilmap=>exact .nilmap
 | nilfunc=>exact .nilfunc
def yx(μ:Mu)(id:Nat)(o:Ob)(μ':Mu)(o':Option Ob):Prop:=
 match o,o' with
 | .val n _,some (.val n' _)=>n'=n∧(μ' id).blk=(μ id).blk
 | .row l,some (.row l')=>l.length≤l'.length∧(l.length=l'.length→μ' id=μ id)
 | .map ..,some (.map ..)=>(μ' id).blk=(μ id).blk
 | .tok n,some (.tok n')=>n≤n'∧(n=n'→μ' id=μ id)
 | _,_=>False
def z4j(σ:St)(μ:Mu)(σ':St)(μ':Mu)(ids:List Nat):Prop:=∀ id∈ids,∀ o,zf σ id=some o→yx μ id o μ' (zf σ' id)
theorem V.idsL_mem{l:List V}{v:V}(h:v∈l){i:Nat}(hi:i∈v.ids):i∈V.idsL l:=by
 induction l with
 | nil=>cases h
 | cons a r ih=>
  simp only [V.idsL,List.mem_append];cases h with
  | head=>exact .inl hi
  | tail _ h=>exact .inr (ih h)
theorem RV.stays{w w':World}{σ σ':St}{μ μ':Mu}(hs:Stays w (zp σ μ) w' (zp σ' μ')){v:Value}{x:V}(h:RV w σ μ v x)
  (hi:z4j σ μ σ' μ' x.ids):RV w' σ' μ' v x:=by
 induction h with
 | d v x h=>exact .d v x (h.stays hs)
 | ptr id off b hc hb=>
  cases ho:zf σ id with
  | none=>rw [ho] at hc; exact hc.elim
  | some o=>
   have:=hi id (by simp [V.ids]) o ho
   rw [ho] at hc;cases o with
   | val n v=>
    cases ho':zf σ' id with
    | none=>rw [ho'] at this; exact this.elim
    | some o'=>rw [ho'] at this; cases o' <;> first | exact this.elim | exact .ptr id off b (by rw [ho']; trivial) (this.2.trans hb)
   | row l=>exact hc.elim
   | tok n=>exact hc.elim
   | map ks vs=>exact hc.elim
 | eptr x b o off xs hc h=>exact .eptr x b o off xs (λ j hj=>⟨(hs.cell _ _ _ (hc j hj).2.1 (hc j hj).1).1,(hs.cell _ _ _ (hc j hj).2.1 (hc j hj).1).2,(hc j hj).2.2⟩) (λ j c hj=>(h j c hj).stays hs)
 | gptr g off=>exact .gptr g off
 | agg cs l hl ho _ ih=>exact .agg cs l hl ho λ i x y hx hy=>ih i x y hx hy λ j hj=>hi j (V.idsL_mem (pz hy) hj)
 | sl v sz l id n h ht hn he=>
  have:=hi id (by simp [V.ids]) _ ht
  cases ho':zf σ' id with
  | none=>rw [ho'] at this; exact this.elim
  | some o'=>
   rw [ho'] at this;cases o' with
   | tok n'=>
    obtain ⟨h1,h2⟩:=this;refine .sl v sz l id n' (h.stays hs) ho' (Nat.le_trans hn h1) λ e=>?_;have e1:l.length=n:=Nat.le_antisymm hn (e ▸ h1);have e2:n=n':=e1 ▸ e;have:=he e1;unfold tail at this ⊢;rw [h2 e2];exact this
   | _=>exact this.elim
 | slo id sz k cap base l ho hk hcap hn he=>
  have:=hi id (by simp [V.ids]) _ ho
  cases ho':zf σ' id with
  | none=>rw [ho'] at this; exact this.elim
  | some o'=>
   rw [ho'] at this;cases o' with
   | row l'=>
    obtain ⟨h1,h2⟩:=this;refine .slo id sz k cap base l' ho' (Nat.le_trans hk h1) hcap hn λ e=>?_;have e1:k=l.length:=Nat.le_antisymm hk (e ▸ h1);have:=he e1;unfold rowAt at this ⊢;rw [h2 (e1 ▸ e)];exact this
   | _=>exact this.elim
 | wptr id sz k i off a l ho hk he=>
  have:=hi id (by simp [V.ids]) _ ho
  cases ho':zf σ' id with
  | none=>rw [ho'] at this; exact this.elim
  | some o'=>
   rw [ho'] at this;cases o' with
   | row l'=>
    obtain ⟨h1,h2⟩:=this;refine .wptr id sz k i off a l' ho' (Nat.le_trans hk h1) λ e=>?_;have e1:k=l.length:=Nat.le_antisymm hk (e ▸ h1);have:=he e1;unfold zug at this ⊢;rw [h2 (e1 ▸ e)];exact this
   | _=>exact this.elim
 | func f cs l hl _ ih=>exact .func f cs l hl λ i x y hx hy=>ih i x y hx hy λ j hj=>hi j (V.idsL_mem (pz hy) hj)
 | mfunc f cs l h=>exact .mfunc f cs l ⟨h.1,λ i x y hx hy=>(h.2 i x y hx hy).stays hs⟩
 | map id b ks vs ho hb=>
  have:=hi id (by simp [V.ids]) _ ho
  cases ho':zf σ' id with
  | none=>rw [ho'] at this; exact this.elim
  | some o'=>rw [ho'] at this; cases o' <;> first | exact this.elim | exact .map id b _ _ ho' ((show (μ' id).blk=(μ id).blk from this).trans hb)
 | iface t v u _ ih=>exact .iface t v u (ih hi)
 | tup cs l hl _ ih=>exact .tup cs l hl λ i x y hx hy=>ih i x y hx hy λ j hj=>hi j (V.idsL_mem (pz hy) hj)
def w7(w:World)(own:Own)(lo:Lo)(l:List D):Prop:=
 ∀ b,lo.blk=some b→∃ cs el,w.heap[b]?=some (.cells cs el (0,0))∧cs.size=lo.e∧l.length * lo.f≤cs.size∧(∀ x∈cs.toList,x.oneCell'=true)∧(∀ y∈l,y.cells.length=lo.f) ∧
  ∀ (i j:Nat) y c,l[i]?=some y→y.cells[j]?=some c→∃ v,cs[i * lo.f+j]?=some v∧RD w own v c
theorem w7.stays{w w':World}{own own':Own}{lo:Lo}{l:List D}(hs:Stays w own w' own')(h:w7 w own lo l)(hb:∀ b,lo.blk=some b→(w.heap[b]?).isSome→w'.heap[b]?=w.heap[b]?):w7 w' own' lo l:=by
 intro b hbb;obtain ⟨cs,el,hh,h1,h2,h3,h4,h5⟩:=h b hbb;refine ⟨cs,el,(hb b hbb (by rw [hh]; rfl)).trans hh,h1,h2,h3,h4,λ i j y c hy hc=>?_⟩
 obtain ⟨v,h6,h7⟩:=h5 i j y c hy hc;exact ⟨v,h6,h7.stays hs⟩
theorem zix{w:World}{own own':Own}{μ:Mu}{id sz cap:Nat}{base:Option Addr}{l:List D}(hr:w7 w own (μ id) l)(hat:rowAt μ id sz base cap)(hcap:l.length≤cap)(hst:Stays w own w own')
  (hfree:∀ b,(μ id).blk=some b→∀ j,¬ own' b j):RD w own' (.slice base l.length cap) (.sl sz l):=by
 rcases hat with ⟨_,rfl,rfl⟩ | ⟨b,rfl,hb,hf,he⟩
 ·obtain rfl:l=[]:=List.eq_nil_of_length_eq_zero (by omega)
  exact .sl0 _ _ _
 ·obtain ⟨cs,el,hh,h1,h2,h3,h4,h5⟩:=hr b hb;rw [hf] at h2 h4 h5;have hcell:∀ k,k<l.length * sz→cs[k]?=some (cs.getD k undef):=λ k hk=>by
   have:k<cs.size:=by omega
   simp [Array.getD_eq_getD_getElem?,this]
  refine .sl b 0 l.length cap sz l (λ k=>cs.getD k undef) rfl hcap h4 (λ k hk=>⟨?_,hfree b hb _,?_⟩) λ i j y c hy hc=>?_
  ·simp only [World.cell?,hh,Nat.zero_add];exact hcell k hk
  ·exact h3 _ (pz (i:=k) (by simpa using hcell k hk))
  ·obtain ⟨v,hv,hvc⟩:=h5 i j y c hy hc;have:cs.getD (i * sz+j) undef=v:=by simp [Array.getD_eq_getD_getElem?,hv]
   rw [this];exact hvc.stays hst
def zay(w:World)(σ:St)(μ:Mu)(id:Nat):Ob→Prop
 | .val n v=>∃ b cs el,(μ id).blk=some b∧w.heap[b]?=some (.cells cs el (0,0))∧cs.size=szN n∧v.tupV=false∧(∀ x∈cs.toList,x.oneCell'=true)∧RVs w σ μ cs.toList v.cells∧zhp n el
 | .row l=>w7 w (zp σ μ) (μ id) l
 | .tok _=>∀ b,(μ id).blk=some b→∃ cs el fr,w.heap[b]?=some (.cells cs el fr)∧el=(μ id).el∧cs.size=(μ id).e∧(fr=(0,0)∨cs.size≤fr.1)
 | .map ks vs=>∃ b es clock,(μ id).blk=some b∧w.heap[b]?=some (.map es clock)∧RDs w (zp σ μ) (es.toList.map (·.key)) ks∧RDs w (zp σ μ) (es.toList.map (·.val)) vs
def z2b(cx:Cx)(w:World)(own:Own):Prop:=
 ∀ g x,cx.glob g=some x→∃ xs:Nat→Value,(∀ j,j<x.cells.length→w.cell? ⟨g,j,none⟩=some (xs j)∧¬ own g j∧(xs j).oneCell'=true)∧∀ (j:Nat) c,x.cells[j]?=some c→RD w own (xs j) c
structure Inv (cx:Cx) (w:World) (σ:St) (μ:Mu):Prop where
 ob:∀ id o,zf σ id=some o→zay w σ μ id o
 apart:∀ id id' o o' b i,zf σ id=some o→zf σ id'=some o'→owns μ id o b i→owns μ id' o' b i→id=id'
 glob:z2b cx w (zp σ μ)
 frame:∀ id o b i,zf σ id=some o→owns μ id o b i→∀ j,¬ μ.fr b j
 frLt:∀ b i,μ.fr b i→b<w.heap.size
 frMap:∀ r es clock i,w.heap[r]?=some (.map es clock)→μ.fr r i→μ.fr r 0
structure Kept (w:World) (own:Own) (w':World):Prop where
 os:w'.os=w.os
 output:w'.output=w.output
 size:w.heap.size≤w'.heap.size
 blk:∀ b,b<w.heap.size→(∀ i,¬ own b i)→w'.heap[b]?=w.heap[b]?
 cell:∀ b i x,¬ own b i→w.cell? ⟨b,i,none⟩=some x→w'.cell? ⟨b,i,none⟩=some x
structure Goes (w:World) (σ:St) (μ:Mu) (w':World) (σ':St) (μ':Mu):Prop where
 kept:Kept w (Mine σ μ) w'
 own:∀ b i,b<w.heap.size→Mine σ' μ' b i→Mine σ μ b i
 fr:μ'.fr=μ.fr
theorem Goes.ownOf{w w':World}{σ σ':St}{μ μ':Mu}(h:Goes w σ μ w' σ' μ'){b i:Nat}(hb:b<w.heap.size)(ho:zp σ' μ' b i):zp σ μ b i:=by
 rcases ho with hf | ho
 ·exact .inl (h.fr ▸ hf)
 ·exact .inr (h.own b i hb ho)
theorem lt_of_cell{w:World}{b i:Nat}{x:Value}(h:w.cell? ⟨b,i,none⟩=some x):b<w.heap.size:=World.block_lt_of_cell? _ _ h
theorem lt_of_heap{w:World}{b:Nat}{x:Obj}(h:w.heap[b]?=some x):b<w.heap.size:=(Array.getElem?_eq_some_iff.1 h).1
theorem Goes.stays{w w':World}{σ σ':St}{μ μ':Mu}(h:Goes w σ μ w' σ' μ')(hi:∀ r es clock,w.heap[r]?=some (.map es clock)→¬ zp σ μ r 0→∀ i,¬ zp σ μ r i) :
  Stays w (zp σ μ) w' (zp σ' μ'):=
 ⟨λ b i x hn hc=>⟨h.kept.cell b i x (λ hm=>hn (.inr hm)) hc,λ ho=>hn (h.ownOf (lt_of_cell hc) ho)⟩,
  λ r es clock hn hm=>⟨(h.kept.blk r (lt_of_heap hm) λ i hm'=>hi r es clock hm hn i (.inr hm')).trans hm,λ ho=>hn (h.ownOf (lt_of_heap hm) ho)⟩⟩
theorem Inv.mapOwn{cx:Cx}{w:World}{σ:St}{μ:Mu}(h:Inv cx w σ μ)(r:Nat)(es:Array MapEntry)(clock:Nat)(hm:w.heap[r]?=some (.map es clock))
  (hn : ¬ zp σ μ r 0) (i:Nat) : ¬ zp σ μ r i:=by
 rintro (hfr | ⟨id,o,ho,hb⟩)
 ·exact hn (.inl (h.frMap r es clock i hm hfr))
 have:=h.ob id o ho;cases o with
 | val n v=>obtain ⟨b,cs,el,hb',hh,_⟩:=this; have:r=b:=(by simpa [owns,hb'] using hb.symm); subst this; rw [hm] at hh; cases hh
 | row l=>obtain ⟨cs,el,hh,_⟩:=this r hb; rw [hm] at hh; cases hh
 | tok n=>obtain ⟨cs,el,fr,hh,_⟩:=this r hb.1; rw [hm] at hh; cases hh
 | map ks vs=>exact hn (.inr ⟨id,_,ho,hb⟩)
theorem Goes.stays'{cx:Cx}{w w':World}{σ σ':St}{μ μ':Mu}(h:Goes w σ μ w' σ' μ')(hi:Inv cx w σ μ):Stays w (zp σ μ) w' (zp σ' μ'):=
 h.stays λ r es clock hm hn=>hi.mapOwn r es clock hm hn
theorem Goes.refl(w:World)(σ:St)(μ:Mu):Goes w σ μ w σ μ:=⟨⟨rfl,rfl,Nat.le_refl _,λ _ _ _=>rfl,λ _ _ _ _ h=>h⟩,λ _ _ _ h=>h,rfl⟩
theorem Goes.trans{w w' w'':World}{σ σ' σ'':St}{μ μ' μ'':Mu}(h:Goes w σ μ w' σ' μ')(h':Goes w' σ' μ' w'' σ'' μ''):Goes w σ μ w'' σ'' μ'' where
 kept:={
  os:=h'.kept.os.trans h.kept.os
  output:=h'.kept.output.trans h.kept.output
  size:=Nat.le_trans h.kept.size h'.kept.size
  blk:=λ b hb hn=>(h'.kept.blk b (Nat.lt_of_lt_of_le hb h.kept.size) λ i ho=>hn i (h.own b i hb ho)).trans (h.kept.blk b hb hn)
  cell:=λ b i x hn hc=>h'.kept.cell b i x (λ ho=>hn (h.own b i (lt_of_cell hc) ho)) (h.kept.cell b i x hn hc) }
 own:=λ b i hb ho=>h.own b i hb (h'.own b i (Nat.lt_of_lt_of_le hb h.kept.size) ho)
 fr:=h'.fr.trans h.fr
def FR(w:World)(σ:St)(μ:Mu)(tmps:Array Value)(fr:Fr):Prop:=∀ t v,zf fr t=some v→RV w σ μ (tmps.getD t undef) v
theorem zif{k i:Nat}(h : ¬ k=i):Nat.beq k i=false:=by
 cases e:Nat.beq k i
 ·rfl
 ·exact absurd (po e) h
theorem z5n(k:Nat):Nat.beq k k=true:=Nat.beq_refl k
theorem zk{α:Type}:∀ (l:List (Nat×α)) (i j:Nat) (x:α),zf (vx l i x) j=if i=j then some x else zf l j:=by
 intro l
 induction l with
 | nil=>
  intro i j x;by_cases h:i=j
  ·subst h; simp [vx,zf]
  ·simp [vx,zf,h,zif h]
 | cons p r ih=>
  intro i j x;obtain ⟨k,y⟩:=p;simp only [vx,zf];by_cases hk:k=i
  ·subst hk;by_cases hj:k=j
   ·subst hj; simp [zf]
   ·simp [zf,hj,zif hj]
  ·simp only [zif hk,p6,zf,ih];by_cases hj:k=j
   ·subst hj;have : ¬ i=k:=λ h=>hk h.symm;simp [this]
   ·simp [zif hj]
theorem qs{δ:De}:∀ {σ:St} {j:Nat},j ∉ δ.map (·.1)→zf (ze σ δ) j=zf σ j:=by
 induction δ with
 | nil=>intro σ j _; rfl
 | cons p r ih=>
  intro σ j h;obtain ⟨i,o⟩:=p;simp only [List.map_cons,List.mem_cons,not_or] at h;simp only [ze];rw [ih h.2,zk,if_neg (λ e=>h.1 e.symm)]
structure After (cx:Cx) (w:World) (σ:St) (μ:Mu) (w':World) (σ':St) (μ':Mu):Prop where
 inv:Inv cx w' σ' μ'
 goes:Goes w σ μ w' σ' μ'
 still:∀ id o,zf σ id=some o→yx μ id o μ' (zf σ' id)
 fr:μ'.fr=μ.fr
theorem yx.refl(μ:Mu)(id:Nat)(o:Ob):yx μ id o μ (some o):=by
 cases o <;> simp [yx]
theorem yx.trans{μ μ' μ'':Mu}{id:Nat}{o:Ob}{σ' σ'':St}(h:yx μ id o μ' (zf σ' id))(h':∀ o',zf σ' id=some o'→yx μ' id o' μ'' (zf σ'' id)) :
  yx μ id o μ'' (zf σ'' id):=by
 cases ho:zf σ' id with
 | none=>rw [ho] at h; cases o <;> exact h.elim
 | some o'=>
  have h2:=h' o' ho;rw [ho] at h;cases hq:zf σ'' id with
  | none=>rw [hq] at h2; cases o' <;> exact h2.elim
  | some q=>
   rw [hq] at h2;cases o <;> cases o' <;> simp only [yx] at h <;> cases q <;> simp only [yx] at h2 ⊢
   ·exact ⟨h2.1.trans h.1,h2.2.trans h.2⟩
   ·refine ⟨Nat.le_trans h.1 h2.1,λ e=>?_⟩;have e1:=Nat.le_antisymm h.1 (e ▸ h2.1);exact (h2.2 (e1 ▸ e)).trans (h.2 e1)
   ·refine ⟨Nat.le_trans h.1 h2.1,λ e=>?_⟩;have e1:=Nat.le_antisymm h.1 (e ▸ h2.1);exact (h2.2 (e1 ▸ e)).trans (h.2 e1)
   ·exact h2.trans h
theorem After.refl{cx:Cx}{w:World}{σ:St}{μ:Mu}(h:Inv cx w σ μ):After cx w σ μ w σ μ:=
 ⟨h,Goes.refl w σ μ,λ id o ho=>by rw [ho]; exact yx.refl μ id o,rfl⟩
theorem After.trans{cx:Cx}{w w' w'':World}{σ σ' σ'':St}{μ μ' μ'':Mu}(h:After cx w σ μ w' σ' μ')(h':After cx w' σ' μ' w'' σ'' μ''):After cx w σ μ w'' σ'' μ'':=
 ⟨h'.inv,h.goes.trans h'.goes,λ id o ho=>(h.still id o ho).trans λ o' ho'=>h'.still id o' ho',h'.fr.trans h.fr⟩
theorem After.rv{cx:Cx}{w w':World}{σ σ':St}{μ μ':Mu}(h:After cx w σ μ w' σ' μ')(hi:Inv cx w σ μ){v:Value}{x:V}(hv:RV w σ μ v x):RV w' σ' μ' v x:=
 hv.stays (h.goes.stays' hi) λ id _ o ho=>h.still id o ho
theorem After.frs{cx:Cx}{w w':World}{σ σ':St}{μ μ':Mu}(h:After cx w σ μ w' σ' μ')(hi:Inv cx w σ μ){tmps:Array Value}{fr:Fr}(hf:FR w σ μ tmps fr):FR w' σ' μ' tmps fr:=
 λ t v ht=>h.rv hi (hf t v ht)
structure Upd (cx:Cx) (w:World) (σ:St) (μ:Mu) (w':World) (σ':St) (μ':Mu) (ids:List Nat):Prop where
 os:w'.os=w.os
 output:w'.output=w.output
 size:w.heap.size≤w'.heap.size
 blk:∀ b,b<w.heap.size→(∀ id∈ids,∀ o,zf σ id=some o→∀ i,¬ owns μ id o b i)→w'.heap[b]?=w.heap[b]?
 cell:∀ b i x,(∀ id∈ids,∀ o,zf σ id=some o→¬ owns μ id o b i)→w.cell? ⟨b,i,none⟩=some x→w'.cell? ⟨b,i,none⟩=some x
 fr:μ'.fr=μ.fr
 same:∀ j,j ∉ ids→zf σ' j=zf σ j∧μ' j=μ j
 own:∀ id∈ids,∀ o',zf σ' id=some o'→∀ b i,owns μ' id o' b i→b<w.heap.size→∃ o,zf σ id=some o∧owns μ id o b i
 still:∀ id∈ids,∀ o,zf σ id=some o→yx μ id o μ' (zf σ' id)
 apart:∀ id∈ids,∀ id'∈ids,∀ o o' b i,zf σ' id=some o→zf σ' id'=some o'→owns μ' id o b i→owns μ' id' o' b i→w.heap.size≤b→id=id'
theorem x2{μ μ':Mu}{id:Nat}(h:μ' id=μ id)(o:Ob)(b i:Nat):owns μ' id o b i↔owns μ id o b i:=by
 cases o <;> simp [owns,h]
theorem zb6{cx:Cx}{w:World}{σ:St}{μ:Mu}(h:Inv cx w σ μ){id:Nat}{o:Ob}(ho:zf σ id=some o){b i:Nat}(hb:owns μ id o b i):b<w.heap.size:=by
 have:=h.ob id o ho;cases o with
 | val n v=>obtain ⟨b',cs,el,hb',hh,_⟩:=this; have:b'=b:=(by simpa [owns,hb'] using hb); subst this; exact lt_of_heap hh
 | row l=>obtain ⟨cs,el,hh,_⟩:=this b hb; exact lt_of_heap hh
 | tok n=>obtain ⟨cs,el,fr,hh,_⟩:=this b hb.1; exact lt_of_heap hh
 | map ks vs=>obtain ⟨b',es,clock,hb',hh,_⟩:=this; have:b'=b:=(by simpa [owns,hb'] using hb); subst this; exact lt_of_heap hh
theorem Upd.goes{cx:Cx}{w w':World}{σ σ':St}{μ μ':Mu}{ids:List Nat}(h:Upd cx w σ μ w' σ' μ' ids):Goes w σ μ w' σ' μ' where
 kept:={
  os:=h.os
  output:=h.output
  size:=h.size
  blk:=λ b hb hn=>h.blk b hb λ id _ o ho i hown=>hn i ⟨id,o,ho,hown⟩
  cell:=λ b i x hn hc=>h.cell b i x (λ id _ o ho hown=>hn ⟨id,o,ho,hown⟩) hc }
 own:=λ b i hb ho=>by
  obtain ⟨id,o,ho,hown⟩:=ho;by_cases hm:id∈ids
  ·obtain ⟨o',ho',hown'⟩:=h.own id hm o ho b i hown hb;exact ⟨id,o',ho',hown'⟩
  ·obtain ⟨e1,e2⟩:=h.same id hm;exact ⟨id,o,e1 ▸ ho,(x2 e2 o b i).1 hown⟩
 fr:=h.fr
theorem Upd.stillAll{cx:Cx}{w w':World}{σ σ':St}{μ μ':Mu}{ids:List Nat}(h:Upd cx w σ μ w' σ' μ' ids)(id:Nat)(o:Ob)(ho:zf σ id=some o) :
  yx μ id o μ' (zf σ' id):=by
 by_cases hm:id∈ids
 ·exact h.still id hm o ho
 ·obtain ⟨e1,e2⟩:=h.same id hm;rw [e1,ho];cases o <;> simp [yx,e2]
theorem RVs.map{w w':World}{σ σ':St}{μ μ':Mu}{vs:List Value}{l:List V}(h:RVs w σ μ vs l)(f:∀ v x,x∈l→RV w σ μ v x→RV w' σ' μ' v x):RVs w' σ' μ' vs l:=
 ⟨h.1,λ i x y hx hy=>f x y (pz hy) (h.2 i x y hx hy)⟩
theorem RDs.stays{w w':World}{own own':Own}(hs:Stays w own w' own'){vs:List Value}{l:List D}(h:RDs w own vs l):RDs w' own' vs l:=
 ⟨h.1,λ i x y hx hy=>(h.2 i x y hx hy).stays hs⟩
theorem Upd.inv{cx:Cx}{w w':World}{σ σ':St}{μ μ':Mu}{ids:List Nat}(h:Upd cx w σ μ w' σ' μ' ids)(hi:Inv cx w σ μ)
  (hob:∀ id∈ids,∀ o',zf σ' id=some o'→zay w' σ' μ' id o'):Inv cx w' σ' μ':=by
 have hs:=h.goes.stays' hi;have rv:∀ v x,RV w σ μ v x→RV w' σ' μ' v x:=λ v x hv=>hv.stays hs λ id _ o ho=>h.stillAll id o ho;have frOwn:∀ id o b i,zf σ' id=some o→owns μ' id o b i→∀ j,¬ μ'.fr b j:=by
  intro id o b i ho hown j hf;rw [h.fr] at hf;by_cases hm:id∈ids
  ·obtain ⟨q,hq,hqo⟩:=h.own id hm o ho b i hown (hi.frLt b j hf);exact hi.frame id q b i hq hqo j hf
  ·obtain ⟨e1,e2⟩:=h.same id hm;exact hi.frame id o b i (e1 ▸ ho) ((x2 e2 o b i).1 hown) j hf
 refine ⟨λ id o ho=>?_,λ id id' o o' b i ho ho' hb hb'=>?_,λ g x hg=>?_,frOwn,λ b i hf=>?_,λ r es clock i hm hf=>?_⟩
 ·by_cases hm:id∈ids
  ·exact hob id hm o ho
  ·obtain ⟨e1,e2⟩:=h.same id hm;rw [e1] at ho;have hok:=hi.ob id o ho
   -- none of the changed objects owns anything in this object's block
   have hfree:∀ b,(μ id).blk=some b→∀ id'∈ids,∀ o',zf σ id'=some o'→∀ i,¬ owns μ id' o' b i:=by
    intro b hb id' hm' o' ho' i hown;refine hm ?_;have key:∃ k,owns μ id o b k∧owns μ id' o' b k:=by
     refine ⟨max i (max (μ id).f (μ id').f),?_,?_⟩
     ·cases o <;> simp only [owns,hb,true_and] <;> omega
     ·cases o' <;> simp only [owns] at hown ⊢ <;> first | exact hown | exact ⟨hown.1,by omega⟩
    obtain ⟨k,h1,h2⟩:=key;have:=hi.apart id id' o o' b k ho ho' h1 h2;exact this ▸ hm'
   cases o with
   | val n v=>
    obtain ⟨b,cs,el,hb,hh,hn,ht,h1,hr,htag⟩:=hok;exact ⟨b,cs,el,e2 ▸ hb,(h.blk b (lt_of_heap hh) (hfree b hb)).trans hh,hn,ht,h1,hr.map λ v x _=>rv v x,htag⟩
   | row l=>
    show w7 w' (zp σ' μ') (μ' id) l;rw [e2];refine w7.stays hs hok λ b hb hsome=>?_;obtain ⟨x,hx⟩:=Option.isSome_iff_exists.1 hsome;exact h.blk b (lt_of_heap hx) (hfree b hb)
   | tok n=>
    intro b hb;rw [e2] at hb ⊢;obtain ⟨cs,el,fr,hh,hz⟩:=hok b hb;exact ⟨cs,el,fr,(h.blk b (lt_of_heap hh) (hfree b hb)).trans hh,hz⟩
   | map ks vs=>
    obtain ⟨b,es,clock,hb,hh,hk,hv⟩:=hok;exact ⟨b,es,clock,e2 ▸ hb,(h.blk b (lt_of_heap hh) (hfree b hb)).trans hh,hk.stays hs,hv.stays hs⟩
 ·-- apart
  by_cases hlt:b<w.heap.size
  ·have back:∀ id o,zf σ' id=some o→owns μ' id o b i→∃ o,zf σ id=some o∧owns μ id o b i:=by
    intro id o ho hb;by_cases hm:id∈ids
    ·exact h.own id hm o ho b i hb hlt
    ·obtain ⟨e1,e2⟩:=h.same id hm;exact ⟨o,e1 ▸ ho,(x2 e2 o b i).1 hb⟩
   obtain ⟨q,hq,hqb⟩:=back id o ho hb;obtain ⟨q',hq',hqb'⟩:=back id' o' ho' hb';exact hi.apart id id' q q' b i hq hq' hqb hqb'
  ·have new:∀ id o,zf σ' id=some o→owns μ' id o b i→id∈ids:=by
    intro id o ho hb;refine Classical.byContradiction λ hm=>hlt ?_;obtain ⟨e1,e2⟩:=h.same id hm;exact zb6 hi (e1 ▸ ho) ((x2 e2 o b i).1 hb)
   exact h.apart id (new id o ho hb) id' (new id' o' ho' hb') o o' b i ho ho' hb hb' (Nat.le_of_not_lt hlt)
 ·obtain ⟨xs,hc,hr⟩:=hi.glob g x hg;exact ⟨xs,λ j hj=>⟨(hs.cell _ _ _ (hc j hj).2.1 (hc j hj).1).1,(hs.cell _ _ _ (hc j hj).2.1 (hc j hj).1).2,(hc j hj).2.2⟩,λ j c hj=>(hr j c hj).stays hs⟩
 ·rw [h.fr] at hf;exact Nat.lt_of_lt_of_le (hi.frLt b i hf) h.size
 ·rw [h.fr] at hf ⊢;have hlt:=hi.frLt r i hf;rw [h.blk r hlt λ id _ o ho k hown=>hi.frame id o r k ho hown i hf] at hm;exact hi.frMap r es clock i hm hf
theorem Upd.after{cx:Cx}{w w':World}{σ σ':St}{μ μ':Mu}{ids:List Nat}(h:Upd cx w σ μ w' σ' μ' ids)(hi:Inv cx w σ μ)
  (hob:∀ id∈ids,∀ o',zf σ' id=some o'→zay w' σ' μ' id o'):After cx w σ μ w' σ' μ':=⟨h.inv hi hob,h.goes,h.stillAll,h.fr⟩
def zbd(cx:Cx)(w:World)(σ:St)(μ:Mu)(a:Act)(o:Oper)(oc:Oc)(δ:De):Prop:=
 ∀ (next:Act→World→Prop) (Q:Exit→Act→World→Prop),
  (match oc with
  | .val v=>∀ v' w' μ',After cx w σ μ w' (ze σ δ) μ'→RV w' (ze σ δ) μ' v' v→next (a.put o.dst v') w'
  | .pan v=>∀ x w' μ',After cx w σ μ w' (ze σ δ) μ'→RV w' (ze σ δ) μ' x v→Q (.panic [{ v:=x,recovered:=false }]) a w') →
  o.wp cx.P a w next Q
theorem zbd.value{cx:Cx}{w:World}{σ:St}{μ:Mu}{a:Act}{o:Oper}{v:V}(hi:Inv cx w σ μ)(v':Value)
  (hr:(execOp a.eval o).run cx.P w=.ok (.value v') w) (hv:RV w σ μ v' v):zbd cx w σ μ a o (.val v) []:=by
 intro next Q h
 unfold Oper.wp;rw [hr];exact h v' w μ (After.refl hi) hv
theorem zv8{w:World}{own:Own}{v:Value}{x:D}(h:ztv v=some x):RD w own v x∧v.oneCell'=true:=by
 cases v <;> simp only [ztv] at h
 case bool b=>cases h; exact ⟨.bool b,rfl⟩
 case int k n=>cases h; exact ⟨.int k n,rfl⟩
 case string s=>
  cases h;have:s=y8 s.data.toList:=by simp [y8]
  exact ⟨by rw [this]; exact .str _,rfl⟩
 case slice a l c=>
  cases a with
  | some q=>simp at h
  | none=>
   cases l with
   | succ k=>simp at h
   | zero=>
    cases c with
    | succ k=>simp at h
    | zero=>simp at h; subst h; exact ⟨.sl0 none 0 0,rfl⟩
 case pointer a=>cases a <;> simp at h; cases h; exact ⟨.nilptr,rfl⟩
 case map r=>cases r <;> simp at h; cases h; exact ⟨.nilmap,rfl⟩
 case nilFunc=>cases h; exact ⟨.nilfunc,rfl⟩
 case nilIface=>cases h; exact ⟨.nilIface,rfl⟩
 all_goals cases h
theorem zoy{w:World}{own:Own}:∀ {vs:List Value} {l:List D},zp2 vs=some l→vs.length=l.length∧(∀ x∈vs,x.oneCell'=true)∧∀ (i:Nat) x y,vs[i]?=some x→l[i]?=some y→RD w own x y
 | [],l,h=>by cases h; simp
 | v::vs,l,h=>by
  simp only [zp2] at h;split at h
  ·rename_i x r hx hr;cases h;obtain ⟨h1,h2,h3⟩:=zoy (w:=w) (own:=own) hr;obtain ⟨g1,g2⟩:=zv8 (w:=w) (own:=own) hx;refine ⟨by simp [h1],λ q hq=>?_,λ i p q hp hq=>?_⟩
   ·cases hq with | head=>exact g2 | tail _ hq=>exact h2 q hq
   ·cases i with
    | zero=>simp at hp hq; subst hp; subst hq; exact g1
    | succ i=>exact h3 i p q (by simpa using hp) (by simpa using hq)
  ·cases h
theorem zv7{w:World}{σ:St}{μ:Mu}{v:Value}{x:V}(h:ztu v=some x):RV w σ μ v x:=by
 cases v <;> simp only [ztu] at h
 case bool b=>cases h; exact .d _ _ (.bool b)
 case int k n=>cases h; exact .d _ _ (.int k n)
 case string s=>
  cases h;have:s=y8 s.data.toList:=by simp [y8]
  exact .d _ _ (by rw [this]; exact .str _)
 case pointer a=>cases a <;> simp at h; cases h; exact .d _ _ .nilptr
 case map r=>cases r <;> simp at h; cases h; exact .d _ _ .nilmap
 case nilFunc=>cases h; exact .d _ _ .nilfunc
 case nilIface=>cases h; exact .d _ _ .nilIface
 case agg cs=>
  split at h
  ·rename_i l hl;cases h;obtain ⟨h1,h2,h3⟩:=zoy (w:=w) (own:=zp σ μ) hl;exact .d _ _ (.agg cs l (by simpa using h1) h2 λ i x y hx hy=>h3 i x y (by simpa using hx) hy)
  ·cases h
 all_goals cases h
theorem xg{w:World}{σ:St}{μ:Mu}{a:Act}{fr:Fr}(hf:FR w σ μ a.tmps fr){x:Operand}{v:V}(h:opd fr x=some v):RV w σ μ (a.eval x) v:=by
 cases x with
 | tmp t=>exact hf t v h
 | const c=>exact zv7 h
 | global g=>simp only [opd,Option.some.injEq] at h; subst h; exact .gptr g 0
 | func f=>simp only [opd,Option.some.injEq] at h; subst h; exact .func f #[] [] rfl (by simp)
theorem x5{w:World}{σ:St}{μ:Mu}{P:Program}{t:Nat}{a:Act}{fr:Fr}(hf:FR w σ μ a.tmps fr){x:Operand}{v:V}(h:zct P t fr x=some v) :
  RV w σ μ (a.eval x) v:=by
 unfold zct at h;split at h
 ·split at h
  ·cases h; exact .d _ _ (.sl0 none 0 _)
  ·cases h
 ·exact xg hf h
theorem zb{α R:Type}{o:Option α}{K:α→Option R}{r:R}(h:za o K=some r):∃ x,o=some x∧K x=some r:=by
 cases o with
 | none=>cases h
 | some x=>exact ⟨x,rfl,h⟩
theorem zd{R:Type}{b:Bool}{K:Option R}{r:R}(h:zh b K=some r):b=true∧K=some r:=by
 cases b
 ·cases h
 ·exact ⟨rfl,h⟩
theorem zih{R:Type}{v:V}{K:Bool→Option R}{r:R}(h:asB v K=some r):∃ b,v=.d (.bool b)∧K b=some r:=by
 unfold asB at h;split at h
 ·exact ⟨_,rfl,h⟩
 ·cases h
theorem zhg{R:Type}{x:D}{k:IntKind}{K:Int→Option R}{r:R}(h:asInt x k K=some r):∃ n,x=.int k n∧K n=some r:=by
 unfold asInt at h;split at h
 ·rename_i k' n;by_cases e:k'=k
  ·subst e; simp at h; exact ⟨n,rfl,h⟩
  ·simp [e] at h
 ·cases h
theorem zfx{R:Type}{x:D}{K:Bool→Option R}{r:R}(h:asBool x K=some r):∃ b,x=.bool b∧K b=some r:=by
 unfold asBool at h;split at h
 ·exact ⟨_,rfl,h⟩
 ·cases h
theorem zhf{R:Type}{x:D}{K:List UInt8→Option R}{r:R}(h:zj2 x K=some r):∃ b,x=.str b∧K b=some r:=by
 unfold zj2 at h;split at h
 ·exact ⟨_,rfl,h⟩
 ·cases h
theorem zcy{R:Type}{x:D}{n:Nat}{K:D→Option R}{r:R}(h:asAgg x n K=some r):∃ l,x=.agg l∧l.length=n∧K x=some r:=by
 unfold asAgg at h;split at h
 ·rename_i l;cases e:Nat.beq l.length n
  ·simp [e] at h
  ·simp [e] at h; exact ⟨l,rfl,po e,h⟩
 ·cases h
theorem zjh{R:Type}{x:D}{sz:Nat}{K:List D→Option R}{r:R}(h:zr8 x sz K=some r):∃ s l,x=.sl s l∧(s=sz∨l=[])∧K l=some r:=by
 unfold zr8 at h;split at h
 ·rename_i s l;cases e:Nat.beq s sz||l.isEmpty
  ·simp [e] at h
  ·simp [e] at h;refine ⟨s,l,rfl,?_,h⟩;simp at e;rcases e with e | e
   ·exact .inl e
   ·exact .inr e
 ·cases h
theorem za9{R:Type}{v:V}{K:D→Option R}{r:R}(h:asD v K=some r):∃ x,v=.d x∧K x=some r:=by
 unfold asD at h;split at h
 ·exact ⟨_,rfl,h⟩
 ·cases h
theorem qa{R:Type}{l:List D}{i:Nat}{K:D→Option R}{r:R}(h:vh l i K=some r):∃ x,l[i]?=some x∧K x=some r:=by
 unfold vh at h;split at h
 ·rename_i x hx; exact ⟨x,hx,h⟩
 ·cases h
theorem zgb{R:Type}{l:List V}{i:Nat}{K:V→Option R}{r:R}(h:zq5 l i K=some r):∃ x,l[i]?=some x∧K x=some r:=by
 unfold zq5 at h;split at h
 ·rename_i x hx; exact ⟨x,hx,h⟩
 ·cases h
theorem zqi{R:Type}{l:List V}{K:V→List V→Option R}{r:R}(h:unc l K=some r):∃ v q,l=v::q∧K v q=some r:=by
 unfold unc at h;split at h
 ·exact ⟨_,_,rfl,h⟩
 ·cases h
theorem zqf{R:Type}{l:List V}{K:Option R}{r:R}(h:unn l K=some r):l=[]∧K=some r:=by
 unfold unn at h;split at h
 ·exact ⟨rfl,h⟩
 ·cases h
theorem zmp{R:Type}{v:V}{K:List V→Option R}{r:R}(h:zmr v K=some r):∃ l,v=.tup l∧K l=some r:=by
 unfold zmr at h;split at h
 ·exact ⟨_,rfl,h⟩
 ·cases h
theorem zb4{R:Type}{x:D}:∀ (n off:Nat) {K:List D→Option R} {r:R},zc4 x off n K=some r→((x.cells.drop off).take n).length=n∧K ((x.cells.drop off).take n)=some r
 | 0,off,K,r,h=>⟨by simp,by simpa [zc4] using h⟩
 | n+1,off,K,r,h=>by
  obtain ⟨c,hc,h⟩:=qa h;obtain ⟨h1,h2⟩:=zb4 n (off+1) h;have hlt:=(pr.1 hc).1;have e:x.cells.drop off=c::x.cells.drop (off+1):=by
   rw [List.drop_eq_getElem_cons hlt];rw [p9 hlt] at hc;rw [Option.some.inj hc]
  rw [e,List.take_succ_cons];exact ⟨by rw [p7,h1],h2⟩
theorem RD.sl_sz{w:World}{own:Own}{v:Value}{s sz:Nat}{l:List D}(h:RD w own v (.sl s l))(he:s=sz∨l=[]):RD w own v (.sl sz l):=by
 rcases he with rfl | rfl
 ·exact h
 ·cases h with
  | sl0 base cap _=>exact .sl0 base cap sz
  | sl b o n cap _ _ xs hn hcap hsz hc h=>simp at hn; subst hn; exact .sl0 _ cap sz
theorem zft{R:Type}{P:Program}{w:World}{σ:St}{μ:Mu}{t:Nat}{x:D}{K:V→Option R}{r:R}(h:zby P t x K=some r){v:Value}(hv:RD w (zp σ μ) v x) :
  ∃ u,K u=some r∧RV w σ μ v u:=by
 unfold zby at h;split at h
 ·obtain ⟨n,rfl,h2⟩:=zhg h; exact ⟨_,h2,.d _ _ hv⟩
 ·obtain ⟨n,rfl,h2⟩:=zfx h; exact ⟨_,h2,.d _ _ hv⟩
 ·obtain ⟨n,rfl,h2⟩:=zhf h; exact ⟨_,h2,.d _ _ hv⟩
 ·obtain ⟨s,l,rfl,he,h2⟩:=zjh h; exact ⟨_,h2,.d _ _ (hv.sl_sz he)⟩
 ·obtain ⟨l,_,_,h2⟩:=zcy h; exact ⟨_,h2,.d _ _ hv⟩
 ·obtain ⟨l,_,_,h2⟩:=zcy h; exact ⟨_,h2,.d _ _ hv⟩
 ·split at h
  ·cases h
  ·exact ⟨_,h,.d _ _ hv⟩
 ·cases h
theorem zmb{R:Type}{P:Program}{w:World}{σ:St}{μ:Mu}{t:Nat}{x:V}{K:V→Option R}{r:R}(h:zb2 P t x K=some r){v:Value}(hv:RV w σ μ v x) :
  ∃ u,K u=some r∧RV w σ μ v u:=by
 unfold zb2 at h;split at h
 ·cases hv with | d _ _ hd=>exact zft h hd
 ·exact ⟨_,(zd h).2,hv⟩
theorem zdr{w:World}{σ:St}{μ:Mu}{cs:Array Value}{l:List V}(ho:∀ x∈cs.toList,x.oneCell'=true)(h:RVs w σ μ cs.toList l):RV w σ μ (.agg cs) (za4 l):=by
 unfold za4;have key:∀ (vs:List Value) (l:List V) (ds:List D),RVs w σ μ vs l→zcm l=some ds→RDs w (zp σ μ) vs ds:=by
  intro vs l
  induction l generalizing vs with
  | nil=>intro ds h hu; simp only [zcm,Option.some.injEq] at hu; subst hu; exact ⟨h.1,by simp⟩
  | cons x r ih=>
   intro ds h hu;cases vs with
   | nil=>simp [RVs] at h
   | cons v vs=>
    cases x <;> simp only [zcm] at hu <;> try (cases hu; done)
    rename_i x;split at hu
    ·rename_i ds' hds;simp only [Option.some.injEq] at hu;subst hu;have h0:RV w σ μ v (.d x):=h.2 0 v (.d x) rfl rfl;have hr:RVs w σ μ vs r:=⟨by simpa [RVs] using h.1,λ i a b ha hb=>h.2 (i+1) a b (by simpa using ha) (by simpa using hb)⟩
     have:=ih vs ds' hr hds;refine ⟨by simp [this.1],λ i a b ha hb=>?_⟩
     cases i with
     | zero=>simp at ha hb; subst ha; subst hb; cases h0 with | d _ _ hd=>exact hd
     | succ i=>exact this.2 i a b (by simpa using ha) (by simpa using hb)
    ·cases hu
 split
 ·rename_i ds hds;have:=key _ _ _ h hds;exact .d _ _ (.agg cs ds (by simpa using this.1) ho λ i x y hx hy=>this.2 i x y (by simpa using hx) hy)
 ·exact .agg cs l (by simpa using h.1) ho λ i x y hx hy=>h.2 i x y (by simpa using hx) hy
theorem V.cells_ok{w:World}{σ:St}{μ:Mu}{v:Value}{x:V}(h:RV w σ μ v x):RVs w σ μ v.cells.toList x.cells:=by
 cases h with
 | d v x hd=>
  cases hd with
  | agg cs l hl ho h=>
   refine ⟨by simp [Value.cells,V.cells,hl],λ i a b ha hb=>?_⟩
   simp only [V.cells,List.getElem?_map,Option.map_eq_some_iff] at hb;obtain ⟨y,hy,rfl⟩:=hb;exact .d _ _ (h i a y (by simpa [Value.cells] using ha) hy)
  | _=>exact ⟨rfl,λ i a b ha hb=>by
    cases i with
    | zero=>simp [Value.cells,V.cells] at ha hb; subst ha; subst hb; first | exact .d _ _ (by first | exact .int _ _ | exact .bool _ | exact .str _ | exact .sl0 _ _ _ | exact .nilIface | exact .nilptr | exact .nilmap | exact .nilfunc | assumption) | exact .d _ _ (.sl _ _ _ _ _ _ _ ‹_› ‹_› ‹_› ‹_› ‹_›) | exact .d _ _ (.map _ _ _ _ _ ‹_› ‹_› ‹_› ‹_› ‹_› ‹_›) | exact .d _ _ (.iface _ _ _ ‹_›)
    | succ i=>simp [Value.cells] at ha⟩
 | agg cs l hl ho h=>exact ⟨by simpa [Value.cells,V.cells] using hl,λ i a b ha hb=>h i a b (by simpa [Value.cells] using ha) hb⟩
 | ptr id off b hc hb=>exact ⟨rfl,λ i a b' ha hb'=>by cases i <;> simp [Value.cells,V.cells] at ha hb'; subst ha; subst hb'; exact .ptr id off b hc hb⟩
 | eptr x b o off xs hc h=>exact ⟨rfl,λ i a b' ha hb'=>by cases i <;> simp [Value.cells,V.cells] at ha hb'; subst ha; subst hb'; exact .eptr x b o off xs hc h⟩
 | gptr g off=>exact ⟨rfl,λ i a b' ha hb'=>by cases i <;> simp [Value.cells,V.cells] at ha hb'; subst ha; subst hb'; exact .gptr g off⟩
 | sl v sz l id n h ht hn he=>
  have hv:v.cells = #[v]:=by cases h <;> rfl
  exact ⟨by simp [hv,V.cells],λ i a b' ha hb'=>by cases i <;> simp [hv,V.cells] at ha hb'; subst ha; subst hb'; exact .sl v sz l id n h ht hn he⟩
 | slo id sz k cap base l hi hk hcap hn he=>exact ⟨rfl,λ i a b' ha hb'=>by cases i <;> simp [Value.cells,V.cells] at ha hb'; subst ha; subst hb'; exact .slo id sz k cap base l hi hk hcap hn he⟩
 | wptr id sz k i off q l hi hk he=>exact ⟨rfl,λ i a b' ha hb'=>by cases i <;> simp [Value.cells,V.cells] at ha hb'; subst ha; subst hb'; exact .wptr id sz k _ off q l hi hk he⟩
 | func f cs l hl h=>exact ⟨rfl,λ i a b' ha hb'=>by cases i <;> simp [Value.cells,V.cells] at ha hb'; subst ha; subst hb'; exact .func f cs l hl h⟩
 | mfunc f cs l h=>exact ⟨rfl,λ i a b' ha hb'=>by cases i <;> simp [Value.cells,V.cells] at ha hb'; subst ha; subst hb'; exact .mfunc f cs l h⟩
 | map id b ks vs hi hb=>exact ⟨rfl,λ i a b' ha hb'=>by cases i <;> simp [Value.cells,V.cells] at ha hb'; subst ha; subst hb'; exact .map id b ks vs hi hb⟩
 | iface t v u h=>exact ⟨rfl,λ i a b' ha hb'=>by cases i <;> simp [Value.cells,V.cells] at ha hb'; subst ha; subst hb'; exact .iface t v u h⟩
 | tup cs l hl h=>exact ⟨rfl,λ i a b' ha hb'=>by cases i <;> simp [Value.cells,V.cells] at ha hb'; subst ha; subst hb'; exact .tup cs l hl h⟩
end Go.Vai
end
