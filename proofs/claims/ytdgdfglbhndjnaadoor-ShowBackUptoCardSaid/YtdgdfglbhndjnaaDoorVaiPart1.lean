/-
  An interpreter of the program's code over plain values, without memory: what a call answers, where it can be told. (Its soundness over the machine is proved in the texts behind it.)
  How the interpreter's values, variables and worlds stand for the machine's.
  What an operation may do to variables and worlds, and that all else stands as it stood.
  Each operation of the interpreter is the machine's: operands, plain computations.
-/
import Derived.Calls
import Derived.Orders
import Derived.LoopN
import Derived.Defers
import Derived.Recover
import Derived.KernelRfl
import Derived.Laws.World
import Derived.Laws.Cells
import Derived.Laws.Sem
import Derived.WalkKit
import Derived.WalkLawsBesides

set_option linter.all false
set_option linter.unusedSimpArgs false
set_option linter.unusedVariables false

section
namespace Go.Vai

/-- Plain data. -/
inductive D where
  | int (k : IntKind) (n : Int)
  | bool (b : Bool)
  | str (s : List UInt8)
  | agg (l : List D)
  | sl (sz : Nat) (l : List D)
  | map (ks vs : List D)
  | iface (t : Nat) (x : D)
  | nilIface
  | nilptr
  | nilmap
  | nilfunc
  deriving Inhabited

/-- Values: data; addresses; slices that may be appended to; closures. -/
inductive V where
  | d (x : D)
  | ptr (id off : Nat)
  | eptr (x : D) (off : Nat)
  | gptr (g off : Nat)
  | agg (l : List V)
  | sl (sz : Nat) (l : List D) (id : Nat)
  | slo (id off len : Nat)
  | func (f : Nat) (cap : List V)
  | map (id : Nat)
  | iface (t : Nat) (v : V)
  | tup (l : List V)
  deriving Inhabited

/-- What an address leads to: a variable of so many cells; how long the slice is that may be appended to; a map. -/
inductive Ob where
  | val (n : Nat) (v : V)
  | row (l : List D)
  | tok (n : Nat)
  | map (ks vs : List D)
  deriving Inhabited

/-- How many cells a variable has, out of its number: the number may tell the type of its memory, too. -/
def szN (n : Nat) : Nat := n % 1048576
/-- The memory's type is what the number tells. -/
def tagOk (n el : Nat) : Prop := n < 1048576 ∨ n / 1048576 = el + 1
def tagO (n el o k : Nat) : Prop := n < 1048576 ∨ (n / 1048576 = el + 1 ∧ o = 0 ∧ 0 < k)
def tagB (n el : Nat) : Bool := Nat.blt n 1048576 || Nat.beq (n / 1048576) (el + 1)

abbrev St := List (Nat × Ob)
abbrev Fr := List (Nat × V)

inductive Out where
  | ret (v : V)
  | pan (v : V)
  deriving Inhabited

inductive Ex where
  | normal
  | exit (id : Nat)
  | goto (l : Nat)
  | ret
  | pan (v : V)

/-- What is known of the program beside its text. -/
structure Cx where
  P : Program
  live : Nat → Nat → List Nat
  glob : Nat → Option D
  keep : Nat → Bool
  dom : Nat → List V → Bool := fun _ _ => true
  dfr : Nat → Bool := fun _ => false
  gives : Nat → Bool := fun _ => false
  pend : Nat → Nat → Option Nat := fun _ _ => none
  flat : Nat → Nat → List Nat := fun _ _ => []
  bare : Nat → Nat → Bool := fun _ _ => false
  typed : Nat → Nat → Bool := fun _ _ => false
  tagS : Nat → Nat → Nat := fun _ _ => 0
  nat : Nat → List V → St → Option (Out × St) := fun _ _ _ => none

def getA {α : Type} : List (Nat × α) → Nat → Option α
  | [], _ => none
  | (j, x) :: r, i => bif Nat.beq j i then some x else getA r i

def putA {α : Type} : List (Nat × α) → Nat → α → List (Nat × α)
  | [], i, y => [(i, y)]
  | (j, x) :: r, i, y => bif Nat.beq j i then (i, y) :: r else (j, x) :: putA r i y

def D.cells : D → List D
  | .agg l => l
  | x => [x]

def V.cells : V → List V
  | .d (.agg l) => l.map .d
  | .agg l => l
  | v => [v]

def unds : List V → Option (List D)
  | [] => some []
  | .d x :: r => (match unds r with | some l => some (x :: l) | none => none)
  | _ :: _ => none

def mkAgg (l : List V) : V := match unds l with | some ds => .d (.agg ds) | none => .agg l

mutual
def V.ids : V → List Nat
  | .d _ | .eptr .. | .gptr .. => []
  | .ptr id _ | .sl _ _ id | .slo id _ _ | .map id => [id]
  | .agg l | .func _ l | .tup l => V.idsL l
  | .iface _ v => v.ids
def V.idsL : List V → List Nat
  | [] => []
  | v :: r => v.ids ++ V.idsL r
end

mutual
def V.ren (f : Nat → Nat) : V → V
  | .d x => .d x
  | .eptr x o => .eptr x o
  | .gptr g o => .gptr g o
  | .ptr id o => .ptr (f id) o
  | .sl s l id => .sl s l (f id)
  | .slo id o n => .slo (f id) o n
  | .map id => .map (f id)
  | .agg l => .agg (V.renL f l)
  | .func g l => .func g (V.renL f l)
  | .tup l => .tup (V.renL f l)
  | .iface t v => .iface t (v.ren f)
def V.renL (f : Nat → Nat) : List V → List V
  | [] => []
  | v :: r => v.ren f :: V.renL f r
end

def Ob.ids : Ob → List Nat
  | .val _ v => v.ids
  | _ => []

def Ob.ren (f : Nat → Nat) : Ob → Ob
  | .val n v => .val n (v.ren f)
  | o => o

/-- All that one comes to. -/
def reach (σ : St) : Nat → List Nat → List Nat → List Nat
  | 0, _, seen => seen.reverse
  | _, [], seen => seen.reverse
  | n + 1, i :: todo, seen =>
    bif seen.elem i then reach σ n todo seen
    else match getA σ i with
      | some o => reach σ n (o.ids ++ todo) (i :: seen)
      | none => reach σ n todo seen

def posIn : List Nat → Nat → Nat
  | [], _ => 0
  | j :: r, i => bif Nat.beq j i then 0 else posIn r i + 1

def atIn : List Nat → Nat → Nat
  | [], _ => 0
  | j :: _, 0 => j
  | _ :: r, i + 1 => atIn r i

section
variable {R : Type}

/- Looks at what may be unknown, each with what comes behind it. -/
def asB (v : V) (K : Bool → Option R) : Option R := match v with | .d (.bool b) => K b | _ => none
def asInt (x : D) (k : IntKind) (K : Int → Option R) : Option R := match x with | .int k' n => bif decide (k' = k) then K n else none | _ => none
def asBool (x : D) (K : Bool → Option R) : Option R := match x with | .bool b => K b | _ => none
def asStr (x : D) (K : List UInt8 → Option R) : Option R := match x with | .str s => K s | _ => none
def asSl (x : D) (sz : Nat) (K : List D → Option R) : Option R := match x with | .sl s l => bif Nat.beq s sz || l.isEmpty then K l else none | _ => none
def asAgg (x : D) (n : Nat) (K : D → Option R) : Option R := match x with | .agg l => bif Nat.beq l.length n then K x else none | _ => none
def asD (v : V) (K : D → Option R) : Option R := match v with | .d x => K x | _ => none
def nthD (l : List D) (i : Nat) (K : D → Option R) : Option R := match l[i]? with | some x => K x | none => none
/-- So many cells of a value. -/
def spreadD (x : D) (off : Nat) : Nat → (List D → Option R) → Option R
  | 0, K => K []
  | n + 1, K => nthD x.cells off fun c => spreadD x (off + 1) n fun l => K (c :: l)
def nthV (l : List V) (i : Nat) (K : V → Option R) : Option R := match l[i]? with | some x => K x | none => none
def unc (l : List V) (K : V → List V → Option R) : Option R := match l with | v :: r => K v r | [] => none
def unn (l : List V) (K : Option R) : Option R := match l with | [] => K | _ => none
def asTup (v : V) (K : List V → Option R) : Option R := match v with | .tup l => K l | _ => none
def must (b : Bool) (K : Option R) : Option R := bif b then K else none

/-- A plain value, read as one of a type. -/
def castD (P : Program) (t : Nat) (x : D) (K : V → Option R) : Option R :=
  match P.underlying t with
  | some (.int k) => asInt x k fun n => K (.d (.int k n))
  | some .bool => asBool x fun b => K (.d (.bool b))
  | some .string => asStr x fun s => K (.d (.str s))
  | some (.slice e) => asSl x (P.cellsOf e) fun l => K (.d (.sl (P.cellsOf e) l))
  | some (.struct _) | some (.array ..) => asAgg x (P.cellsOf t) fun y => K (.d y)
  | some _ => (match x with | .agg _ => none | y => K (.d y))
  | none => none

def aggTy (P : Program) (t : Nat) : Bool := match P.underlying t with | some (.struct _) | some (.array ..) => true | _ => false

def hasTy (P : Program) (t : Nat) : Bool := match P.underlying t with | some _ => true | none => false

def V.aggV : V → Bool | .agg _ => true | _ => false
def V.aggish : V → Bool | .agg _ | .d (.agg _) => true | _ => false
def V.tupV : V → Bool | .tup _ => true | _ => false

def castV (P : Program) (t : Nat) (v : V) (K : V → Option R) : Option R :=
  match v with
  | .d x => castD P t x K
  | v => must (v.aggV == aggTy P t && !v.tupV) (K v)

end

/-- The zero value of a type, cell by cell. -/
def zeroCells (P : Program) : Nat → Nat → Option (List D)
  | 0, _ => none
  | n + 1, t =>
    match P.underlying t with
    | some (.int k) => some [.int k 0]
    | some .bool => some [.bool false]
    | some .string => some [.str []]
    | some (.slice e) => some [.sl (P.cellsOf e) []]
    | some (.pointer _) => some [.nilptr]
    | some (.map ..) => some [.nilmap]
    | some (.func ..) => some [.nilfunc]
    | some (.interface _) => some [.nilIface]
    | some (.struct fs) => fs.toList.foldr (fun f acc => match acc, zeroCells P n f.type with | some l, some k => some (k ++ l) | _, _ => none) (some [])
    | some (.array k e) => (match zeroCells P n e with | some l => some (List.replicate k l).flatten | none => none)
    | _ => none

/-- Is a value of the machine's, cell by cell, this zero value? -/
def zeroFits : List Value → List D → Bool
  | [], [] => true
  | .int k n :: r, .int k' n' :: q => decide (k = k') && decide (n = n') && zeroFits r q
  | .bool b :: r, .bool b' :: q => decide (b = b') && zeroFits r q
  | .string s :: r, .str [] :: q => Nat.beq s.size 0 && zeroFits r q
  | .slice none 0 0 :: r, .sl _ [] :: q => zeroFits r q
  | .pointer none :: r, .nilptr :: q => zeroFits r q
  | .map none :: r, .nilmap :: q => zeroFits r q
  | .nilFunc :: r, .nilfunc :: q => zeroFits r q
  | .nilIface :: r, .nilIface :: q => zeroFits r q
  | _, _ => false

def zAgg : Value → Bool | .agg _ => true | _ => false

def zeroOf (P : Program) (t : Nat) : Option (List D) :=
  match P.info? t, zeroCells P 8 t with
  | some i, some l => (match i.zero with | some z => bif hasTy P t && zAgg z == aggTy P t && zeroFits z.cells.toList l && Nat.beq l.length i.size then some l else none | none => none)
  | _, _ => none

def mkZero (P : Program) (t : Nat) (l : List D) : D := bif aggTy P t then .agg l else (match l with | [x] => x | _ => .nilIface)

/-- A constant's cell. -/
def constD : Value → Option D
  | .int k n => some (.int k n)
  | .bool b => some (.bool b)
  | .string s => some (.str s.data.toList)
  | .slice none 0 0 => some (.sl 0 [])
  | .pointer none => some .nilptr
  | .map none => some .nilmap
  | .nilFunc => some .nilfunc
  | .nilIface => some .nilIface
  | _ => none

def constL : List Value → Option (List D)
  | [] => some []
  | v :: r => (match constD v, constL r with | some x, some l => some (x :: l) | _, _ => none)

/-- The operands. -/
def constV : Value → Option V
  | .int k n => some (.d (.int k n))
  | .bool b => some (.d (.bool b))
  | .string s => some (.d (.str s.data.toList))
  | .pointer none => some (.d .nilptr)
  | .map none => some (.d .nilmap)
  | .nilFunc => some (.d .nilfunc)
  | .nilIface => some (.d .nilIface)
  | .agg cs => (match constL cs.toList with | some l => some (.d (.agg l)) | none => none)
  | _ => none

def opd (fr : Fr) : Operand → Option V
  | .tmp t => getA fr t
  | .const v => constV v
  | .global g => some (.gptr g 0)
  | .func f => some (.func f [])

/-- An operand where the type is known. -/
def opdT (P : Program) (t : Nat) (fr : Fr) (x : Operand) : Option V :=
  match x with
  | .const (.slice none 0 0) => (match P.underlying t with | some (.slice e) => some (.d (.sl (P.cellsOf e) [])) | _ => none)
  | x => opd fr x

inductive Oc where
  | val (v : V)
  | pan (v : V)

abbrev De := List (Nat × Ob)

def undefV : V := .tup []

def applyDe (σ : St) : De → St
  | [] => σ
  | (i, o) :: r => applyDe (putA σ i o) r

/- Whole numbers. -/
def bitsI (op : BinOp) (k : IntKind) (x y : Int) : Int :=
  let a := BitVec.ofInt k.bits x
  let b := BitVec.ofInt k.bits y
  k.wrap ((match op with | .and => a &&& b | .or => a ||| b | .xor => a ^^^ b | _ => a &&& ~~~b).toNat)

section
variable {R : Type}

def intOp (op : BinOp) (k : IntKind) (a b : Int) (K : V → Option R) : Option R :=
  match op with
  | .add => K (.d (.int k (k.wrap (a + b))))
  | .sub => K (.d (.int k (k.wrap (a - b))))
  | .mul => K (.d (.int k (k.wrap (a * b))))
  | .quo => must (!decide (b = 0)) (K (.d (.int k (k.wrap (a.tdiv b)))))
  | .rem => must (!decide (b = 0)) (K (.d (.int k (a.tmod b))))
  | .and => K (.d (.int k (bitsI .and k a b)))
  | .or => K (.d (.int k (bitsI .or k a b)))
  | .xor => K (.d (.int k (bitsI .xor k a b)))
  | .andNot => K (.d (.int k (bitsI .andNot k a b)))
  | .eql => K (.d (.bool (decide (a = b))))
  | .neq => K (.d (.bool (!decide (a = b))))
  | .lss => K (.d (.bool (decide (a < b))))
  | .leq => K (.d (.bool (decide (a ≤ b))))
  | .gtr => K (.d (.bool (decide (b < a))))
  | .geq => K (.d (.bool (decide (b ≤ a))))
  | _ => none

def strOp (op : BinOp) (a b : List UInt8) (K : V → Option R) : Option R :=
  match op with
  | .add => must (decide (a.length + b.length ≤ 4611686018427387904)) (K (.d (.str (a ++ b))))
  | .eql => K (.d (.bool (decide (a = b))))
  | .neq => K (.d (.bool (!decide (a = b))))
  | .lss => K (.d (.bool (Op.bytesLess a b)))
  | .leq => K (.d (.bool (Op.bytesLess a b || decide (a = b))))
  | .gtr => K (.d (.bool (!(Op.bytesLess a b || decide (a = b)))))
  | .geq => K (.d (.bool (!Op.bytesLess a b)))
  | _ => none

def shiftOp (op : BinOp) (k : IntKind) (a b : Int) (K : V → Option R) : Option R :=
  match op with
  | .shl => must (!decide (b < 0)) (K (.d (.int k (k.wrap (a * 2 ^ (min b.toNat k.bits))))))
  | .shr => must (!decide (b < 0)) (K (.d (.int k (a.fdiv (2 ^ (min b.toNat k.bits))))))
  | _ => none

/-- '==' and '!='. -/
def eqV (op : BinOp) (b : Bool) (K : V → Option R) : Option R :=
  match op with
  | .eql => K (.d (.bool b))
  | .neq => K (.d (.bool (!b)))
  | _ => none

def isIface (P : Program) (t : Nat) : Bool := match P.underlying t with | some (.interface _) => true | _ => false
def isBool (P : Program) (t : Nat) : Bool := match P.underlying t with | some .bool => true | _ => false
def isPtr (P : Program) (t : Nat) : Bool := match P.underlying t with | some (.pointer _) => true | _ => false

/-- A pointer's type, what it points to being known. -/
def isPtrK (P : Program) (t : Nat) : Bool := match P.underlying t with | some (.pointer e) => (P.info? e).isSome | _ => false

def binV (P : Program) (cst : Bool) (op : BinOp) (t : Nat) (x y : V) (K : V → Option R) : Option R :=
  match x, y with
  | .d (.int k a), .d (.int k' b) =>
    (match op with
     | .shl => shiftOp .shl k a b K
     | .shr => shiftOp .shr k a b K
     | op => bif decide (k = k') then intOp op k a b K else none)
  | .d (.str a), .d (.str b) => strOp op a b K
  | .d (.bool a), .d (.bool b) => must (isBool P t) (eqV op (a == b) K)
  | .d (.iface ..), .d .nilIface => must (isIface P t) (eqV op false K)
  | .iface .., .d .nilIface => must (isIface P t) (eqV op false K)
  | .d .nilIface, .d .nilIface => must (isIface P t && cst) (eqV op true K)
  | .ptr .., .d .nilptr => must (isPtr P t) (eqV op false K)
  | .d .nilptr, .d .nilptr => must (isPtr P t) (eqV op true K)
  | .ptr i a, .ptr j b => must (isPtrK P t && Nat.beq i j && Nat.beq a b) (eqV op true K)
  | _, _ => none

def unV (op : UnOp) (x : V) (K : V → Option R) : Option R :=
  match op, x with
  | .not, .d (.bool b) => K (.d (.bool (!b)))
  | .neg, .d (.int k n) => K (.d (.int k (k.wrap (0 - n))))
  | _, _ => none

/-- What a slice or a string reads as. -/
def dataOf (v : V) (K : Nat → List D → Option R) : Option R :=
  match v with
  | .d (.sl sz l) => K sz l
  | .sl sz l _ => K (szN sz) l
  | .d (.str s) => K 1 (s.map fun b => .int .u8 b.toNat)
  | _ => none

/-- What a slice reads as. -/
def dataS (v : V) (K : Nat → List D → Option R) : Option R :=
  match v with
  | .d (.sl sz l) => K sz l
  | .sl sz l _ => K (szN sz) l
  | _ => none

def bytesOf : List D → Option (List UInt8)
  | [] => some []
  | .int .u8 n :: r => (match bytesOf r with | some l => some (UInt8.ofNat n.toNat :: l) | none => none)
  | _ => none

def convV (P : Program) (src dst : Nat) (x : V) (K : V → Option R) : Option R :=
  match P.underlying src, P.underlying dst, x with
  | some (.int _), some (.int k), .d (.int _ n) => K (.d (.int k (k.wrap n)))
  | some .string, some .string, .d (.str s) => K (.d (.str s))
  | some (.slice e), some .string, v =>
    (match P.underlying e with
     | some (.int .u8) => dataS v fun sz l => must (Nat.beq sz 1 || l.isEmpty) (match bytesOf l with | some s => K (.d (.str s)) | none => none)
     | _ => none)
  | _, _, _ => none

/-- What an interface holds, if it is of the type. -/
def assertV (P : Program) (t : Nat) (ok : Bool) (x : V) (K : V → Option R) : Option R :=
  must (hasTy P t && !isIface P t) (match x with
    | .d (.iface t' y) => bif Nat.beq t' t then K (bif ok then .tup [.d y, .d (.bool true)] else .d y) else none
    | _ => none)

/-- A bound of a slice expression: at most y. -/
def bound (v : Option V) (y dflt : Nat) (K : Nat → Option R) : Option R :=
  match v with
  | none => K dflt
  | some (.d (.int _ i)) => must (decide (0 ≤ i) && decide (i ≤ (y : Int))) (K i.toNat)
  | some _ => none

/-- An index. -/
def index (v : V) (n : Nat) (K : Nat → Option R) : Option R :=
  match v with
  | .d (.int _ i) => must (decide (0 ≤ i) && decide (i < (n : Int))) (K i.toNat)
  | _ => none

end

/-- A struct or an array, part by part. -/
def fillV (place : Nat → Option (Nat × Nat)) (cells : List V) : List (Nat × V) → Option (List V)
  | [] => some cells
  | (i, v) :: rest =>
    match place i with
    | none => none
    | some (off, size) => bif !v.tupV && Nat.beq v.cells.length size && Nat.ble (off + size) cells.length then fillV place (cells.take off ++ v.cells ++ cells.drop (off + size)) rest else none

def fieldAt (P : Program) (t f : Nat) : Option (Nat × Nat) :=
  match P.underlying t with
  | some (.struct fs) => (match fs[f]? with | some x => some (x.offset, x.type) | none => none)
  | _ => none

def placeOf (P : Program) (t i : Nat) : Option (Nat × Nat) :=
  match P.underlying t with
  | some (.struct fs) => (match fs[i]? with | some x => some (x.offset, P.cellsOf x.type) | none => none)
  | some (.array _ e) => some (i * P.cellsOf e, P.cellsOf e)
  | _ => none

def fieldsOk (P : Program) (t : Nat) : Bool :=
  match P.underlying t with
  | some (.struct fs) => fs.toList.all fun f => hasTy P f.type
  | some (.array _ e) => hasTy P e
  | _ => false

def partTy (P : Program) (t i : Nat) : Nat :=
  match P.underlying t with
  | some (.struct fs) => (match fs[i]? with | some x => x.type | none => 0)
  | some (.array _ e) | some (.slice e) => e
  | _ => 0

def opds (P : Program) (fr : Fr) (t : Nat) : List (Nat × Operand) → Option (List (Nat × V))
  | [] => some []
  | (i, x) :: r => (match opdT P (partTy P t i) fr x, opds P fr t r with | some v, some l => some ((i, v) :: l) | _, _ => none)

def argsOf (P : Program) (fr : Fr) : List Operand → List Nat → Option (List V)
  | [], _ => some []
  | x :: r, ts => (match opdT P (ts.headD 0) fr x, argsOf P fr r ts.tail with | some v, some l => some (v :: l) | _, _ => none)

def nilConst : Operand → Bool | .const (.slice none 0 0) => true | _ => false

def hasNil : List Operand → Bool
  | [] => false
  | x :: r => nilConst x || hasNil r

/-- Arguments; nil slices among them may be appended to. -/
def argsNil (P : Program) (fr : Fr) (id : Nat) : List Operand → List Nat → Option (List V)
  | [], _ => some []
  | x :: r, ts =>
    match argsNil P fr id r ts.tail with
    | none => none
    | some l =>
      match x with
      | .const (.slice none 0 0) => (match P.underlying (ts.headD 0) with | some (.slice e) => some (.sl (P.cellsOf e) [] id :: l) | _ => none)
      | x => (match opd fr x with | some v => some (v :: l) | none => none)

/-- What is handed on: no longer to be appended to. -/
def V.handed : V → V
  | .sl sz l _ => .d (.sl (szN sz) l)
  | v => v

/-- An element of a slice. -/
def elemD (v : V) : Option D :=
  match v with
  | .d x => some x
  | .sl sz l _ => some (.sl (szN sz) l)
  | .agg l => (match unds (l.map V.handed) with | some ds => some (.agg ds) | none => none)
  | _ => none

def setParts (P : Program) (e : Nat) (l : List D) : List (Nat × V) → Option (List D)
  | [] => some l
  | (i, v) :: r => (match elemD v with
    | some x => bif Nat.beq x.cells.length (P.cellsOf e) && Nat.blt i l.length then setParts P e (l.set i x) r else none
    | none => none)

/- The looks into a map. -/
def keyEq (a b : D) : Bool := match a, b with | .str s, .str t => decide (s = t) | .int _ n, .int _ m => decide (n = m) | _, _ => false
def keyOk : D → Bool | .str _ => true | .int .. => true | _ => false
def mapGet : List D → List D → D → Option D
  | k :: ks, v :: vs, x => bif keyEq k x then some v else mapGet ks vs x
  | _, _, _ => none
def mapPutK : List D → D → List D
  | [], x => [x]
  | k :: ks, x => bif keyEq k x then k :: ks else k :: mapPutK ks x
def mapPutV : List D → List D → D → D → List D
  | k :: ks, v :: vs, x, y => bif keyEq k x then y :: vs else v :: mapPutV ks vs x y
  | _, _, _, y => [y]

/-- Cells of a zero value, each slice among them one that may be appended to. -/
def tokCells (tg : Nat) : List D → Nat → Nat → List V × De
  | [], _, _ => ([], [])
  | .sl sz [] :: r, id, nt => (.sl (szN sz + 1048576 * tg) [] id :: (tokCells tg r (id + nt) nt).1, (id, .tok 0) :: (tokCells tg r (id + nt) nt).2)
  | x :: r, id, nt => (.d x :: (tokCells tg r (id + nt) nt).1, (tokCells tg r (id + nt) nt).2)

def freshAll (σ : St) : De → Bool
  | [] => true
  | (i, _) :: r => (match getA σ i with | none => true | some _ => false) && r.all (fun p => !Nat.beq p.1 i) && freshAll σ r

section
variable {R : Type}

def optK {α : Type} (o : Option α) (K : α → Option R) : Option R := match o with | some x => K x | none => none
def optE {α : Type} (o : Option α) (K : α → Option R) (E : Option R) : Option R := match o with | some x => K x | none => E

/-- A load. -/
def loadV (cx : Cx) (σ : St) (t : Nat) (p : V) (K : V → List Nat → Option R) : Option R :=
  must (hasTy cx.P t) <| match p with
  | .ptr id off =>
    (match getA σ id with
     | some (.val n v) =>
       bif Nat.beq off 0 && Nat.beq (szN n) (cx.P.cellsOf t) then castV cx.P t v fun v => K v [id]
       else bif aggTy cx.P t then must (Nat.ble (off + cx.P.cellsOf t) (szN n)) (K (mkAgg ((v.cells.drop off).take (cx.P.cellsOf t))) [id])
       else nthV v.cells off fun c => castV cx.P t c fun v => K v [id]
     | some (.row l) => nthD l off fun c => castD cx.P t c fun v => K v [id]
     | _ => none)
  | .eptr x off =>
    bif aggTy cx.P t then spreadD x off (cx.P.cellsOf t) fun l => K (.d (.agg l)) []
    else nthD x.cells off fun c => castD cx.P t c fun v => K v []
  | .gptr g off =>
    optK (cx.glob g) fun x =>
      bif aggTy cx.P t then must (Nat.ble (off + cx.P.cellsOf t) x.cells.length) (K (.d (.agg ((x.cells.drop off).take (cx.P.cellsOf t)))) [])
      else nthD x.cells off fun c => castD cx.P t c fun v => K v []
  | _ => none

/-- A store. -/
def storeV (cx : Cx) (σ : St) (t : Nat) (p v : V) (K : De → List Nat → Option R) : Option R :=
  match p with
  | .ptr id off =>
    (match getA σ id with
     | some (.val n u) =>
       bif Nat.beq off 0 && Nat.beq (szN n) (cx.P.cellsOf t) then must (!v.tupV && Nat.beq v.cells.length (szN n)) (K [(id, .val n v)] [id])
       else must (!v.tupV && Nat.beq v.cells.length (cx.P.cellsOf t) && Nat.ble (off + cx.P.cellsOf t) (szN n) && Nat.beq u.cells.length (szN n))
         (K [(id, .val n (mkAgg (u.cells.take off ++ v.cells ++ u.cells.drop (off + cx.P.cellsOf t))))] [id])
     | some (.row l) => (match v with | .d (.agg _) => none | .d x => must (Nat.beq (cx.P.cellsOf t) 1 && Nat.blt off l.length) (K [(id, .row (l.set off x))] [id]) | _ => none)
     | _ => none)
  | _ => none

/-- One results' list, read as of a list of types. -/
def castTup (P : Program) : List Nat → List V → (List V → Option R) → Option R
  | [], vs, K => unn vs (K [])
  | t :: ts, vs, K => unc vs fun v r => castV P t v fun v' => castTup P ts r fun l => K (v' :: l)

def castOut (P : Program) (t : Nat) (v : V) (K : V → Option R) : Option R :=
  match P.underlying t with
  | some (.tuple ts) => (match ts.toList with | [] => K v | ts => asTup v fun vs => castTup P ts vs fun l => K (.tup l))
  | _ => castV P t v K

/-- What came in, behind a call: of the same make as ahead of it. -/
def likeV (old new : V) (K : V → Option R) : Option R :=
  match old with
  | .d (.int k _) => asD new fun x => asInt x k fun n => K (.d (.int k n))
  | .d (.bool _) => asD new fun x => asBool x fun b => K (.d (.bool b))
  | .d (.str _) => asD new fun x => asStr x fun s => K (.d (.str s))
  | .d (.sl sz _) => asD new fun x => asSl x sz fun l => K (.d (.sl sz l))
  | .d .nilptr => K new
  | .d _ => asD new fun x => K (.d x)
  | .sl sz _ id => (match new with | .sl sz' l id' => bif Nat.beq sz sz' && Nat.beq id id' then K (.sl sz l id) else none | _ => none)
  | _ => K new

def likeL : List V → List V → (List V → Option R) → Option R
  | [], new, K => unn new (K [])
  | o :: os, new, K => unc new fun v r => likeV o v fun v' => likeL os r fun l => K (v' :: l)

def likeO (old new : Ob) (K : Ob → Option R) : Option R :=
  match old, new with
  | .val n (.agg l), .val n' v => must (Nat.beq n n') (match v with | .agg l' => likeL l l' fun r => K (.val n (.agg r)) | v => K (.val n v))
  | .val n v, .val n' v' => must (Nat.beq n n') (likeV v v' fun u => K (.val n u))
  | _, new => K new

/-- The objects that came in, behind a call. -/
def backOb (ren : List Nat) (σ σ' : St) : Nat → List Nat → (De → Option R) → Option R
  | _, [], K => K []
  | k, i :: r, K => optK (getA σ i) fun old => optK (getA σ' k) fun new => likeO old (new.ren (atIn ren)) fun o => backOb ren σ σ' (k + 1) r fun δ => K ((i, o) :: δ)

def renSt (σ : St) (ren : List Nat) : Nat → List Nat → St
  | _, [] => []
  | k, i :: r => (match getA σ i with | some o => (k, o.ren (posIn ren)) :: renSt σ ren (k + 1) r | none => renSt σ ren (k + 1) r)

def nodupB : List Nat → Bool
  | [] => true
  | i :: r => !r.elem i && nodupB r

/-- Do the arguments, and what they lead to, name these objects alone? -/
def closedIn (σ : St) (ids : List Nat) (ren : List Nat) : Bool :=
  nodupB ren && ids.all (ren.elem ·) && ren.all fun i => match getA σ i with | some o => o.ids.all (ren.elem ·) | none => false

/-- A call: it sees what its arguments lead to, and nothing else. -/
def callV (cx : Cx) (call : Nat → List V → St → Option (Out × St)) (σ : St) (t f : Nat) (args : List V) (xs : List Nat) (K : Oc → De → List Nat → Option R) : Option R :=
  let ren := reach σ 1000 (V.idsL args ++ xs) []
  must (closedIn σ (V.idsL args ++ xs) ren) <| must (cx.dom f (V.renL (posIn ren) args)) <| match call f (V.renL (posIn ren) args) (renSt σ ren 0 ren) with
  | some (.ret v, σ') => backOb ren σ σ' 0 ren fun δ => castOut cx.P t (v.ren (atIn ren)) fun v => K (.val v) δ ren
  | some (.pan v, σ') => backOb ren σ σ' 0 ren fun δ => K (.pan (v.ren (atIn ren))) δ ren
  | none => none

/-- What is handed to a call: no longer to be appended to. -/
def V.handed2 : V → V
  | .agg l => (match elemD (.agg l) with | some x => .d x | none => .agg l)
  | v => v.handed

def handArgs (keep : Bool) (l : List V) : List V := bif keep then l else l.map V.handed2

def appendV (cx : Cx) (σ : St) (site t : Nat) (s x : V) (nilConst : Bool) (K : V → De → List Nat → Option R) : Option R :=
  match cx.P.underlying t with
  | some (.slice e) =>
    dataOf x fun sz' ys => must ((Nat.beq sz' (cx.P.cellsOf e) || ys.isEmpty) && Nat.ble (cx.P.bytesOf e) 4096 && (zeroOf cx.P e).isSome)
      (bif nilConst then
        must (freshAll σ [(site, .tok 0)] && decide (ys.length ≤ 4294967296) && Nat.blt (cx.P.cellsOf e) 1048576) (K (.sl (cx.P.cellsOf e) ys site) [(site, .tok ys.length)] [site])
      else match s with
        | .sl sz l id =>
          (match getA σ id with
           | some (.tok n) => must (Nat.beq (szN sz) (cx.P.cellsOf e) && tagB sz e && decide (n = l.length) && decide (l.length + ys.length ≤ 4294967296))
              (K (.sl sz (l ++ ys) id) [(id, .tok (l.length + ys.length))] [id])
           | _ => none)
        | _ => none)
  | _ => none

def sliceV (cx : Cx) (σ : St) (site t : Nat) (x : V) (lo hi mx : Option V) (K : V → De → List Nat → Option R) : Option R :=
  match cx.P.underlying t with
  | some .string => (match x, mx with
    | .d (.str s), none => bound hi s.length s.length fun h => bound lo h 0 fun l => K (.d (.str ((s.take h).drop l))) [] []
    | _, _ => none)
  | some (.slice e) => must (hasTy cx.P e) (dataS x fun sz xs => must (Nat.beq sz (cx.P.cellsOf e) || xs.isEmpty)
    (match mx with
     | none => bound hi xs.length xs.length fun h => bound lo h 0 fun l => K (.d (.sl (cx.P.cellsOf e) ((xs.take h).drop l))) [] []
     | some m => must hi.isSome <| bound (some m) xs.length 0 fun m' => bound hi m' m' fun h => bound lo h 0 fun l =>
        bif Nat.beq m' l then must (freshAll σ [(site, .tok 0)] && Nat.blt (cx.P.cellsOf e) 1048576) (K (.sl (cx.P.cellsOf e) [] site) [(site, .tok 0)] [site])
        else K (.d (.sl (cx.P.cellsOf e) ((xs.take h).drop l))) [] []))
  | _ => none

def lenV (cx : Cx) (σ : St) (t : Nat) (x : V) (K : V → List Nat → Option R) : Option R :=
  match cx.P.underlying t, x with
  | some .string, .d (.str s) => K (.d (.int .i64 s.length)) []
  | some (.slice _), .d (.sl _ l) | some (.slice _), .sl _ l _ => K (.d (.int .i64 l.length)) []
  | some (.slice _), .slo _ _ n => K (.d (.int .i64 n)) []
  | some (.array n _), _ => K (.d (.int .i64 n)) []
  | some (.map ..), .d (.map ks _) => K (.d (.int .i64 ks.length)) []
  | some (.map ..), .map id => (match getA σ id with | some (.map ks _) => K (.d (.int .i64 ks.length)) [id] | _ => none)
  | some (.map ..), .d .nilmap => K (.d (.int .i64 0)) []
  | _, _ => none

def indexAddrV (cx : Cx) (t : Nat) (x i : V) (K : V → Option R) : Option R :=
  match cx.P.underlying t with
  | some (.slice e) => must (hasTy cx.P e) (match x with
    | .d (.sl sz l) => index i l.length fun j => nthD l j fun y => must (Nat.beq sz (cx.P.cellsOf e)) (K (.eptr y 0))
    | .sl sz l _ => index i l.length fun j => nthD l j fun y => must (Nat.beq (szN sz) (cx.P.cellsOf e)) (K (.eptr y 0))
    | .slo id off n => index i n fun j => must (Nat.beq (cx.P.cellsOf e) 1) (K (.ptr id (off + j)))
    | _ => none)
  | some (.array n e) => must (hasTy cx.P e) (match x with
    | .ptr id off => index i n fun j => K (.ptr id (off + j * cx.P.cellsOf e))
    | .eptr y off => index i n fun j => K (.eptr y (off + j * cx.P.cellsOf e))
    | .gptr g off => index i n fun j => K (.gptr g (off + j * cx.P.cellsOf e))
    | _ => none)
  | _ => none

def fieldAddrV (cx : Cx) (s : Nat) (x : V) (f : Nat) (K : V → Option R) : Option R :=
  optK (fieldAt cx.P s f) fun p => must (!Nat.beq (cx.P.cellsOf p.2) 0)
    (match x with
     | .ptr id off => K (.ptr id (off + p.1))
     | .eptr y off => K (.eptr y (off + p.1))
     | .gptr g off => K (.gptr g (off + p.1))
     | _ => none)

def partV (cx : Cx) (t : Nat) (v : V) (off : Nat) (K : V → Option R) : Option R :=
  must (hasTy cx.P t && v.aggish) <| bif aggTy cx.P t then must (Nat.ble (off + cx.P.cellsOf t) v.cells.length) (K (mkAgg ((v.cells.drop off).take (cx.P.cellsOf t))))
  else nthV v.cells off fun c => castV cx.P t c K

def indexV (cx : Cx) (t : Nat) (x i : V) (K : V → Option R) : Option R :=
  match cx.P.underlying t with
  | some .string => (match x with
    | .d (.str s) => index i s.length fun j => optK s[j]? fun b => K (.d (.int .u8 b.toNat))
    | _ => none)
  | some (.array n e) => index i n fun j => partV cx e x (j * cx.P.cellsOf e) K
  | _ => none

def lookupV (cx : Cx) (σ : St) (t : Nat) (x k : V) (commaOk : Bool) (K : V → List Nat → Option R) : Option R :=
  match cx.P.underlying t with
  | some (.map _ e) =>
    optK (zeroOf cx.P e) fun z => asD k fun key => must (keyOk key)
      (let go (ks vs : List D) (fp : List Nat) : Option R :=
        optE (mapGet ks vs key)
          (fun y => castD cx.P e y fun v => K (bif commaOk then .tup [v, .d (.bool true)] else v) fp)
          (K (bif commaOk then .tup [.d (mkZero cx.P e z), .d (.bool false)] else .d (mkZero cx.P e z)) fp)
       match x with
       | .d (.map ks vs) => go ks vs []
       | .d .nilmap => go [] [] []
       | .map id => (match getA σ id with | some (.map ks vs) => go ks vs [id] | _ => none)
       | _ => none)
  | _ => none

def mapPutO (σ : St) (m k v : V) (K : De → List Nat → Option R) : Option R :=
  match m with
  | .map id => (match getA σ id with
    | some (.map ks vs) => asD k fun key => optK (elemD v) fun y => must (keyOk key) (K [(id, .map (mapPutK ks key) (mapPutV ks vs key y))] [id])
    | _ => none)
  | _ => none

def makeSliceV (cx : Cx) (σ : St) (site t : Nat) (l c : V) (K : V → De → List Nat → Option R) : Option R :=
  match cx.P.underlying t, l, c with
  | some (.slice e), .d (.int .i64 n), .d (.int .i64 n') =>
    optK (zeroOf cx.P e) fun z => must (decide (n = n') && decide (0 ≤ n) && decide (n ≤ 4294967296) && Nat.beq (cx.P.cellsOf e) 1 && Nat.ble (cx.P.bytesOf e) 4096 && freshAll σ [(site, .tok 0)])
      (match z with | [x] => K (.slo site 0 n.toNat) [(site, .row (List.replicate n.toNat x))] [site] | _ => none)
  | _, _, _ => none

def opdO (fr : Fr) (x : Option Operand) (K : Option V → Option R) : Option R := match x with | none => K none | some x => optK (opd fr x) fun v => K (some v)

/-- A slice of one constant of many cells: what is to be copied behind another one. -/
def bareB : List (Nat × Operand) → Bool
  | [(_, .const (.agg _))] => true
  | _ => false

/-- A function that gives back what it is given (the library's NoEscape). -/
def isSame (P : Program) (g : Nat) : Bool := match P.funcs[g]? with | some fn => fn.body.isNone && fn.name == "internal/abi.NoEscape" && fn.origin == "" | none => false
def oneV {R : Type} (l : List V) (K : V → Option R) : Option R := match l with | [v] => K v | _ => none

def isUns (P : Program) (s t : Nat) : Bool := (match P.underlying s with | some .unsafePointer => true | _ => false) || (match P.underlying t with | some .unsafePointer => true | _ => false)
/-- An address seen as one without a type; or as one of a type that lies there. -/
def ptrOk (P : Program) (s t n off : Nat) : Bool :=
  match P.underlying s, P.underlying t with
  | some (.pointer e), some .unsafePointer => (match P.info? e with | some j => !Nat.beq j.size 0 | none => false) && Nat.blt off (szN n)
  | some .unsafePointer, some (.pointer u) => (P.info? u).isSome && !Nat.blt n 1048576 && liesAt P P.depth (n / 1048576 - 1) (szN n / P.cellsOf (n / 1048576 - 1)) off u 1
  | _, _ => false
def convU {R : Type} (cx : Cx) (σ : St) (s t : Nat) (a : V) (K : V → List Nat → Option R) : Option R :=
  match a with
  | .ptr id off => (match getA σ id with
     | some (.val n _) => must (ptrOk cx.P s t n off) (K (.ptr id off) [id])
     | _ => none)
  | _ => none

/-- The number of a new variable. -/
def tagN (cx : Cx) (nt : Nat) (dst : Option Nat) (e : Nat) : Nat := bif cx.typed nt (dst.getD 0) then cx.P.cellsOf e + 1048576 * (e + 1) else cx.P.cellsOf e

/-- Made plain in its parts, if so asked. -/
def bareV (b : Bool) (v : V) : V := bif b then v.handed2 else v

/-- A slice that nothing is appended to. -/
def isBare (cx : Cx) (nt : Nat) (dst : Option Nat) (ps : List (Nat × Operand)) : Bool := bareB ps || cx.bare nt (dst.getD 0)

/-- One operation. -/
def evOp (cx : Cx) (m nt : Nat) (call : Nat → List V → St → Option (Out × St)) (o : Oper) (fr : Fr) (σ : St) (K : Oc → De → List Nat → Option R) : Option R :=
  let P := cx.P
  let site := m + o.dst.getD 0
  let val (v : V) : Option R := K (.val v) [] []
  match o.op with
  | .move x | .assign x =>
    (match x with
     | .const (.slice none 0 0) =>
       (match P.underlying o.type with
        | some (.slice e) => (match getA σ site with
          | none => K (.val (.sl (P.cellsOf e) [] site)) [(site, .tok 0)] [site]
          | some _ => K (.val (.d (.sl (P.cellsOf e) []))) [] [site])
        | _ => none)
     | x => optK (opd fr x) val)
  | .pick c a b => optK (opd fr c) fun c => asB c fun t => bif t then optK (opd fr a) val else optK (opd fr b) val
  | .alloc e => optK (zeroOf P e) fun z =>
      let l := tokCells (cx.tagS nt (o.dst.getD 0)) z (site + nt) nt
      let δ := (site, Ob.val (tagN cx nt o.dst e) (bif aggTy P e then mkAgg l.1 else l.1.headD undefV)) :: l.2
      must (freshAll σ δ && !(bif aggTy P e then false else !Nat.beq l.1.length 1) && Nat.blt (P.cellsOf e) 1048576) (K (.val (.ptr site 0)) δ (δ.map (·.1)))
  | .box e x => optK (opdT P e fr x) fun v => must (!v.tupV && Nat.beq v.cells.length (P.cellsOf e) && freshAll σ [(site, .tok 0)] && Nat.blt (P.cellsOf e) 1048576) (K (.val (.ptr site 0)) [(site, .val (tagN cx nt o.dst e) v)] [site])
  | .build t ps => bif cx.typed nt (o.dst.getD 0) then optK (zeroOf P t) fun z => must (ps.isEmpty && fieldsOk P t && freshAll σ (tokCells (cx.tagS nt (o.dst.getD 0)) z site nt).2)
        (K (.val (mkAgg (tokCells (cx.tagS nt (o.dst.getD 0)) z site nt).1)) (tokCells (cx.tagS nt (o.dst.getD 0)) z site nt).2 ((tokCells (cx.tagS nt (o.dst.getD 0)) z site nt).2.map (·.1)))
      else optK (zeroOf P t) fun z => optK (opds P fr t ps.toList) fun l => optK (fillV (placeOf P t) (z.map .d) l) fun cs => must (fieldsOk P t) (val (bareV (cx.bare nt (o.dst.getD 0)) (mkAgg cs)))
  | .buildSlice t n ps =>
    (match P.underlying t with
     | some (.slice e) => optK (zeroOf P e) fun z => optK (opds P fr t ps.toList) fun l => optK (setParts P e (List.replicate n (mkZero P e z)) l) fun xs =>
        must (freshAll σ [(site, .tok 0)] && Nat.ble n 4096 && Nat.ble (P.cellsOf e) 4096 && !Nat.beq (P.cellsOf e) 0) (bif isBare cx nt o.dst ps.toList then K (.val (.d (.sl (P.cellsOf e) xs))) [] [site] else K (.val (.sl (P.cellsOf e) xs site)) [(site, .tok n)] [site])
     | _ => none)
  | .load t a => optK (opd fr a) fun p => loadV cx σ t p fun v fp => K (.val v) [] fp
  | .store t a x => optK (opd fr a) fun p => optK (opdT P t fr x) fun v => must (hasTy P t) <| storeV cx σ t p v fun δ fp => K (.val undefV) δ fp
  | .nilCheck x => optK (opd fr x) fun v => (match v with | .ptr .. | .eptr .. | .gptr .. | .func .. => val v | _ => none)
  | .binOp op t x y _ => optK (opdT P t fr x) fun a => optK (opdT P t fr y) fun b => binV P (match x, y with | .const _, _ => true | _, .const _ => true | _, _ => false) op t a b val
  | .unOp op _ x => optK (opd fr x) fun a => unV op a val
  | .convert s t x => optK (opdT P s fr x) fun a =>
      (match P.underlying s, P.underlying t, a with
       | some (.slice _), some (.slice e), .sl sz l id => (match P.underlying e, getA σ id with
          | some (.int .u8), some (.tok n) => must (Nat.beq s t && !l.isEmpty && decide (l.length = n)) (K (.val (.sl sz l id)) [(id, .tok n)] [id])
          | _, _ => none)
       | _, _, _ => bif isUns P s t then convU cx σ s t a (fun v fp => K (.val v) [] fp) else convV P s t a val)
  | .makeInterface t x => (match P.underlying t with
      | some (.interface _) => none
      | none => none
      | _ => optK (opdT P t fr x) fun v => (match elemD v with | some y => val (.d (.iface t y)) | none => val (.iface t v)))
  | .makeFunc (.func f) first caps => must first.isEmpty (optK (argsOf P fr caps.toList []) fun l => val (.func f l))
  | .makeMap _ none => must (freshAll σ [(site, .tok 0)]) (K (.val (.map site)) [(site, .map [] [])] [site])
  -- | .makeSlice t l c => optK (opd fr l) fun l => optK (opd fr c) fun c => makeSliceV cx σ site t l c fun v δ fp => K (.val v) δ fp
  | .slice t x lo hi mx =>
      optK (opdT P t fr x) fun a => opdO fr lo fun l => opdO fr hi fun h => opdO fr mx fun mm => sliceV cx σ site t a l h mm fun v δ fp => K (.val v) δ fp
  | .fieldAddr s x f => optK (opd fr x) fun v => fieldAddrV cx s v f val
  | .field t x f => optK (opd fr x) fun v => optK (fieldAt P t f) fun p => partV cx p.2 v p.1 val
  | .indexAddr t x i => optK (opd fr x) fun v => optK (opd fr i) fun j => indexAddrV cx t v j val
  | .index t x i => optK (opd fr x) fun v => optK (opd fr i) fun j => indexV cx t v j val
  -- | .lookup t x i ok => optK (opd fr x) fun v => optK (opd fr i) fun k => lookupV cx σ t v k ok fun v fp => K (.val v) [] fp
  -- | .mapUpdate t mm k x | .insert t mm k x => optK (opd fr mm) fun a => optK (opd fr k) fun b => optK (opdT P (match P.underlying t with | some (.map _ e) => e | _ => 0) fr x) fun c => mapPutO σ a b c fun δ fp => K (.val undefV) δ fp
  | .extract t i => optK (opd fr t) fun v => asTup v fun l => nthV l i val
  | .typeAssert x _ t ok => optK (opd fr x) fun v => assertV P t ok v val
  | .panic x => optK (opd fr x) fun v => (match v with | .d (.iface ..) => K (.pan v) [] [] | _ => none)
  | .call c =>
    (match c.callee with
     | .value f => optK (opd fr f) fun fv => (match fv with
        | .func g cap => bif isSame P g && cap.isEmpty then optK (argsOf P fr c.args.toList c.argTypes.toList) fun l => oneV l val else bif cx.gives g
          then optK (argsOf P fr c.args.toList c.argTypes.toList) fun l => must (freshAll σ [(site, .tok 0)]) (callV cx call (putA σ site (.tok 0)) o.type g (handArgs (cx.keep g) l ++ cap) [site] fun oc δ fp => K oc ((site, .tok 0) :: δ) (site :: fp))
          else bif cx.keep g && hasNil c.args.toList
          then optK (argsNil P fr site c.args.toList c.argTypes.toList) fun l => must (freshAll σ [(site, .tok 0)]) (callV cx call (putA σ site (.tok 0)) o.type g (l ++ cap) [] fun oc δ fp => K oc ((site, .tok 0) :: δ) (site :: fp))
          else optK (argsOf P fr c.args.toList c.argTypes.toList) fun args => callV cx call σ o.type g (handArgs (cx.keep g) args ++ cap) [] K
        | _ => none)
     | .builtin .len => (match c.args.toList, c.argTypes.toList with
        | [x], [t] => optK (opdT P t fr x) fun v => lenV cx σ t v fun v fp => K (.val v) [] fp
        | _, _ => none)
     | .builtin .append => (match c.args.toList, c.argTypes.toList with
        | [s, x], [t, t'] => optK (opdT P t fr s) fun a => optK (opdT P t' fr x) fun b => must (match P.underlying t' with | some (.int _) => false | some _ => true | none => false)
            (appendV cx σ site t a b (nilConst s) fun v δ fp => K (.val v) δ fp)
        | _, _ => none)
     | _ => none)
  | _ => none

end

def putF (fr : Fr) (dst : Option Nat) (v : V) : Fr := match dst with | some t => (t, v) :: fr | none => fr

def slotOf (ops : List Oper) (j : Nat) : Option Nat := match ops[j]? with | some o => o.dst | none => none

section
variable {R : Type}

/-- Is the operation wanted? -/
def guardV (ops : List Oper) (o : Oper) (fr : Fr) (yes no : Fr → Option R) : Option R :=
  match o.guard with
  | none => yes fr
  | some (j, want) =>
    match slotOf ops j with
    | none => no fr
    | some t =>
      match getA fr t with
      | some (.d (.bool b)) => bif b then (bif want then yes ((t, .d (.bool true)) :: fr) else no ((t, .d (.bool true)) :: fr))
          else (bif want then no ((t, .d (.bool false)) :: fr) else yes ((t, .d (.bool false)) :: fr))
      | some _ => no fr
      | none => none

def dstOk (nt : Nat) : Option Nat → Bool | some d => Nat.blt d nt | none => true

def evOp1 (cx : Cx) (m nt : Nat) (call : Nat → List V → St → Option (Out × St)) (o : Oper) (fr : Fr) (σ : St) : Option (Oc × De × List Nat) :=
  evOp cx m nt call o fr σ fun oc δ fp => some (oc, δ, fp)

/-- Operations in the text's order. -/
def evOps (cx : Cx) (m nt : Nat) (call : Nat → List V → St → Option (Out × St)) (ops : List Oper) : List Oper → Fr → St → (Ex → Fr → St → Option R) → Option R
  | [], fr, σ, K => K .normal fr σ
  | o :: r, fr, σ, K => must (dstOk nt o.dst) <| guardV ops o fr
      (fun fr => optK (evOp1 cx m nt call o fr σ) fun p => match p.1 with
        | .val v => evOps cx m nt call ops r (putF fr o.dst v) (applyDe σ p.2.1) K
        | .pan v => K (.pan v) fr (applyDe σ p.2.1))
      (fun fr => evOps cx m nt call ops r (putF fr o.dst undefV) σ K)

/-- Which operations must come first. -/
def pres : List Oper → List Nat → List Nat
  | [], acc => acc
  | o :: r, acc => pres r (acc ++ [o.after.toList.foldl (fun s e => bif Region.binds .any e then s ||| 2 ^ e.on ||| acc.getD e.on 0 else s) 0])

def preHas (pre : List Nat) (i j : Nat) : Bool := (pre.getD i 0).testBit j

/-- The slots that an operation reads. -/
def looks (ops : List Oper) (o : Oper) : List Nat :=
  (o.op.operands.toList.filterMap fun | .tmp t => some t | _ => none) ++ (match o.guard with | some (g, _) => (slotOf ops g).toList | none => [])

/-- The writer 'k' of a slot that 'j' reads comes first; or must come last. -/
def readsOk (pre : List Nat) (ls : List Nat) (j : Nat) : Nat → List Oper → Bool
  | _, [] => true
  | k, o :: r => (match o.dst with | some t => !ls.elem t || (Nat.blt k j && preHas pre j k) || (Nat.blt j k && preHas pre k j) | none => true) && readsOk pre ls j (k + 1) r

def dsts : List Oper → List Nat
  | [] => []
  | o :: r => (match o.dst with | some t => [t] | none => []) ++ dsts r

def edgesOk (j : Nat) (o : Oper) : Bool := o.after.toList.all fun e => !Region.binds .any e || Nat.blt e.on j

def opsOk (ops : List Oper) (pre : List Nat) : Nat → List Oper → Bool
  | _, [] => true
  | j, o :: r => readsOk pre (looks ops o) j 0 ops && edgesOk j o && opsOk ops pre (j + 1) r

/-- May the operations' order be left open, as far as slots go? -/
def drawOk (ops : List Oper) (pre : List Nat) : Bool := nodupB (dsts ops) && opsOk ops pre 0 ops

structure Log where
  i : Nat
  fp : List Nat
  w : List Nat

def disj (a b : List Nat) : Bool := a.all fun x => !b.elem x

/-- Two operations of which neither must come first: they don't meet. -/
def meetOk (pre : List Nat) (a b : Log) : Bool :=
  (a.w.isEmpty && b.w.isEmpty) || preHas pre b.i a.i || (disj a.w b.fp && disj b.w a.fp)

/-- Does it wait for the one that panicked? -/
def deadDep (pre : List Nat) (i : Nat) : Option (Nat × V) → Bool | some (k, _) => preHas pre i k | none => false

/-- Operations whose order is open. The one that panics, with what: behind 'some'. -/
def evDraw (cx : Cx) (m nt : Nat) (call : Nat → List V → St → Option (Out × St)) (ops : List Oper) (pre : List Nat) :
    Nat → List Oper → List Log → Option (Nat × V) → Fr → St → (Ex → Fr → St → Option R) → Option R
  | _, [], _, none, fr, σ, K => K .normal fr σ
  | _, [], log, some (k, v), _, σ, K => must (log.all fun a => a.w.isEmpty || Nat.beq a.i k || preHas pre k a.i) (K (.pan v) [] σ)
  | i, o :: r, log, dead, fr, σ, K =>
      bif deadDep pre i dead then evDraw cx m nt call ops pre (i + 1) r log dead fr σ K
      else must (dstOk nt o.dst) <| guardV ops o fr
        (fun fr => optK (evOp1 cx m nt call o fr σ) fun p => must (log.all fun a => meetOk pre a ⟨i, p.2.1.map (·.1) ++ p.2.2, p.2.1.map (·.1)⟩) (match p.1, dead with
          | .val u, _ => evDraw cx m nt call ops pre (i + 1) r (⟨i, p.2.1.map (·.1) ++ p.2.2, p.2.1.map (·.1)⟩ :: log) dead (putF fr o.dst u) (applyDe σ p.2.1) K
          | .pan v, none => evDraw cx m nt call ops pre (i + 1) r (⟨i, p.2.1.map (·.1) ++ p.2.2, p.2.1.map (·.1)⟩ :: log) (some (i, v)) fr (applyDe σ p.2.1) K
          | .pan _, some _ => none))
        (fun fr => evDraw cx m nt call ops pre (i + 1) r log dead (putF fr o.dst undefV) σ K)

def pickLive (fr : Fr) : List Nat → Fr
  | [] => []
  | t :: r => (match getA fr t with | some v => (t, v) :: pickLive fr r | none => pickLive fr r)

def frIds : Fr → List Nat
  | [] => []
  | (_, v) :: r => v.ids ++ frIds r

def keepSt (σ : St) : List Nat → St
  | [] => []
  | i :: r => (match getA σ i with | some o => (i, o) :: keepSt σ r | none => keepSt σ r)

/-- Do these names, and the objects that they lead to, name these objects alone? -/
def closedI (σ : St) (is : List Nat) (ren : List Nat) : Bool :=
  is.all (ren.elem ·) && ren.all fun i => match getA σ i with | some o => o.ids.all (ren.elem ·) | none => false

/-- What is in these objects is plain from now on: no longer to be appended to. -/
def flatSt : List Nat → St → St
  | [], σ => σ
  | i :: r, σ => flatSt r (match getA σ i with
     | some (.val n (.agg l)) => (match unds (l.map V.handed) with | some ds => putA σ i (.val n (.d (.agg ds))) | none => σ)
     | _ => σ)

/-- Where ways meet: what no way needs is let go. -/
def tidy (cx : Cx) (m f key : Nat) (fr : Fr) (σ : St) (K : Fr → St → Option R) : Option R :=
  let σ := flatSt (cx.flat f key) σ
  let fr' := pickLive fr (cx.live f key)
  let ren := reach σ 1000 (List.range m ++ frIds fr') []
  must (closedI σ (List.range m ++ frIds fr') ren) (K fr' (keepSt σ ren))

/-- A place is made behind a slice's end, and then filled: three operations. -/
structure Pend where
  t : Nat
  t2 : Nat
  a : Nat
  p : Nat
  e : Nat
  sv : Operand
  pv : Operand
  j : Operand
  x : Operand

def opIs (y : Operand) (a : Nat) : Bool := match y with | .tmp b => Nat.beq b a | _ => false
def opNot (y : Operand) (a : Nat) : Bool := match y with | .tmp b => !Nat.beq b a | _ => true

def pendOf (o i s : Oper) : Option Pend :=
  match o.op, i.op, s.op with
  | .call c, .indexAddr t' y j, .store e q x =>
    (match c.callee, c.args.toList, c.argTypes.toList, o.dst, i.dst with
     | .builtin .append, [sv, pv], [t, t2], some a, some p =>
       bif opIs y a && opIs q p && opNot j a && opNot x a && opNot x p && !Nat.beq a p && Nat.beq t' t && o.guard.isNone && i.guard.isNone && s.guard.isNone && s.dst.isNone then some ⟨t, t2, a, p, e, sv, pv, j, x⟩ else none
     | _, _, _, _, _ => none)
  | _, _, _ => none

def notInt (P : Program) (t : Nat) : Bool := match P.underlying t with | some (.int _) => false | some _ => true | none => false

def pendV (cx : Cx) (nt : Nat) (σ : St) (fr : Fr) (q : Pend) (K : Fr → St → Option R) : Option R :=
  must (Nat.blt q.a nt && Nat.blt q.p nt) <|
  match cx.P.underlying q.t with
  | some (.slice e) => must (Nat.beq e q.e && hasTy cx.P e && Nat.ble (cx.P.bytesOf e) 4096 && (zeroOf cx.P e).isSome && notInt cx.P q.t2) <|
    optK (opdT cx.P q.t fr q.sv) fun s => optK (opdT cx.P q.t2 fr q.pv) fun pl => optK (opd fr q.j) fun jv => optK (opdT cx.P e fr q.x) fun v => optK (elemD v) fun y =>
      (match s, jv with
       | .sl sz l id, .d (.int _ n) =>
         (match getA σ id with
          | some (.tok k) => must (Nat.beq (szN sz) (cx.P.cellsOf e) && tagB sz e && decide (k = l.length) && decide (n = (l.length : Int)) && decide (l.length + 1 ≤ 4294967296) && Nat.beq y.cells.length (cx.P.cellsOf e) && !v.tupV) <|
              dataOf pl fun sz' ps => must (Nat.beq sz' (cx.P.cellsOf e) && Nat.beq ps.length 1) (K ((q.p, .eptr y 0) :: (q.a, .sl sz (l ++ [y]) id) :: fr) (putA σ id (.tok (l.length + 1))))
          | _ => none)
       | _, _ => none)
  | _ => none

def evPend (cx : Cx) (nt : Nat) (ops : List Oper) (k : Nat) (fr : Fr) (σ : St) (K : List Oper → Fr → St → Option R) : Option R :=
  match ops.drop k with
  | o :: i :: s :: r => optK (pendOf o i s) fun q => pendV cx nt σ fr q fun fr σ => K r fr σ
  | _ => none

def onAll (k : Nat) (o : Oper) : Bool := (List.range k).all fun j => o.after.toList.any fun e => Region.binds .any e && Nat.beq e.on j
def onOne (k : Nat) (o : Oper) : Bool := o.after.toList.any fun e => Region.binds .any e && Nat.beq e.on k
def tailOk (ops : List Oper) (k : Nat) : Bool :=
  match ops.drop k with
  | [o, i, s, t] => onAll k o && onOne k i && onOne (k + 1) s && onOne k t && t.guard.isNone && t.dst.isNone
  | _ => false

/-- The last four: the place, its address, what fills it, and the slice's store. -/
def evTail (cx : Cx) (nt : Nat) (ops : List Oper) (k : Nat) (fr : Fr) (σ : St) (K : Fr → St → Option R) : Option R :=
  match ops.drop k with
  | [o, i, s, t] => optK (pendOf o i s) fun q => pendV cx nt σ fr q fun fr σ =>
     (match t.op with
      | .store ty (.tmp pt) (.tmp b) => must (Nat.beq b q.a && !Nat.beq pt q.a && !Nat.beq pt q.p && hasTy cx.P ty && Nat.beq (cx.P.cellsOf ty) 1) <|
          optK (getA fr pt) fun pv => optK (getA fr q.a) fun v =>
           (match pv, v with
            | .ptr ido off, .sl sz l id => (match getA σ ido with | some (.val n _) => must (Nat.beq off 0 && Nat.beq n 1) (K fr (putA σ ido (.val 1 (.sl sz l id)))) | _ => none)
            | _, _ => none)
      | _ => none)
  | _ => none

def iter (body : Fr → St → (Ex → Fr → St → Option R) → Option R) (head : Fr → St → (Fr → St → Option R) → Option R) : Nat → Fr → St → (Ex → Fr → St → Option R) → Option R
  | 0, _, _, _ => none
  | n + 1, fr, σ, K => body fr σ fun e fr σ => match e with
      | .normal => head fr σ fun fr σ => iter body head n fr σ K
      | e => K e fr σ

def firstRegion : Code → Nat
  | .region id _ _ => id
  | .seq a _ => firstRegion a
  | .block _ c => firstRegion c
  | .loop c => firstRegion c
  | .scope c => firstRegion c
  | _ => 0

def evCode (cx : Cx) (f m nt : Nat) (call : Nat → List V → St → Option (Out × St)) (n : Nat) : Code → Fr → St → (Ex → Fr → St → Option R) → Option R
  | .skip, fr, σ, K => K .normal fr σ
  | .label _, fr, σ, K => K .normal fr σ
  | .region id ops false, fr, σ, K => (match cx.pend f id with
      | none => evOps cx m nt call ops.toList ops.toList fr σ K
      | some k => evOps cx m nt call ops.toList (ops.toList.take k) fr σ fun e fr σ => match e with
          | .normal => evPend cx nt ops.toList k fr σ fun r fr σ => evOps cx m nt call ops.toList r fr σ K
          | e => K e fr σ)
  | .region id ops true, fr, σ, K => (match cx.pend f id with
      | none => must (drawOk ops.toList (pres ops.toList [])) (evDraw cx m nt call ops.toList (pres ops.toList []) 0 ops.toList [] none fr σ K)
      | some k => must (tailOk ops.toList k) <| must (drawOk ops.toList (pres ops.toList [])) (evDraw cx m nt call ops.toList (pres ops.toList []) 0 (ops.toList.take k) [] none fr σ fun e fr σ => match e with
          | .normal => evTail cx nt ops.toList k fr σ (K .normal)
          | e => K e fr σ))
  | .seq a b, fr, σ, K => evCode cx f m nt call n a fr σ fun e fr σ => match e with
      | .normal => evCode cx f m nt call n b fr σ K
      | e => K e fr σ
  | .cond c a b, fr, σ, K => optK (opd fr c) fun v => asB v fun t => bif t then evCode cx f m nt call n a fr σ K else evCode cx f m nt call n b fr σ K
  | .block id c, fr, σ, K => evCode cx f m nt call n c fr σ fun e fr σ => match e with
      | .normal => tidy cx m f (2 * id) fr σ (K .normal)
      | .exit id' => bif Nat.beq id' id then tidy cx m f (2 * id) fr σ (K .normal) else K (.exit id') fr σ
      | e => K e fr σ
  | .loop c, fr, σ, K => tidy cx m f (2 * firstRegion c + 1) fr σ fun fr σ =>
      iter (evCode cx f m nt call n c) (tidy cx m f (2 * firstRegion c + 1)) n fr σ K
  | .exit id, fr, σ, K => K (.exit id) fr σ
  | .goto l, fr, σ, K => K (.goto l) fr σ
  | .ret, fr, σ, K => K .ret fr σ
  | .scope c, fr, σ, K => evCode cx f m nt call n c fr σ fun e fr σ => match e with
      | .goto _ => none
      | e => K e fr σ
  | _, _, _, _ => none

/-- The results. -/
def resV (cx : Cx) (fr : Fr) (σ : St) : List ResultVar → (List V → Option R) → Option R
  | [], K => K []
  | .tmp t :: r, K => optK (getA fr t) fun v => resV cx fr σ r fun l => K (v :: l)
  | .cell a t :: r, K => optK (getA fr a) fun p => loadV cx σ t p fun v _ => resV cx fr σ r fun l => K (v :: l)

def numbered : Nat → List V → Fr
  | _, [] => []
  | i, v :: r => (i, v) :: numbered (i + 1) r

mutual
/-- What leaves a call: its own slices are plain then. -/
def V.leave (m : Nat) (σ : St) : V → Option V
  | .d x => some (.d x)
  | .sl sz l id => some (bif Nat.blt id m then .sl sz l id else .d (.sl (szN sz) l))
  | .slo id off n => (match getA σ id with
      | some (.row l) => some (bif Nat.blt id m then .slo id off n else .d (.sl 1 ((l.drop off).take n)))
      | _ => none)
  | .map id => (match getA σ id with
      | some (.map ks vs) => some (bif Nat.blt id m then .map id else .d (.map ks vs))
      | _ => none)
  | .ptr id off => bif Nat.blt id m then some (.ptr id off) else none
  | .agg l => (match V.leaveL m σ l with | some r => some (mkAgg r) | none => none)
  | .tup l => (match V.leaveL m σ l with | some r => some (.tup r) | none => none)
  | .func g l => (match V.leaveL m σ l with | some r => some (.func g r) | none => none)
  | .iface t v => (match v.leave m σ with | some r => some (.iface t r) | none => none)
  | .eptr x off => some (.eptr x off)
  | .gptr g off => some (.gptr g off)
def V.leaveL (m : Nat) (σ : St) : List V → Option (List V)
  | [] => some []
  | v :: r => (match v.leave m σ, V.leaveL m σ r with | some u, some l => some (u :: l) | _, _ => none)
end

def leaveSt (m : Nat) (σ : St) : List Nat → Option St
  | [] => some []
  | i :: r =>
    match getA σ i, leaveSt m σ r with
    | some (.val n v), some l => (match v.leave m σ with | some u => some ((i, .val n u) :: l) | none => none)
    | some o, some l => some ((i, o) :: l)
    | _, _ => none

def oneOrTup : List V → V
  | [v] => v
  | l => .tup l
end

/-- The results, all plain; or the first one a slice that is handed out with its right, in the last object's place. -/
def plainOut (m : Nat) (σ : St) (vs : List V) : Option (Out × St) :=
  match (oneOrTup vs).leave m σ, leaveSt m σ (List.range m) with
  | some v, some s => some (.ret v, s)
  | _, _ => none

def giveOut (m : Nat) (σ : St) (vs : List V) : Option (Out × St) :=
  match vs with
  | .sl sz l g :: rest =>
    (match getA σ g, getA σ (m - 1) with
     | some (.tok n), some (.tok 0) => bif Nat.ble m g && Nat.blt 0 m && decide (n = l.length) && Nat.blt 0 n then (match V.leaveL m σ rest, leaveSt m σ (List.range m) with
        | some r, some s => some (.ret (oneOrTup (.sl sz l (m - 1) :: r)), putA s (m - 1) (.tok n))
        | _, _ => none) else plainOut m σ vs
     | _, _ => plainOut m σ vs)
  | vs => plainOut m σ vs

/-- How a call ends. -/
def endK (cx : Cx) (f m : Nat) (res : List ResultVar) : Ex → Fr → St → Option (Out × St) := fun e fr σ' =>
  match e with
  | .normal | .ret => resV cx fr σ' res fun vs => bif cx.gives f then giveOut m σ' vs else plainOut m σ' vs
  | .pan v => (match v.leave m σ', leaveSt m σ' (List.range m) with | some v, some s => some (.pan v, s) | _, _ => none)
  | _ => none

/-- Is a closure's call put off? -/
def putsOff (o : Oper) : Option Nat :=
  match o.op with
  | .defer c => (match c.callee with | .value (.tmp t) => bif c.args.isEmpty && c.argTypes.isEmpty && o.guard.isNone && o.dst.isNone then some t else none | _ => none)
  | _ => none

/-- Is it a recovery? -/
def recovers (o : Oper) : Option Nat :=
  match o.op with
  | .call c => (match c.callee with | .builtin .recover => bif c.args.isEmpty && c.argTypes.isEmpty && o.guard.isNone then o.dst else none | _ => none)
  | _ => none

/-- What comes ahead of the region that puts a call off, its operations, the call's slot, and what comes behind. -/
def splitD : Code → Option (List Code × Nat × Array Oper × Nat × Code)
  | .seq (.region id ops false) b =>
    (match ops.toList.getLast? with
     | some o => (match putsOff o with
        | some t => some ([], id, ops, t, b)
        | none => (match splitD b with | some (l, x) => some (.region id ops false :: l, x) | none => none))
     | none => (match splitD b with | some (l, x) => some (.region id ops false :: l, x) | none => none))
  | .seq a b => (match splitD b with | some (l, x) => some (a :: l, x) | none => none)
  | _ => none

def evPre {R : Type} (cx : Cx) (f m nt : Nat) (call : Nat → List V → St → Option (Out × St)) (n : Nat) : List Code → Fr → St → (Ex → Fr → St → Option R) → Option R
  | [], fr, σ, K => K .normal fr σ
  | a :: r, fr, σ, K => evCode cx f m nt call n a fr σ fun e fr σ => match e with
      | .normal => evPre cx f m nt call n r fr σ K
      | e => K e fr σ

/-- Is anything let go where ways meet? -/
def hasTidy : Code → Bool
  | .seq a b => hasTidy a || hasTidy b
  | .cond _ a b => hasTidy a || hasTidy b
  | .block .. | .loop _ => true
  | .scope c => hasTidy c
  | _ => false

/-- What a recovery tells. -/
def recD : Option D → D
  | none => .nilIface
  | some x => x

/-- A closure that recovers what is under way, as the first that it does. -/
def evRec (cx : Cx) (call : Nat → List V → St → Option (Out × St)) (n g : Nat) (args : List V) (σ : St) (u : Option D) : Option St :=
  match cx.P.funcs[g]? with
  | none => none
  | some fn =>
    match fn.body with
    | some (.seq (.region _ ops false) c) =>
      (match ops.toList with
       | o :: r => optK (recovers o) fun t => must (Nat.blt t fn.ntmps && fn.results.isEmpty) <|
          evOps cx σ.length fn.ntmps call ops.toList r ((t, .d (recD u)) :: numbered 0 args) σ fun e fr σ' => match e with
            | .normal => evCode cx g σ.length fn.ntmps call n c fr σ' fun e _ σ' => (match e with | .normal | .ret => leaveSt σ.length σ' (List.range σ.length) | _ => none)
            | _ => none
       | [] => none)
    | _ => none

/-- The call that was put off. -/
def callD {R : Type} (cx : Cx) (rec : Nat → List V → St → Option D → Option St) (σ : St) (g : Nat) (cap : List V) (u : Option D) (K : De → Option R) : Option R :=
  let ren := reach σ 1000 (V.idsL cap) []
  must (closedIn σ (V.idsL cap) ren) <| match rec g (V.renL (posIn ren) cap) (renSt σ ren 0 ren) u with
  | some σ' => backOb ren σ σ' 0 ren K
  | none => none

/-- The end of a function that has put a call off. -/
def endD (cx : Cx) (rec : Nat → List V → St → Option D → Option St) (f m : Nat) (res : List ResultVar) (g : Nat) (cap : List V) : Ex → Fr → St → Option (Out × St) := fun e fr σ =>
  match e with
  | .normal | .ret => callD cx rec σ g cap none fun δ => endK cx f m res .ret fr (applyDe σ δ)
  | .pan (.d (.iface t x)) => callD cx rec σ g cap (some (.iface t x)) fun δ => endK cx f m res .ret fr (applyDe σ δ)
  | _ => none

/-- A function that puts a call off. -/
def evDfr (cx : Cx) (f m nt : Nat) (res : List ResultVar) (call : Nat → List V → St → Option (Out × St)) (n : Nat) (c : Code) (fr : Fr) (σ : St) : Option (Out × St) :=
  match splitD c with
  | none => none
  | some (as, _, ops, t, b) =>
    evPre cx f m nt call n as fr σ fun e fr σ => match e with
      | .normal => evOps cx m nt call ops.toList ops.toList.dropLast fr σ fun e fr σ => (match e with
          | .normal => optK (getA fr t) fun fv => (match fv with
              | .func g cap => must (!hasTidy b) (evCode cx f m nt call n b fr σ (endD cx (evRec cx call n) f m res g cap))
              | _ => none)
          | e => endK cx f m res e fr σ)
      | e => endK cx f m res e fr σ

/-- A call, with what is known of calls. -/
def evWith (cx : Cx) (call : Nat → List V → St → Option (Out × St)) (n f : Nat) (args : List V) (σ : St) : Option (Out × St) :=
  match cx.nat f args σ with
  | some r => some r
  | none =>
  match cx.P.funcs[f]? with
  | none => none
  | some fn =>
    match fn.body with
    | none => none
    | some c =>
      bif cx.dfr f then evDfr cx f σ.length fn.ntmps fn.results.toList call n c (numbered 0 args) σ
      else evCode cx f σ.length fn.ntmps call n c (numbered 0 args) σ (endK cx f σ.length fn.results.toList)

/-- A call of a function, with some rounds. -/
def evFun (cx : Cx) : Nat → Nat → List V → St → Option (Out × St)
  | 0, _, _, _ => none
  | n + 1, f, args, σ => evWith cx (evFun cx n) n f args σ

end Go.Vai
end

section
namespace Go.Vai

/-- A string's bytes. -/
def strB (s : List UInt8) : ByteArray := ⟨s.toArray⟩

/-- Which cells (and maps: at 0) may still be written. -/
abbrev Own := Nat → Nat → Prop

/-- Plain data in memory that nobody writes any more. -/
inductive RD (w : World) (own : Own) : Value → D → Prop
  | int (k : IntKind) (n : Int) : RD w own (.int k n) (.int k n)
  | bool (b : Bool) : RD w own (.bool b) (.bool b)
  | str (s : List UInt8) : RD w own (.string (strB s)) (.str s)
  | agg (cs : Array Value) (l : List D) (hl : cs.size = l.length) (ho : ∀ x ∈ cs.toList, x.oneCell' = true) (h : ∀ (i : Nat) x y, cs[i]? = some x → l[i]? = some y → RD w own x y) : RD w own (.agg cs) (.agg l)
  | sl0 (base : Option Addr) (cap sz : Nat) : RD w own (.slice base 0 cap) (.sl sz [])
  | sl (b o n cap sz : Nat) (l : List D) (xs : Nat → Value) (hn : n = l.length) (hcap : n ≤ cap) (hsz : ∀ y ∈ l, y.cells.length = sz)
      (hc : ∀ k, k < n * sz → w.cell? ⟨b, o + k, none⟩ = some (xs k) ∧ ¬ own b (o + k) ∧ (xs k).oneCell' = true)
      (h : ∀ (i j : Nat) y c, l[i]? = some y → y.cells[j]? = some c → RD w own (xs (i * sz + j)) c) : RD w own (.slice (some ⟨b, o, none⟩) n cap) (.sl sz l)
  | map (r : Nat) (es : Array MapEntry) (clock : Nat) (ks vs : List D) (hm : w.heap[r]? = some (.map es clock)) (ho : ¬ own r 0)
      (hk : es.size = ks.length) (hv : es.size = vs.length)
      (h : ∀ (i : Nat) e k, es[i]? = some e → ks[i]? = some k → RD w own e.key k) (h' : ∀ (i : Nat) e v, es[i]? = some e → vs[i]? = some v → RD w own e.val v) :
      RD w own (.map (some r)) (.map ks vs)
  | iface (t : Nat) (v : Value) (x : D) (h : RD w own v x) : RD w own (.iface t v) (.iface t x)
  | nilIface : RD w own .nilIface .nilIface
  | nilptr : RD w own (.pointer none) .nilptr
  | nilmap : RD w own (.map none) .nilmap
  | nilfunc : RD w own .nilFunc .nilfunc

/-- Where an object lies; of a slice that may be appended to: from which cell of its block on nobody else reads, and the block's cells. -/
structure Lo where
  blk : Option Nat
  f : Nat := 0
  e : Nat := 0
  el : Nat := 0

/-- Where all objects lie; and what others own. -/
structure Mu where
  lo : Nat → Lo
  fr : Own

instance : CoeFun Mu fun _ => Nat → Lo := ⟨Mu.lo⟩

def owns (μ : Mu) (id : Nat) (o : Ob) (b i : Nat) : Prop :=
  match o with
  | .tok _ => (μ id).blk = some b ∧ (μ id).f ≤ i
  | _ => (μ id).blk = some b

/-- The cells of the objects. -/
def Mine (σ : St) (μ : Mu) : Own := fun b i => ∃ id o, getA σ id = some o ∧ owns μ id o b i

def OwnOf (σ : St) (μ : Mu) : Own := fun b i => μ.fr b i ∨ Mine σ μ b i

/-- The end of a slice that may be appended to. -/
def tail (μ : Mu) (id : Nat) (v : Value) (sz : Nat) : Prop :=
  match v with
  | .slice base n cap => (cap = 0 ∧ n = 0 ∧ (μ id).blk = none ∧ (sz < 1048576 ∨ base = none)) ∨ ∃ b o, base = some ⟨b, o, none⟩ ∧ (μ id).blk = some b ∧ o + n * szN sz = (μ id).f ∧ o + cap * szN sz ≤ (μ id).e ∧ n ≤ cap ∧ tagO sz (μ id).el o n
  | _ => False

def isCell : Option Ob → Prop
  | some (.val ..) | some (.row _) => True
  | _ => False

inductive RV (w : World) (σ : St) (μ : Mu) : Value → V → Prop
  | d (v : Value) (x : D) (h : RD w (OwnOf σ μ) v x) : RV w σ μ v (.d x)
  | ptr (id off b : Nat) (hi : isCell (getA σ id)) (hb : (μ id).blk = some b) : RV w σ μ (.pointer (some ⟨b, off, none⟩)) (.ptr id off)
  | eptr (x : D) (b o off : Nat) (xs : Nat → Value) (hc : ∀ j, j < x.cells.length → w.cell? ⟨b, o + j, none⟩ = some (xs j) ∧ ¬ OwnOf σ μ b (o + j) ∧ (xs j).oneCell' = true)
      (h : ∀ (j : Nat) c, x.cells[j]? = some c → RD w (OwnOf σ μ) (xs j) c) : RV w σ μ (.pointer (some ⟨b, o + off, none⟩)) (.eptr x off)
  | gptr (g off : Nat) : RV w σ μ (.pointer (some ⟨g, off, none⟩)) (.gptr g off)
  | agg (cs : Array Value) (l : List V) (hl : cs.size = l.length) (ho : ∀ x ∈ cs.toList, x.oneCell' = true) (h : ∀ (i : Nat) x y, cs[i]? = some x → l[i]? = some y → RV w σ μ x y) : RV w σ μ (.agg cs) (.agg l)
  | sl (v : Value) (sz : Nat) (l : List D) (id n : Nat) (h : RD w (OwnOf σ μ) v (.sl (szN sz) l)) (ht : getA σ id = some (.tok n)) (hn : l.length ≤ n)
      (he : l.length = n → tail μ id v sz) : RV w σ μ v (.sl sz l id)
  | slo (id off n cap b : Nat) (l : List D) (hi : getA σ id = some (.row l)) (hb : (μ id).blk = some b) (hn : off + n ≤ l.length) (hcap : n ≤ cap) : RV w σ μ (.slice (some ⟨b, off, none⟩) n cap) (.slo id off n)
  | func (f : Nat) (cs : Array Value) (l : List V) (hl : cs.size = l.length) (h : ∀ (i : Nat) x y, cs[i]? = some x → l[i]? = some y → RV w σ μ x y) :
      RV w σ μ (.func (.func f) #[] cs) (.func f l)
  | map (id b : Nat) (ks vs : List D) (hi : getA σ id = some (.map ks vs)) (hb : (μ id).blk = some b) : RV w σ μ (.map (some b)) (.map id)
  | iface (t : Nat) (v : Value) (u : V) (h : RV w σ μ v u) : RV w σ μ (.iface t v) (.iface t u)
  | tup (cs : Array Value) (l : List V) (hl : cs.size = l.length) (h : ∀ (i : Nat) x y, cs[i]? = some x → l[i]? = some y → RV w σ μ x y) : RV w σ μ (.tuple cs) (.tup l)

theorem szN_lt {n : Nat} (h : n < 1048576) : szN n = n := Nat.mod_eq_of_lt h

theorem tagB_ok {n el : Nat} (h : tagB n el = true) : tagOk n el := by
  unfold tagB at h
  rw [Bool.or_eq_true] at h
  rcases h with h | h
  · exact .inl (by simpa using h)
  · exact .inr (Nat.eq_of_beq_eq_true h)

theorem tagOk.o {n el k : Nat} (h : tagOk n el) (hk : 0 < k) : tagO n el 0 k := h.imp id fun h => ⟨h, rfl, hk⟩
theorem tagO.more {n el o k k' : Nat} (h : tagO n el o k) (hk : k ≤ k') : tagO n el o k' := h.imp id fun h => ⟨h.1, h.2.1, Nat.lt_of_lt_of_le h.2.2 hk⟩

theorem tail_mk {μ : Mu} {id b o n cap sz c : Nat} (hc : szN sz = c) (h1 : (μ id).blk = some b) (h2 : o + n * c = (μ id).f) (h3 : o + cap * c ≤ (μ id).e) (h4 : n ≤ cap) (h5 : tagO sz (μ id).el o n) :
    tail μ id (.slice (some ⟨b, o, none⟩) n cap) sz := by
  subst hc
  exact .inr ⟨b, o, rfl, h1, h2, h3, h4, h5⟩

theorem tail_inv {μ : Mu} {id n cap sz c : Nat} {base : Option Addr} (hc : szN sz = c) (h : tail μ id (.slice base n cap) sz) :
    (cap = 0 ∧ n = 0 ∧ (μ id).blk = none ∧ (sz < 1048576 ∨ base = none)) ∨ ∃ b o, base = some ⟨b, o, none⟩ ∧ (μ id).blk = some b ∧ o + n * c = (μ id).f ∧ o + cap * c ≤ (μ id).e ∧ n ≤ cap ∧ tagO sz (μ id).el o n := by
  subst hc
  exact h

theorem RV.slm {w : World} {σ : St} {μ : Mu} {v : Value} {sz c : Nat} {l : List D} {id n : Nat} (hc : szN sz = c) (h : RD w (OwnOf σ μ) v (.sl c l)) (ht : getA σ id = some (.tok n)) (hn : l.length ≤ n)
    (he : l.length = n → tail μ id v sz) : RV w σ μ v (.sl sz l id) := by
  subst hc
  exact .sl v sz l id n h ht hn he

/-- Lists, one by one. -/
def RVs (w : World) (σ : St) (μ : Mu) (vs : List Value) (l : List V) : Prop := vs.length = l.length ∧ ∀ (i : Nat) x y, vs[i]? = some x → l[i]? = some y → RV w σ μ x y
def RDs (w : World) (own : Own) (vs : List Value) (l : List D) : Prop := vs.length = l.length ∧ ∀ (i : Nat) x y, vs[i]? = some x → l[i]? = some y → RD w own x y

/-- What is not written stays. -/
structure Stays (w : World) (own : Own) (w' : World) (own' : Own) : Prop where
  cell : ∀ b i x, ¬ own b i → w.cell? ⟨b, i, none⟩ = some x → w'.cell? ⟨b, i, none⟩ = some x ∧ ¬ own' b i
  map : ∀ r es clock, ¬ own r 0 → w.heap[r]? = some (.map es clock) → w'.heap[r]? = some (.map es clock) ∧ ¬ own' r 0

theorem Stays.refl (w : World) (own : Own) : Stays w own w own := ⟨fun _ _ _ h hc => ⟨hc, h⟩, fun _ _ _ h hc => ⟨hc, h⟩⟩

theorem Stays.trans {w w' w'' : World} {own own' own'' : Own} (h : Stays w own w' own') (h' : Stays w' own' w'' own'') : Stays w own w'' own'' :=
  ⟨fun b i x hn hc => let ⟨a, b'⟩ := h.cell b i x hn hc; h'.cell b i x b' a, fun r es cl hn hm => let ⟨a, b'⟩ := h.map r es cl hn hm; h'.map r es cl b' a⟩

theorem RD.stays {w w' : World} {own own' : Own} (hs : Stays w own w' own') {v : Value} {x : D} (h : RD w own v x) : RD w' own' v x := by
  induction h with
  | int k n => exact .int k n
  | bool b => exact .bool b
  | str s => exact .str s
  | agg cs l hl ho _ ih => exact .agg cs l hl ho ih
  | sl0 base cap sz => exact .sl0 base cap sz
  | sl b o n cap sz l xs hn hcap hsz hc _ ih => exact .sl b o n cap sz l xs hn hcap hsz (fun k hk => ⟨(hs.cell _ _ _ (hc k hk).2.1 (hc k hk).1).1, (hs.cell _ _ _ (hc k hk).2.1 (hc k hk).1).2, (hc k hk).2.2⟩) ih
  | map r es clock ks vs hm ho hk hv _ _ ih ih' => obtain ⟨a, b⟩ := hs.map r es clock ho hm; exact .map r es clock ks vs a b hk hv ih ih'
  | iface t v x _ ih => exact .iface t v x ih
  | nilIface => exact .nilIface
  | nilptr => exact .nilptr
  | nilmap => exact .nilmap
  | nilfunc => exact .nilfunc

/-- An object is still of its make, at its place. -/
def stillOb (μ : Mu) (id : Nat) (o : Ob) (μ' : Mu) (o' : Option Ob) : Prop :=
  match o, o' with
  | .val n _, some (.val n' _) => n' = n ∧ (μ' id).blk = (μ id).blk
  | .row l, some (.row l') => l'.length = l.length ∧ (μ' id).blk = (μ id).blk
  | .map .., some (.map ..) => (μ' id).blk = (μ id).blk
  | .tok n, some (.tok n') => n ≤ n' ∧ (n = n' → μ' id = μ id)
  | _, _ => False

def Still (σ : St) (μ : Mu) (σ' : St) (μ' : Mu) (ids : List Nat) : Prop := ∀ id ∈ ids, ∀ o, getA σ id = some o → stillOb μ id o μ' (getA σ' id)

theorem V.idsL_mem {l : List V} {v : V} (h : v ∈ l) {i : Nat} (hi : i ∈ v.ids) : i ∈ V.idsL l := by
  induction l with
  | nil => cases h
  | cons a r ih =>
    simp only [V.idsL, List.mem_append]
    cases h with
    | head => exact .inl hi
    | tail _ h => exact .inr (ih h)

theorem RV.stays {w w' : World} {σ σ' : St} {μ μ' : Mu} (hs : Stays w (OwnOf σ μ) w' (OwnOf σ' μ')) {v : Value} {x : V} (h : RV w σ μ v x)
    (hi : Still σ μ σ' μ' x.ids) : RV w' σ' μ' v x := by
  induction h with
  | d v x h => exact .d v x (h.stays hs)
  | ptr id off b hc hb =>
    cases ho : getA σ id with
    | none => rw [ho] at hc; exact hc.elim
    | some o =>
      have := hi id (by simp [V.ids]) o ho
      rw [ho] at hc
      cases o with
      | val n v =>
        cases ho' : getA σ' id with
        | none => rw [ho'] at this; exact this.elim
        | some o' => rw [ho'] at this; cases o' <;> first | exact this.elim | exact .ptr id off b (by rw [ho']; trivial) (this.2.trans hb)
      | row l =>
        cases ho' : getA σ' id with
        | none => rw [ho'] at this; exact this.elim
        | some o' => rw [ho'] at this; cases o' <;> first | exact this.elim | exact .ptr id off b (by rw [ho']; trivial) (this.2.trans hb)
      | tok n => exact hc.elim
      | map ks vs => exact hc.elim
  | eptr x b o off xs hc h => exact .eptr x b o off xs (fun j hj => ⟨(hs.cell _ _ _ (hc j hj).2.1 (hc j hj).1).1, (hs.cell _ _ _ (hc j hj).2.1 (hc j hj).1).2, (hc j hj).2.2⟩) (fun j c hj => (h j c hj).stays hs)
  | gptr g off => exact .gptr g off
  | agg cs l hl ho _ ih => exact .agg cs l hl ho fun i x y hx hy => ih i x y hx hy fun j hj => hi j (V.idsL_mem (List.mem_of_getElem? hy) hj)
  | sl v sz l id n h ht hn he =>
    have := hi id (by simp [V.ids]) _ ht
    cases ho' : getA σ' id with
    | none => rw [ho'] at this; exact this.elim
    | some o' =>
      rw [ho'] at this
      cases o' with
      | tok n' =>
        obtain ⟨h1, h2⟩ := this
        refine .sl v sz l id n' (h.stays hs) ho' (Nat.le_trans hn h1) fun e => ?_
        have e1 : l.length = n := Nat.le_antisymm hn (e ▸ h1)
        have e2 : n = n' := e1 ▸ e
        have := he e1
        unfold tail at this ⊢
        rw [h2 e2]
        exact this
      | _ => exact this.elim
  | slo id off n cap b l ho hb hn hcap =>
    have := hi id (by simp [V.ids]) _ ho
    cases ho' : getA σ' id with
    | none => rw [ho'] at this; exact this.elim
    | some o' => rw [ho'] at this; cases o' <;> first | exact this.elim | exact .slo id off n cap b _ ho' (this.2.trans hb) (by rw [this.1]; exact hn) hcap
  | func f cs l hl _ ih => exact .func f cs l hl fun i x y hx hy => ih i x y hx hy fun j hj => hi j (V.idsL_mem (List.mem_of_getElem? hy) hj)
  | map id b ks vs ho hb =>
    have := hi id (by simp [V.ids]) _ ho
    cases ho' : getA σ' id with
    | none => rw [ho'] at this; exact this.elim
    | some o' => rw [ho'] at this; cases o' <;> first | exact this.elim | exact .map id b _ _ ho' ((show (μ' id).blk = (μ id).blk from this).trans hb)
  | iface t v u _ ih => exact .iface t v u (ih hi)
  | tup cs l hl _ ih => exact .tup cs l hl fun i x y hx hy => ih i x y hx hy fun j hj => hi j (V.idsL_mem (List.mem_of_getElem? hy) hj)

/-- An object is what the machine's memory holds. -/
def ObOk (w : World) (σ : St) (μ : Mu) (id : Nat) : Ob → Prop
  | .val n v => ∃ b cs el, (μ id).blk = some b ∧ w.heap[b]? = some (.cells cs el (0, 0)) ∧ cs.size = szN n ∧ v.tupV = false ∧ (∀ x ∈ cs.toList, x.oneCell' = true) ∧ RVs w σ μ cs.toList v.cells ∧ tagOk n el
  | .row l => ∃ b cs el, (μ id).blk = some b ∧ w.heap[b]? = some (.cells cs el (0, 0)) ∧ (∀ x ∈ cs.toList, x.oneCell' = true) ∧ RDs w (OwnOf σ μ) cs.toList l
  | .tok _ => ∀ b, (μ id).blk = some b → ∃ cs el fr, w.heap[b]? = some (.cells cs el fr) ∧ el = (μ id).el ∧ cs.size = (μ id).e ∧ (fr = (0, 0) ∨ cs.size ≤ fr.1)
  | .map ks vs => ∃ b es clock, (μ id).blk = some b ∧ w.heap[b]? = some (.map es clock) ∧ RDs w (OwnOf σ μ) (es.toList.map (·.key)) ks ∧ RDs w (OwnOf σ μ) (es.toList.map (·.val)) vs

/-- The package-level variables that are known. -/
def GlobOk (cx : Cx) (w : World) (own : Own) : Prop :=
  ∀ g x, cx.glob g = some x → ∃ xs : Nat → Value, (∀ j, j < x.cells.length → w.cell? ⟨g, j, none⟩ = some (xs j) ∧ ¬ own g j ∧ (xs j).oneCell' = true) ∧ ∀ (j : Nat) c, x.cells[j]? = some c → RD w own (xs j) c

structure Inv (cx : Cx) (w : World) (σ : St) (μ : Mu) : Prop where
  ob : ∀ id o, getA σ id = some o → ObOk w σ μ id o
  apart : ∀ id id' o o' b i, getA σ id = some o → getA σ id' = some o' → owns μ id o b i → owns μ id' o' b i → id = id'
  glob : GlobOk cx w (OwnOf σ μ)
  frame : ∀ id o b i, getA σ id = some o → owns μ id o b i → ∀ j, ¬ μ.fr b j
  frLt : ∀ b i, μ.fr b i → b < w.heap.size
  frMap : ∀ r es clock i, w.heap[r]? = some (.map es clock) → μ.fr r i → μ.fr r 0

/-- What a run has left of the rest of the world. -/
structure Kept (w : World) (own : Own) (w' : World) : Prop where
  os : w'.os = w.os
  output : w'.output = w.output
  size : w.heap.size ≤ w'.heap.size
  blk : ∀ b, b < w.heap.size → (∀ i, ¬ own b i) → w'.heap[b]? = w.heap[b]?
  cell : ∀ b i x, ¬ own b i → w.cell? ⟨b, i, none⟩ = some x → w'.cell? ⟨b, i, none⟩ = some x

/-- From one moment to a later one. -/
structure Goes (w : World) (σ : St) (μ : Mu) (w' : World) (σ' : St) (μ' : Mu) : Prop where
  kept : Kept w (Mine σ μ) w'
  own : ∀ b i, b < w.heap.size → Mine σ' μ' b i → Mine σ μ b i
  fr : μ'.fr = μ.fr

theorem Goes.ownOf {w w' : World} {σ σ' : St} {μ μ' : Mu} (h : Goes w σ μ w' σ' μ') {b i : Nat} (hb : b < w.heap.size) (ho : OwnOf σ' μ' b i) : OwnOf σ μ b i := by
  rcases ho with hf | ho
  · exact .inl (h.fr ▸ hf)
  · exact .inr (h.own b i hb ho)

theorem lt_of_cell {w : World} {b i : Nat} {x : Value} (h : w.cell? ⟨b, i, none⟩ = some x) : b < w.heap.size := World.block_lt_of_cell? _ _ h
theorem lt_of_heap {w : World} {b : Nat} {x : Obj} (h : w.heap[b]? = some x) : b < w.heap.size := (Array.getElem?_eq_some_iff.1 h).1

theorem Goes.stays {w w' : World} {σ σ' : St} {μ μ' : Mu} (h : Goes w σ μ w' σ' μ') (hi : ∀ r es clock, w.heap[r]? = some (.map es clock) → ¬ OwnOf σ μ r 0 → ∀ i, ¬ OwnOf σ μ r i) :
    Stays w (OwnOf σ μ) w' (OwnOf σ' μ') :=
  ⟨fun b i x hn hc => ⟨h.kept.cell b i x (fun hm => hn (.inr hm)) hc, fun ho => hn (h.ownOf (lt_of_cell hc) ho)⟩,
   fun r es clock hn hm => ⟨(h.kept.blk r (lt_of_heap hm) fun i hm' => hi r es clock hm hn i (.inr hm')).trans hm, fun ho => hn (h.ownOf (lt_of_heap hm) ho)⟩⟩

/-- Of a map's block nothing else is owned. -/
theorem Inv.mapOwn {cx : Cx} {w : World} {σ : St} {μ : Mu} (h : Inv cx w σ μ) (r : Nat) (es : Array MapEntry) (clock : Nat) (hm : w.heap[r]? = some (.map es clock))
    (hn : ¬ OwnOf σ μ r 0) (i : Nat) : ¬ OwnOf σ μ r i := by
  rintro (hfr | ⟨id, o, ho, hb⟩)
  · exact hn (.inl (h.frMap r es clock i hm hfr))
  have := h.ob id o ho
  cases o with
  | val n v => obtain ⟨b, cs, el, hb', hh, _⟩ := this; have : r = b := (by simpa [owns, hb'] using hb.symm); subst this; rw [hm] at hh; cases hh
  | row l => obtain ⟨b, cs, el, hb', hh, _⟩ := this; have : r = b := (by simpa [owns, hb'] using hb.symm); subst this; rw [hm] at hh; cases hh
  | tok n => obtain ⟨cs, el, fr, hh, _⟩ := this r hb.1; rw [hm] at hh; cases hh
  | map ks vs => exact hn (.inr ⟨id, _, ho, hb⟩)

theorem Goes.stays' {cx : Cx} {w w' : World} {σ σ' : St} {μ μ' : Mu} (h : Goes w σ μ w' σ' μ') (hi : Inv cx w σ μ) : Stays w (OwnOf σ μ) w' (OwnOf σ' μ') :=
  h.stays fun r es clock hm hn => hi.mapOwn r es clock hm hn

theorem Goes.refl (w : World) (σ : St) (μ : Mu) : Goes w σ μ w σ μ := ⟨⟨rfl, rfl, Nat.le_refl _, fun _ _ _ => rfl, fun _ _ _ _ h => h⟩, fun _ _ _ h => h, rfl⟩

theorem Goes.trans {w w' w'' : World} {σ σ' σ'' : St} {μ μ' μ'' : Mu} (h : Goes w σ μ w' σ' μ') (h' : Goes w' σ' μ' w'' σ'' μ'') : Goes w σ μ w'' σ'' μ'' where
  kept := {
    os := h'.kept.os.trans h.kept.os
    output := h'.kept.output.trans h.kept.output
    size := Nat.le_trans h.kept.size h'.kept.size
    blk := fun b hb hn => (h'.kept.blk b (Nat.lt_of_lt_of_le hb h.kept.size) fun i ho => hn i (h.own b i hb ho)).trans (h.kept.blk b hb hn)
    cell := fun b i x hn hc => h'.kept.cell b i x (fun ho => hn (h.own b i (lt_of_cell hc) ho)) (h.kept.cell b i x hn hc) }
  own := fun b i hb ho => h.own b i hb (h'.own b i (Nat.lt_of_lt_of_le hb h.kept.size) ho)
  fr := h'.fr.trans h.fr

/-- The slots. -/
def FR (w : World) (σ : St) (μ : Mu) (tmps : Array Value) (fr : Fr) : Prop := ∀ t v, getA fr t = some v → RV w σ μ (tmps.getD t undef) v

end Go.Vai
end

section
namespace Go.Vai

theorem beqF {k i : Nat} (h : ¬ k = i) : Nat.beq k i = false := by
  cases e : Nat.beq k i
  · rfl
  · exact absurd (Nat.eq_of_beq_eq_true e) h

theorem beqT (k : Nat) : Nat.beq k k = true := Nat.beq_refl k

theorem getA_putA {α : Type} : ∀ (l : List (Nat × α)) (i j : Nat) (x : α), getA (putA l i x) j = if i = j then some x else getA l j := by
  intro l
  induction l with
  | nil =>
    intro i j x
    by_cases h : i = j
    · subst h; simp [putA, getA]
    · simp [putA, getA, h, beqF h]
  | cons p r ih =>
    intro i j x
    obtain ⟨k, y⟩ := p
    simp only [putA, getA]
    by_cases hk : k = i
    · subst hk
      by_cases hj : k = j
      · subst hj; simp [getA]
      · simp [getA, hj, beqF hj]
    · simp only [beqF hk, cond_false, getA, ih]
      by_cases hj : k = j
      · subst hj
        have : ¬ i = k := fun h => hk h.symm
        simp [this]
      · simp [beqF hj]

theorem getA_applyDe_not {δ : De} : ∀ {σ : St} {j : Nat}, j ∉ δ.map (·.1) → getA (applyDe σ δ) j = getA σ j := by
  induction δ with
  | nil => intro σ j _; rfl
  | cons p r ih =>
    intro σ j h
    obtain ⟨i, o⟩ := p
    simp only [List.map_cons, List.mem_cons, not_or] at h
    simp only [applyDe]
    rw [ih h.2, getA_putA, if_neg (fun e => h.1 e.symm)]

/-- All that was there is there, of its make. -/
structure After (cx : Cx) (w : World) (σ : St) (μ : Mu) (w' : World) (σ' : St) (μ' : Mu) : Prop where
  inv : Inv cx w' σ' μ'
  goes : Goes w σ μ w' σ' μ'
  still : ∀ id o, getA σ id = some o → stillOb μ id o μ' (getA σ' id)
  fr : μ'.fr = μ.fr

theorem stillOb.refl (μ : Mu) (id : Nat) (o : Ob) : stillOb μ id o μ (some o) := by
  cases o <;> simp [stillOb]

theorem stillOb.trans {μ μ' μ'' : Mu} {id : Nat} {o : Ob} {σ' σ'' : St} (h : stillOb μ id o μ' (getA σ' id)) (h' : ∀ o', getA σ' id = some o' → stillOb μ' id o' μ'' (getA σ'' id)) :
    stillOb μ id o μ'' (getA σ'' id) := by
  cases ho : getA σ' id with
  | none => rw [ho] at h; cases o <;> exact h.elim
  | some o' =>
    have h2 := h' o' ho
    rw [ho] at h
    cases hq : getA σ'' id with
    | none => rw [hq] at h2; cases o' <;> exact h2.elim
    | some q =>
      rw [hq] at h2
      cases o <;> cases o' <;> simp only [stillOb] at h <;> cases q <;> simp only [stillOb] at h2 ⊢
      · exact ⟨h2.1.trans h.1, h2.2.trans h.2⟩
      · exact ⟨h2.1.trans h.1, h2.2.trans h.2⟩
      · refine ⟨Nat.le_trans h.1 h2.1, fun e => ?_⟩
        have e1 := Nat.le_antisymm h.1 (e ▸ h2.1)
        exact (h2.2 (e1 ▸ e)).trans (h.2 e1)
      · exact h2.trans h

theorem After.refl {cx : Cx} {w : World} {σ : St} {μ : Mu} (h : Inv cx w σ μ) : After cx w σ μ w σ μ :=
  ⟨h, Goes.refl w σ μ, fun id o ho => by rw [ho]; exact stillOb.refl μ id o, rfl⟩

theorem After.trans {cx : Cx} {w w' w'' : World} {σ σ' σ'' : St} {μ μ' μ'' : Mu} (h : After cx w σ μ w' σ' μ') (h' : After cx w' σ' μ' w'' σ'' μ'') : After cx w σ μ w'' σ'' μ'' :=
  ⟨h'.inv, h.goes.trans h'.goes, fun id o ho => (h.still id o ho).trans fun o' ho' => h'.still id o' ho', h'.fr.trans h.fr⟩

theorem After.rv {cx : Cx} {w w' : World} {σ σ' : St} {μ μ' : Mu} (h : After cx w σ μ w' σ' μ') (hi : Inv cx w σ μ) {v : Value} {x : V} (hv : RV w σ μ v x) : RV w' σ' μ' v x :=
  hv.stays (h.goes.stays' hi) fun id _ o ho => h.still id o ho

theorem After.rd {cx : Cx} {w w' : World} {σ σ' : St} {μ μ' : Mu} (h : After cx w σ μ w' σ' μ') (hi : Inv cx w σ μ) {v : Value} {x : D} (hv : RD w (OwnOf σ μ) v x) : RD w' (OwnOf σ' μ') v x :=
  hv.stays (h.goes.stays' hi)

theorem After.frs {cx : Cx} {w w' : World} {σ σ' : St} {μ μ' : Mu} (h : After cx w σ μ w' σ' μ') (hi : Inv cx w σ μ) {tmps : Array Value} {fr : Fr} (hf : FR w σ μ tmps fr) : FR w' σ' μ' tmps fr :=
  fun t v ht => h.rv hi (hf t v ht)

/-- A change of some objects, and new blocks. -/
structure Upd (cx : Cx) (w : World) (σ : St) (μ : Mu) (w' : World) (σ' : St) (μ' : Mu) (ids : List Nat) : Prop where
  os : w'.os = w.os
  output : w'.output = w.output
  size : w.heap.size ≤ w'.heap.size
  blk : ∀ b, b < w.heap.size → (∀ id ∈ ids, ∀ o, getA σ id = some o → ∀ i, ¬ owns μ id o b i) → w'.heap[b]? = w.heap[b]?
  cell : ∀ b i x, (∀ id ∈ ids, ∀ o, getA σ id = some o → ¬ owns μ id o b i) → w.cell? ⟨b, i, none⟩ = some x → w'.cell? ⟨b, i, none⟩ = some x
  fr : μ'.fr = μ.fr
  same : ∀ j, j ∉ ids → getA σ' j = getA σ j ∧ μ' j = μ j
  own : ∀ id ∈ ids, ∀ o', getA σ' id = some o' → ∀ b i, owns μ' id o' b i → b < w.heap.size → ∃ o, getA σ id = some o ∧ owns μ id o b i
  still : ∀ id ∈ ids, ∀ o, getA σ id = some o → stillOb μ id o μ' (getA σ' id)
  apart : ∀ id ∈ ids, ∀ id' ∈ ids, ∀ o o' b i, getA σ' id = some o → getA σ' id' = some o' → owns μ' id o b i → owns μ' id' o' b i → w.heap.size ≤ b → id = id'

theorem owns_congr {μ μ' : Mu} {id : Nat} (h : μ' id = μ id) (o : Ob) (b i : Nat) : owns μ' id o b i ↔ owns μ id o b i := by
  cases o <;> simp [owns, h]

theorem owns_lt {cx : Cx} {w : World} {σ : St} {μ : Mu} (h : Inv cx w σ μ) {id : Nat} {o : Ob} (ho : getA σ id = some o) {b i : Nat} (hb : owns μ id o b i) : b < w.heap.size := by
  have := h.ob id o ho
  cases o with
  | val n v => obtain ⟨b', cs, el, hb', hh, _⟩ := this; have : b' = b := (by simpa [owns, hb'] using hb); subst this; exact lt_of_heap hh
  | row l => obtain ⟨b', cs, el, hb', hh, _⟩ := this; have : b' = b := (by simpa [owns, hb'] using hb); subst this; exact lt_of_heap hh
  | tok n => obtain ⟨cs, el, fr, hh, _⟩ := this b hb.1; exact lt_of_heap hh
  | map ks vs => obtain ⟨b', es, clock, hb', hh, _⟩ := this; have : b' = b := (by simpa [owns, hb'] using hb); subst this; exact lt_of_heap hh

theorem Upd.goes {cx : Cx} {w w' : World} {σ σ' : St} {μ μ' : Mu} {ids : List Nat} (h : Upd cx w σ μ w' σ' μ' ids) : Goes w σ μ w' σ' μ' where
  kept := {
    os := h.os
    output := h.output
    size := h.size
    blk := fun b hb hn => h.blk b hb fun id _ o ho i hown => hn i ⟨id, o, ho, hown⟩
    cell := fun b i x hn hc => h.cell b i x (fun id _ o ho hown => hn ⟨id, o, ho, hown⟩) hc }
  own := fun b i hb ho => by
    obtain ⟨id, o, ho, hown⟩ := ho
    by_cases hm : id ∈ ids
    · obtain ⟨o', ho', hown'⟩ := h.own id hm o ho b i hown hb
      exact ⟨id, o', ho', hown'⟩
    · obtain ⟨e1, e2⟩ := h.same id hm
      exact ⟨id, o, e1 ▸ ho, (owns_congr e2 o b i).1 hown⟩
  fr := h.fr

theorem Upd.stillAll {cx : Cx} {w w' : World} {σ σ' : St} {μ μ' : Mu} {ids : List Nat} (h : Upd cx w σ μ w' σ' μ' ids) (id : Nat) (o : Ob) (ho : getA σ id = some o) :
    stillOb μ id o μ' (getA σ' id) := by
  by_cases hm : id ∈ ids
  · exact h.still id hm o ho
  · obtain ⟨e1, e2⟩ := h.same id hm
    rw [e1, ho]
    cases o <;> simp [stillOb, e2]

theorem RVs.map {w w' : World} {σ σ' : St} {μ μ' : Mu} {vs : List Value} {l : List V} (h : RVs w σ μ vs l) (f : ∀ v x, x ∈ l → RV w σ μ v x → RV w' σ' μ' v x) : RVs w' σ' μ' vs l :=
  ⟨h.1, fun i x y hx hy => f x y (List.mem_of_getElem? hy) (h.2 i x y hx hy)⟩

theorem RDs.stays {w w' : World} {own own' : Own} (hs : Stays w own w' own') {vs : List Value} {l : List D} (h : RDs w own vs l) : RDs w' own' vs l :=
  ⟨h.1, fun i x y hx hy => (h.2 i x y hx hy).stays hs⟩

theorem Upd.inv {cx : Cx} {w w' : World} {σ σ' : St} {μ μ' : Mu} {ids : List Nat} (h : Upd cx w σ μ w' σ' μ' ids) (hi : Inv cx w σ μ)
    (hob : ∀ id ∈ ids, ∀ o', getA σ' id = some o' → ObOk w' σ' μ' id o') : Inv cx w' σ' μ' := by
  have hs := h.goes.stays' hi
  have rv : ∀ v x, RV w σ μ v x → RV w' σ' μ' v x := fun v x hv => hv.stays hs fun id _ o ho => h.stillAll id o ho
  have frOwn : ∀ id o b i, getA σ' id = some o → owns μ' id o b i → ∀ j, ¬ μ'.fr b j := by
    intro id o b i ho hown j hf
    rw [h.fr] at hf
    by_cases hm : id ∈ ids
    · obtain ⟨q, hq, hqo⟩ := h.own id hm o ho b i hown (hi.frLt b j hf)
      exact hi.frame id q b i hq hqo j hf
    · obtain ⟨e1, e2⟩ := h.same id hm
      exact hi.frame id o b i (e1 ▸ ho) ((owns_congr e2 o b i).1 hown) j hf
  refine ⟨fun id o ho => ?_, fun id id' o o' b i ho ho' hb hb' => ?_, fun g x hg => ?_, frOwn, fun b i hf => ?_, fun r es clock i hm hf => ?_⟩
  · by_cases hm : id ∈ ids
    · exact hob id hm o ho
    · obtain ⟨e1, e2⟩ := h.same id hm
      rw [e1] at ho
      have hok := hi.ob id o ho
      -- none of the changed objects owns anything in this object's block
      have hfree : ∀ b, (μ id).blk = some b → ∀ id' ∈ ids, ∀ o', getA σ id' = some o' → ∀ i, ¬ owns μ id' o' b i := by
        intro b hb id' hm' o' ho' i hown
        refine hm ?_
        have key : ∃ k, owns μ id o b k ∧ owns μ id' o' b k := by
          refine ⟨max i (max (μ id).f (μ id').f), ?_, ?_⟩
          · cases o <;> simp only [owns, hb, true_and] <;> omega
          · cases o' <;> simp only [owns] at hown ⊢ <;> first | exact hown | exact ⟨hown.1, by omega⟩
        obtain ⟨k, h1, h2⟩ := key
        have := hi.apart id id' o o' b k ho ho' h1 h2
        exact this ▸ hm'
      cases o with
      | val n v =>
        obtain ⟨b, cs, el, hb, hh, hn, ht, h1, hr, htag⟩ := hok
        exact ⟨b, cs, el, e2 ▸ hb, (h.blk b (lt_of_heap hh) (hfree b hb)).trans hh, hn, ht, h1, hr.map fun v x _ => rv v x, htag⟩
      | row l =>
        obtain ⟨b, cs, el, hb, hh, h1, hr⟩ := hok
        exact ⟨b, cs, el, e2 ▸ hb, (h.blk b (lt_of_heap hh) (hfree b hb)).trans hh, h1, hr.stays hs⟩
      | tok n =>
        intro b hb
        rw [e2] at hb ⊢
        obtain ⟨cs, el, fr, hh, hz⟩ := hok b hb
        exact ⟨cs, el, fr, (h.blk b (lt_of_heap hh) (hfree b hb)).trans hh, hz⟩
      | map ks vs =>
        obtain ⟨b, es, clock, hb, hh, hk, hv⟩ := hok
        exact ⟨b, es, clock, e2 ▸ hb, (h.blk b (lt_of_heap hh) (hfree b hb)).trans hh, hk.stays hs, hv.stays hs⟩
  · -- apart
    by_cases hlt : b < w.heap.size
    · have back : ∀ id o, getA σ' id = some o → owns μ' id o b i → ∃ o, getA σ id = some o ∧ owns μ id o b i := by
        intro id o ho hb
        by_cases hm : id ∈ ids
        · exact h.own id hm o ho b i hb hlt
        · obtain ⟨e1, e2⟩ := h.same id hm
          exact ⟨o, e1 ▸ ho, (owns_congr e2 o b i).1 hb⟩
      obtain ⟨q, hq, hqb⟩ := back id o ho hb
      obtain ⟨q', hq', hqb'⟩ := back id' o' ho' hb'
      exact hi.apart id id' q q' b i hq hq' hqb hqb'
    · have new : ∀ id o, getA σ' id = some o → owns μ' id o b i → id ∈ ids := by
        intro id o ho hb
        refine Classical.byContradiction fun hm => hlt ?_
        obtain ⟨e1, e2⟩ := h.same id hm
        exact owns_lt hi (e1 ▸ ho) ((owns_congr e2 o b i).1 hb)
      exact h.apart id (new id o ho hb) id' (new id' o' ho' hb') o o' b i ho ho' hb hb' (Nat.le_of_not_lt hlt)
  · obtain ⟨xs, hc, hr⟩ := hi.glob g x hg
    exact ⟨xs, fun j hj => ⟨(hs.cell _ _ _ (hc j hj).2.1 (hc j hj).1).1, (hs.cell _ _ _ (hc j hj).2.1 (hc j hj).1).2, (hc j hj).2.2⟩, fun j c hj => (hr j c hj).stays hs⟩
  · rw [h.fr] at hf
    exact Nat.lt_of_lt_of_le (hi.frLt b i hf) h.size
  · rw [h.fr] at hf ⊢
    have hlt := hi.frLt r i hf
    rw [h.blk r hlt fun id _ o ho k hown => hi.frame id o r k ho hown i hf] at hm
    exact hi.frMap r es clock i hm hf

theorem Upd.after {cx : Cx} {w w' : World} {σ σ' : St} {μ μ' : Mu} {ids : List Nat} (h : Upd cx w σ μ w' σ' μ' ids) (hi : Inv cx w σ μ)
    (hob : ∀ id ∈ ids, ∀ o', getA σ' id = some o' → ObOk w' σ' μ' id o') : After cx w σ μ w' σ' μ' := ⟨h.inv hi hob, h.goes, h.stillAll, h.fr⟩

end Go.Vai
end

section
namespace Go.Vai

def OpOk (cx : Cx) (w : World) (σ : St) (μ : Mu) (a : Act) (o : Oper) (oc : Oc) (δ : De) : Prop :=
  ∀ (next : Act → World → Prop) (Q : Exit → Act → World → Prop),
   (match oc with
    | .val v => ∀ v' w' μ', After cx w σ μ w' (applyDe σ δ) μ' → RV w' (applyDe σ δ) μ' v' v → next (a.put o.dst v') w'
    | .pan v => ∀ x w' μ', After cx w σ μ w' (applyDe σ δ) μ' → RV w' (applyDe σ δ) μ' x v → Q (.panic [{ v := x, recovered := false }]) a w') →
   o.wp cx.P a w next Q

theorem OpOk.value {cx : Cx} {w : World} {σ : St} {μ : Mu} {a : Act} {o : Oper} {v : V} (hi : Inv cx w σ μ) (v' : Value)
    (hr : (execOp a.eval o).run cx.P w = .ok (.value v') w) (hv : RV w σ μ v' v) : OpOk cx w σ μ a o (.val v) [] := by
  intro next Q h
  unfold Oper.wp
  rw [hr]
  exact h v' w μ (After.refl hi) hv

theorem constD_ok {w : World} {own : Own} {v : Value} {x : D} (h : constD v = some x) : RD w own v x ∧ v.oneCell' = true := by
  cases v <;> simp only [constD] at h
  case bool b => cases h; exact ⟨.bool b, rfl⟩
  case int k n => cases h; exact ⟨.int k n, rfl⟩
  case string s =>
    cases h
    have : s = strB s.data.toList := by simp [strB]
    exact ⟨by rw [this]; exact .str _, rfl⟩
  case slice a l c =>
    cases a with
    | some q => simp at h
    | none =>
      cases l with
      | succ k => simp at h
      | zero =>
        cases c with
        | succ k => simp at h
        | zero => simp at h; subst h; exact ⟨.sl0 none 0 0, rfl⟩
  case pointer a => cases a <;> simp at h; cases h; exact ⟨.nilptr, rfl⟩
  case map r => cases r <;> simp at h; cases h; exact ⟨.nilmap, rfl⟩
  case nilFunc => cases h; exact ⟨.nilfunc, rfl⟩
  case nilIface => cases h; exact ⟨.nilIface, rfl⟩
  all_goals cases h

theorem constL_ok {w : World} {own : Own} : ∀ {vs : List Value} {l : List D}, constL vs = some l → vs.length = l.length ∧ (∀ x ∈ vs, x.oneCell' = true) ∧ ∀ (i : Nat) x y, vs[i]? = some x → l[i]? = some y → RD w own x y
  | [], l, h => by cases h; simp
  | v :: vs, l, h => by
    simp only [constL] at h
    split at h
    · rename_i x r hx hr
      cases h
      obtain ⟨h1, h2, h3⟩ := constL_ok (w := w) (own := own) hr
      obtain ⟨g1, g2⟩ := constD_ok (w := w) (own := own) hx
      refine ⟨by simp [h1], fun q hq => ?_, fun i p q hp hq => ?_⟩
      · cases hq with | head => exact g2 | tail _ hq => exact h2 q hq
      · cases i with
        | zero => simp at hp hq; subst hp; subst hq; exact g1
        | succ i => exact h3 i p q (by simpa using hp) (by simpa using hq)
    · cases h

theorem constV_ok {w : World} {σ : St} {μ : Mu} {v : Value} {x : V} (h : constV v = some x) : RV w σ μ v x := by
  cases v <;> simp only [constV] at h
  case bool b => cases h; exact .d _ _ (.bool b)
  case int k n => cases h; exact .d _ _ (.int k n)
  case string s =>
    cases h
    have : s = strB s.data.toList := by simp [strB]
    exact .d _ _ (by rw [this]; exact .str _)
  case pointer a => cases a <;> simp at h; cases h; exact .d _ _ .nilptr
  case map r => cases r <;> simp at h; cases h; exact .d _ _ .nilmap
  case nilFunc => cases h; exact .d _ _ .nilfunc
  case nilIface => cases h; exact .d _ _ .nilIface
  case agg cs =>
    split at h
    · rename_i l hl
      cases h
      obtain ⟨h1, h2, h3⟩ := constL_ok (w := w) (own := OwnOf σ μ) hl
      exact .d _ _ (.agg cs l (by simpa using h1) h2 fun i x y hx hy => h3 i x y (by simpa using hx) hy)
    · cases h
  all_goals cases h

theorem opd_ok {w : World} {σ : St} {μ : Mu} {a : Act} {fr : Fr} (hf : FR w σ μ a.tmps fr) {x : Operand} {v : V} (h : opd fr x = some v) : RV w σ μ (a.eval x) v := by
  cases x with
  | tmp t => exact hf t v h
  | const c => exact constV_ok h
  | global g => simp only [opd, Option.some.injEq] at h; subst h; exact .gptr g 0
  | func f => simp only [opd, Option.some.injEq] at h; subst h; exact .func f #[] [] rfl (by simp)

theorem opdT_ok {w : World} {σ : St} {μ : Mu} {P : Program} {t : Nat} {a : Act} {fr : Fr} (hf : FR w σ μ a.tmps fr) {x : Operand} {v : V} (h : opdT P t fr x = some v) :
    RV w σ μ (a.eval x) v := by
  unfold opdT at h
  split at h
  · split at h
    · cases h; exact .d _ _ (.sl0 none 0 _)
    · cases h
  · exact opd_ok hf h

/-- 'optK' and its kin, from behind. -/
theorem optK_some {α R : Type} {o : Option α} {K : α → Option R} {r : R} (h : optK o K = some r) : ∃ x, o = some x ∧ K x = some r := by
  cases o with
  | none => cases h
  | some x => exact ⟨x, rfl, h⟩
theorem must_some {R : Type} {b : Bool} {K : Option R} {r : R} (h : must b K = some r) : b = true ∧ K = some r := by
  cases b
  · cases h
  · exact ⟨rfl, h⟩
theorem asB_some {R : Type} {v : V} {K : Bool → Option R} {r : R} (h : asB v K = some r) : ∃ b, v = .d (.bool b) ∧ K b = some r := by
  unfold asB at h
  split at h
  · exact ⟨_, rfl, h⟩
  · cases h
theorem asInt_some {R : Type} {x : D} {k : IntKind} {K : Int → Option R} {r : R} (h : asInt x k K = some r) : ∃ n, x = .int k n ∧ K n = some r := by
  unfold asInt at h
  split at h
  · rename_i k' n
    by_cases e : k' = k
    · subst e; simp at h; exact ⟨n, rfl, h⟩
    · simp [e] at h
  · cases h
theorem asBool_some {R : Type} {x : D} {K : Bool → Option R} {r : R} (h : asBool x K = some r) : ∃ b, x = .bool b ∧ K b = some r := by
  unfold asBool at h
  split at h
  · exact ⟨_, rfl, h⟩
  · cases h
theorem asStr_some {R : Type} {x : D} {K : List UInt8 → Option R} {r : R} (h : asStr x K = some r) : ∃ b, x = .str b ∧ K b = some r := by
  unfold asStr at h
  split at h
  · exact ⟨_, rfl, h⟩
  · cases h
theorem asAgg_some {R : Type} {x : D} {n : Nat} {K : D → Option R} {r : R} (h : asAgg x n K = some r) : ∃ l, x = .agg l ∧ l.length = n ∧ K x = some r := by
  unfold asAgg at h
  split at h
  · rename_i l
    cases e : Nat.beq l.length n
    · simp [e] at h
    · simp [e] at h; exact ⟨l, rfl, Nat.eq_of_beq_eq_true e, h⟩
  · cases h
theorem asSl_some {R : Type} {x : D} {sz : Nat} {K : List D → Option R} {r : R} (h : asSl x sz K = some r) : ∃ s l, x = .sl s l ∧ (s = sz ∨ l = []) ∧ K l = some r := by
  unfold asSl at h
  split at h
  · rename_i s l
    cases e : Nat.beq s sz || l.isEmpty
    · simp [e] at h
    · simp [e] at h
      refine ⟨s, l, rfl, ?_, h⟩
      simp at e
      rcases e with e | e
      · exact .inl e
      · exact .inr e
  · cases h
theorem asD_some {R : Type} {v : V} {K : D → Option R} {r : R} (h : asD v K = some r) : ∃ x, v = .d x ∧ K x = some r := by
  unfold asD at h
  split at h
  · exact ⟨_, rfl, h⟩
  · cases h
theorem nthD_some {R : Type} {l : List D} {i : Nat} {K : D → Option R} {r : R} (h : nthD l i K = some r) : ∃ x, l[i]? = some x ∧ K x = some r := by
  unfold nthD at h
  split at h
  · rename_i x hx; exact ⟨x, hx, h⟩
  · cases h
theorem nthV_some {R : Type} {l : List V} {i : Nat} {K : V → Option R} {r : R} (h : nthV l i K = some r) : ∃ x, l[i]? = some x ∧ K x = some r := by
  unfold nthV at h
  split at h
  · rename_i x hx; exact ⟨x, hx, h⟩
  · cases h
theorem unc_some {R : Type} {l : List V} {K : V → List V → Option R} {r : R} (h : unc l K = some r) : ∃ v q, l = v :: q ∧ K v q = some r := by
  unfold unc at h
  split at h
  · exact ⟨_, _, rfl, h⟩
  · cases h
theorem unn_some {R : Type} {l : List V} {K : Option R} {r : R} (h : unn l K = some r) : l = [] ∧ K = some r := by
  unfold unn at h
  split at h
  · exact ⟨rfl, h⟩
  · cases h
theorem asTup_some {R : Type} {v : V} {K : List V → Option R} {r : R} (h : asTup v K = some r) : ∃ l, v = .tup l ∧ K l = some r := by
  unfold asTup at h
  split at h
  · exact ⟨_, rfl, h⟩
  · cases h

theorem spreadD_some {R : Type} {x : D} : ∀ (n off : Nat) {K : List D → Option R} {r : R}, spreadD x off n K = some r → ((x.cells.drop off).take n).length = n ∧ K ((x.cells.drop off).take n) = some r
  | 0, off, K, r, h => ⟨by simp, by simpa [spreadD] using h⟩
  | n + 1, off, K, r, h => by
    obtain ⟨c, hc, h⟩ := nthD_some h
    obtain ⟨h1, h2⟩ := spreadD_some n (off + 1) h
    have hlt := (List.getElem?_eq_some_iff.1 hc).1
    have e : x.cells.drop off = c :: x.cells.drop (off + 1) := by
      rw [List.drop_eq_getElem_cons hlt]
      rw [List.getElem?_eq_getElem hlt] at hc
      rw [Option.some.inj hc]
    rw [e, List.take_succ_cons]
    exact ⟨by rw [List.length_cons, h1], h2⟩

theorem RD.sl_sz {w : World} {own : Own} {v : Value} {s sz : Nat} {l : List D} (h : RD w own v (.sl s l)) (he : s = sz ∨ l = []) : RD w own v (.sl sz l) := by
  rcases he with rfl | rfl
  · exact h
  · cases h with
    | sl0 base cap _ => exact .sl0 base cap sz
    | sl b o n cap _ _ xs hn hcap hsz hc h => simp at hn; subst hn; exact .sl0 _ cap sz

/-- A value read as one of a type is what it was. -/
theorem castD_ok {R : Type} {P : Program} {w : World} {σ : St} {μ : Mu} {t : Nat} {x : D} {K : V → Option R} {r : R} (h : castD P t x K = some r) {v : Value} (hv : RD w (OwnOf σ μ) v x) :
    ∃ u, K u = some r ∧ RV w σ μ v u := by
  unfold castD at h
  split at h
  · obtain ⟨n, rfl, h2⟩ := asInt_some h; exact ⟨_, h2, .d _ _ hv⟩
  · obtain ⟨n, rfl, h2⟩ := asBool_some h; exact ⟨_, h2, .d _ _ hv⟩
  · obtain ⟨n, rfl, h2⟩ := asStr_some h; exact ⟨_, h2, .d _ _ hv⟩
  · obtain ⟨s, l, rfl, he, h2⟩ := asSl_some h; exact ⟨_, h2, .d _ _ (hv.sl_sz he)⟩
  · obtain ⟨l, _, _, h2⟩ := asAgg_some h; exact ⟨_, h2, .d _ _ hv⟩
  · obtain ⟨l, _, _, h2⟩ := asAgg_some h; exact ⟨_, h2, .d _ _ hv⟩
  · split at h
    · cases h
    · exact ⟨_, h, .d _ _ hv⟩
  · cases h

theorem castV_ok {R : Type} {P : Program} {w : World} {σ : St} {μ : Mu} {t : Nat} {x : V} {K : V → Option R} {r : R} (h : castV P t x K = some r) {v : Value} (hv : RV w σ μ v x) :
    ∃ u, K u = some r ∧ RV w σ μ v u := by
  unfold castV at h
  split at h
  · cases hv with | d _ _ hd => exact castD_ok h hd
  · exact ⟨_, (must_some h).2, hv⟩

/-- A machine's value, cell by cell. -/
theorem mkAgg_ok {w : World} {σ : St} {μ : Mu} {cs : Array Value} {l : List V} (ho : ∀ x ∈ cs.toList, x.oneCell' = true) (h : RVs w σ μ cs.toList l) : RV w σ μ (.agg cs) (mkAgg l) := by
  unfold mkAgg
  have key : ∀ (vs : List Value) (l : List V) (ds : List D), RVs w σ μ vs l → unds l = some ds → RDs w (OwnOf σ μ) vs ds := by
    intro vs l
    induction l generalizing vs with
    | nil => intro ds h hu; simp only [unds, Option.some.injEq] at hu; subst hu; exact ⟨h.1, by simp⟩
    | cons x r ih =>
      intro ds h hu
      cases vs with
      | nil => simp [RVs] at h
      | cons v vs =>
        cases x <;> simp only [unds] at hu <;> try (cases hu; done)
        rename_i x
        split at hu
        · rename_i ds' hds
          simp only [Option.some.injEq] at hu
          subst hu
          have h0 : RV w σ μ v (.d x) := h.2 0 v (.d x) rfl rfl
          have hr : RVs w σ μ vs r := ⟨by simpa [RVs] using h.1, fun i a b ha hb => h.2 (i + 1) a b (by simpa using ha) (by simpa using hb)⟩
          have := ih vs ds' hr hds
          refine ⟨by simp [this.1], fun i a b ha hb => ?_⟩
          cases i with
          | zero => simp at ha hb; subst ha; subst hb; cases h0 with | d _ _ hd => exact hd
          | succ i => exact this.2 i a b (by simpa using ha) (by simpa using hb)
        · cases hu
  split
  · rename_i ds hds
    have := key _ _ _ h hds
    exact .d _ _ (.agg cs ds (by simpa using this.1) ho fun i x y hx hy => this.2 i x y (by simpa using hx) hy)
  · exact .agg cs l (by simpa using h.1) ho fun i x y hx hy => h.2 i x y (by simpa using hx) hy

theorem V.cells_ok {w : World} {σ : St} {μ : Mu} {v : Value} {x : V} (h : RV w σ μ v x) : RVs w σ μ v.cells.toList x.cells := by
  cases h with
  | d v x hd =>
    cases hd with
    | agg cs l hl ho h =>
      refine ⟨by simp [Value.cells, V.cells, hl], fun i a b ha hb => ?_⟩
      simp only [V.cells, List.getElem?_map, Option.map_eq_some_iff] at hb
      obtain ⟨y, hy, rfl⟩ := hb
      exact .d _ _ (h i a y (by simpa [Value.cells] using ha) hy)
    | _ => exact ⟨rfl, fun i a b ha hb => by
        cases i with
        | zero => simp [Value.cells, V.cells] at ha hb; subst ha; subst hb; first | exact .d _ _ (by first | exact .int _ _ | exact .bool _ | exact .str _ | exact .sl0 _ _ _ | exact .nilIface | exact .nilptr | exact .nilmap | exact .nilfunc | assumption) | exact .d _ _ (.sl _ _ _ _ _ _ _ ‹_› ‹_› ‹_› ‹_› ‹_›) | exact .d _ _ (.map _ _ _ _ _ ‹_› ‹_› ‹_› ‹_› ‹_› ‹_›) | exact .d _ _ (.iface _ _ _ ‹_›)
        | succ i => simp [Value.cells] at ha⟩
  | agg cs l hl ho h => exact ⟨by simpa [Value.cells, V.cells] using hl, fun i a b ha hb => h i a b (by simpa [Value.cells] using ha) hb⟩
  | ptr id off b hc hb => exact ⟨rfl, fun i a b' ha hb' => by cases i <;> simp [Value.cells, V.cells] at ha hb'; subst ha; subst hb'; exact .ptr id off b hc hb⟩
  | eptr x b o off xs hc h => exact ⟨rfl, fun i a b' ha hb' => by cases i <;> simp [Value.cells, V.cells] at ha hb'; subst ha; subst hb'; exact .eptr x b o off xs hc h⟩
  | gptr g off => exact ⟨rfl, fun i a b' ha hb' => by cases i <;> simp [Value.cells, V.cells] at ha hb'; subst ha; subst hb'; exact .gptr g off⟩
  | sl v sz l id n h ht hn he =>
    have hv : v.cells = #[v] := by cases h <;> rfl
    exact ⟨by simp [hv, V.cells], fun i a b' ha hb' => by cases i <;> simp [hv, V.cells] at ha hb'; subst ha; subst hb'; exact .sl v sz l id n h ht hn he⟩
  | slo id off n cap b l hi hb hn hcap => exact ⟨rfl, fun i a b' ha hb' => by cases i <;> simp [Value.cells, V.cells] at ha hb'; subst ha; subst hb'; exact .slo id off n cap b l hi hb hn hcap⟩
  | func f cs l hl h => exact ⟨rfl, fun i a b' ha hb' => by cases i <;> simp [Value.cells, V.cells] at ha hb'; subst ha; subst hb'; exact .func f cs l hl h⟩
  | map id b ks vs hi hb => exact ⟨rfl, fun i a b' ha hb' => by cases i <;> simp [Value.cells, V.cells] at ha hb'; subst ha; subst hb'; exact .map id b ks vs hi hb⟩
  | iface t v u h => exact ⟨rfl, fun i a b' ha hb' => by cases i <;> simp [Value.cells, V.cells] at ha hb'; subst ha; subst hb'; exact .iface t v u h⟩
  | tup cs l hl h => exact ⟨rfl, fun i a b' ha hb' => by cases i <;> simp [Value.cells, V.cells] at ha hb'; subst ha; subst hb'; exact .tup cs l hl h⟩

end Go.Vai
end
