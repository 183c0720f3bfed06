/- An evaluator for the operations of Go's program over typed pure data: its definitions. Nothing is proved here. -/
import Derived.WalkKit
import Derived.Orders
namespace Go.Proofs.YtcaknaddeblecaaGreatDoor.Ev
open Go Go.RowKit
set_option linter.unusedVariables false

/-! ### types and typed data -/
inductive Ty where
  | int (k : IntKind) | bool | str | err
  | slice (e : Ty)
  | pair (a b : Ty)
  | struct (b : Ty)

@[reducible] def Ty.den : Ty → Type
  | .int _ => Int
  | .bool => Bool
  | .str => ByteArray
  | .err => Bool
  | .slice e => List e.den
  | .pair a b => a.den × b.den
  | .struct b => b.den

def Ty.eq? : (a b : Ty) → Option (PLift (a = b))
  | .int k, .int k' => if h : k = k' then some ⟨h ▸ rfl⟩ else none
  | .bool, .bool => some ⟨rfl⟩
  | .str, .str => some ⟨rfl⟩
  | .err, .err => some ⟨rfl⟩
  | .slice a, .slice b => match Ty.eq? a b with
    | some ⟨h⟩ => some ⟨h ▸ rfl⟩
    | none => none
  | .pair a b, .pair c d => match Ty.eq? a c with
    | some ⟨h⟩ => match Ty.eq? b d with
      | some ⟨g⟩ => some ⟨h ▸ g ▸ rfl⟩
      | none => none
    | none => none
  | .struct a, .struct b => match Ty.eq? a b with
    | some ⟨h⟩ => some ⟨h ▸ rfl⟩
    | none => none
  | _, _ => none

def Ty.zero : (t : Ty) → t.den
  | .int _ => (0 : Int)
  | .bool => false
  | .str => ⟨#[]⟩
  | .err => false
  | .slice _ => []
  | .pair a b => (a.zero, b.zero)
  | .struct b => b.zero

def Ty.size : Ty → Nat
  | .pair a b => a.size + b.size
  | .struct b => b.size
  | _ => 1

def Ty.isAgg : Ty → Bool
  | .struct _ => true
  | _ => false

/-- a value of it leads to no memory -/
def Ty.flat : Ty → Bool
  | .slice _ => false
  | .err => false
  | .pair a b => a.flat && b.flat
  | .struct b => b.flat
  | _ => true

/-- field i of a struct's body: where it begins, and its type -/
def Ty.fieldIn : Ty → Nat → Nat → Option (Nat × Ty)
  | .pair a _, 0, off => some (off, a)
  | .pair a b, i + 1, off => b.fieldIn i (off + a.size)
  | t, 0, off => some (off, t)
  | _, _ + 1, _ => none
def Ty.field : Ty → Nat → Option (Nat × Ty)
  | .struct b, i => b.fieldIn i 0
  | _, _ => none

/-! ### abstract cells, values, blocks, states -/
inductive A where
  | undef
  | int (k : IntKind) (n : Int)
  | bool (b : Bool)
  | str (s : ByteArray)
  | err (b : Bool)
  /-- a slice that is only read: fr: all that it leads to was made by this call -/
  | sl (fr : Bool) (t : Ty) (l : List t.den)
  /-- the whole of an own row, as it was at its g-th growth -/
  | os (b g : Nat)
  /-- an own variable's cell -/
  | ptr (b off : Nat)
  /-- a cell of an element of an own row -/
  | ep (b g i off : Nat)
  /-- a cell of an element that is only read -/
  | pp (fr : Bool) (t : Ty) (x : t.den) (off : Nat)
  | fn (f : FuncId) (caps : List (Nat × Nat))

inductive V where
  | at (x : A)
  | agg (cs : List A)
  | tup (vs : List (Bool × List A))

/-- var: a variable. arr: a row, own: it may be written (one that is not may be read by what is only read, too), g: how often it grew, nf: its elements lead to new memory alone -/
inductive Blk where
  | var (cs : List A)
  | arr (g : Nat) (own nf : Bool) (t : Ty) (l : List t.den)
  | dead

/-- lock: the blocks that may not be turned now -/
structure St where
  tmps : List V
  bl : List Blk
  lock : List Nat

abbrev V.undef : V := .at .undef
/-- what stands where an operation was passed over -/
abbrev V.skipped : V := .tup []

def Ty.cells (fr : Bool) : (t : Ty) → t.den → List A
  | .int k, n => [.int k n]
  | .bool, b => [.bool b]
  | .str, s => [.str s]
  | .err, b => [.err b]
  | .slice e, l => [.sl fr e l]
  | .pair a b, x => a.cells fr x.1 ++ b.cells fr x.2
  | .struct b, x => b.cells fr x

def Ty.toV (fr : Bool) : (t : Ty) → t.den → V
  | .struct b, x => .agg (b.cells fr x)
  | .int k, n => .at (.int k n)
  | .bool, b => .at (.bool b)
  | .str, s => .at (.str s)
  | .err, b => .at (.err b)
  | .slice e, l => .at (.sl fr e l)
  | .pair _ _, _ => V.undef

def Ty.rows : Ty → Nat
  | .slice _ => 1
  | .pair a b => a.rows + b.rows
  | .struct b => b.rows
  | _ => 0

/-- the same, with each slice a row of its own, numbered from n on; and these rows -/
def Ty.own : (t : Ty) → t.den → Nat → List A
  | .int k, v, _ => [.int k v]
  | .bool, b, _ => [.bool b]
  | .str, s, _ => [.str s]
  | .err, b, _ => [.err b]
  | .slice e, l, n => [.os n 0]
  | .pair a b, x, n => a.own x.1 n ++ b.own x.2 (n + a.rows)
  | .struct b, x, n => b.own x n
def Ty.ownRows (nf : Bool) : (t : Ty) → t.den → List Blk
  | .slice e, l => [.arr 0 true nf e l]
  | .pair a b, x => a.ownRows nf x.1 ++ b.ownRows nf x.2
  | .struct b, x => b.ownRows nf x
  | _, _ => []

/-- typed data off cells: what is read, and the rest. need: each slice must lead to new memory alone -/
def Ty.ofCells (need : Bool) : (t : Ty) → List A → Option (t.den × List A)
  | .int k, .int k' n :: r => if k = k' then some (n, r) else none
  | .bool, .bool b :: r => some (b, r)
  | .str, .str s :: r => some (s, r)
  | .err, .err b :: r => some (b, r)
  | .slice e, .sl fr e' l :: r => match Ty.eq? e' e with
    | some ⟨h⟩ => bif need && !fr then none else some (h ▸ l, r)
    | none => none
  | .pair a b, cs => match a.ofCells need cs with
    | some (x, r) => match b.ofCells need r with
      | some (y, r) => some ((x, y), r)
      | none => none
    | none => none
  | .struct b, cs => b.ofCells need cs
  | _, _ => none

/-- a value's cells, where it is one that is known -/
def V.full : V → Option (List A)
  | .at .undef => none
  | .at x => some [x]
  | .agg cs => some cs
  | .tup _ => none

def V.cells : V → List A
  | .at x => [x]
  | .agg cs => cs
  | .tup _ => []

/-- an own row as what it holds -/
def A.view (bl : List Blk) : A → A
  | .os b g => match bl[b]? with
    | some (.arr g' _ nf t l) => bif g == g' then .sl (nf || t.flat) t l else .undef
    | _ => .undef
  | x => x

/-- typed data off a value: a value of a struct must be an aggregate, one of another type must not -/
def Ty.ofV (need : Bool) (bl : List Blk) (t : Ty) (v : V) : Option t.den :=
  match v with
  | .at x => bif t.isAgg then none else match t.ofCells need [x.view bl] with
    | some (x, []) => some x
    | _ => none
  | .agg cs => bif t.isAgg then (match t.ofCells need (cs.map (A.view bl)) with
    | some (x, []) => some x
    | _ => none) else none
  | .tup _ => none

/-! ### the arithmetic's words -/
def wr (k : IntKind) (n : Int) : Int :=
  match k with
  | .i64 => wrap64 n
  | k => k.wrap n

def bt (s : ByteArray) (i : Int) : Int := ((s.get! i.toNat).toNat : Int)

def strOf (l : List Int) : ByteArray := ⟨(l.map fun n => UInt8.ofNat n.toNat).toArray⟩
def bytesOf (s : ByteArray) : List Int := s.data.toList.map fun b => (b.toNat : Int)

/-- the greatest length of a row that grows -/
abbrev most : Nat := 8589934592
/-- the greatest length of a text that is put together -/
abbrev mostText : Nat := 4611686018427387904

inductive Ex where
  | normal | exit (id : Nat) | ret

/-! ### what is known of the program -/
@[reducible] def denL : List Ty → Type
  | [] => Unit
  | t :: r => t.den × denL r
@[reducible] def denR : List (Ty × Bool) → Type
  | [] => Unit
  | [t] => t.1.den
  | t :: r => t.1.den × denR r

/-- a callee by its contract. fresh: what it returns leads to new memory alone. own: a result's rows are new, each another one, and the caller's to write -/
structure CSpec where
  params : List Ty
  res : List (Ty × Bool)
  fresh : Bool
  sem : denL params → Option (denR res)

/-- at a loop's head: which of the slots that it writes are kept; which blocks may be written in it; which rows may grow in it; weak: nothing is kept as new -/
structure Keep where
  slots : List Nat
  blks : List Nat
  grow : List Nat
  weak : Bool

structure Cx where
  ty : TypeId → Option Ty
  cmp : TypeId → Bool
  body : FuncId → Option Func
  call : FuncId → Option CSpec
  keep : List Nat → Nat → Keep
  k : Nat

section
variable {ρ : Type}

def ofConst (v : Value) : V :=
  match v with
  | .int k n => .at (.int k n)
  | .bool b => .at (.bool b)
  | .string s => .at (.str s)
  | _ => V.undef

def St.get (st : St) (x : Operand) : V :=
  match x with
  | .tmp t => st.tmps.getD t V.undef
  | .const v => ofConst v
  | .func f => .at (.fn f [])
  | .global _ => V.undef

def St.put (st : St) (d : Option Tmp) (v : V) : St :=
  match d with
  | some d => { st with tmps := st.tmps.set d v }
  | none => st

/-- an own row: from now on only read -/
def St.freeze (st : St) (b : Nat) : Option St :=
  match st.bl[b]? with
  | some (.arr g true nf t l) => bif st.lock.contains b then none else some { st with bl := st.bl.set b (.arr g false nf t l) }
  | _ => some st

def freezeAll (st : St) : List Nat → Option St
  | [] => some st
  | b :: r => match st.freeze b with
    | some st => freezeAll st r
    | none => none

/-- the rows that cells lead to -/
def rowsOf : List A → List Nat
  | [] => []
  | .os b _ :: r => b :: rowsOf r
  | _ :: r => rowsOf r

/-! ### operations that only compute -/
def bitsAnd (k : IntKind) (a b : Int) : Int := wr k ((BitVec.ofInt k.bits a &&& BitVec.ofInt k.bits b).toNat : Int)
def bitsOr (k : IntKind) (a b : Int) : Int := wr k ((BitVec.ofInt k.bits a ||| BitVec.ofInt k.bits b).toNat : Int)
def bitsXor (k : IntKind) (a b : Int) : Int := wr k ((BitVec.ofInt k.bits a ^^^ BitVec.ofInt k.bits b).toNat : Int)
def shiftL (k : IntKind) (a b : Int) : Int := wr k (a * 2 ^ (min b.toNat k.bits))
def shiftR (k : IntKind) (a b : Int) : Int := a.fdiv (2 ^ (min b.toNat k.bits))

def binInt (op : BinOp) (k : IntKind) (a b : Int) (K : A → Option ρ) : Option ρ :=
  match op with
  | .add => K (.int k (wr k (a + b)))
  | .sub => K (.int k (wr k (a - b)))
  | .mul => K (.int k (wr k (a * b)))
  | .quo => bif decide (b = 0) then none else K (.int k (wr k (a.tdiv b)))
  | .rem => bif decide (b = 0) then none else K (.int k (a.tmod b))
  | .and => K (.int k (bitsAnd k a b))
  | .or => K (.int k (bitsOr k a b))
  | .xor => K (.int k (bitsXor k a b))
  | .eql => K (.bool (decide (a = b)))
  | .neq => K (.bool (!decide (a = b)))
  | .lss => K (.bool (decide (a < b)))
  | .leq => K (.bool (decide (a ≤ b)))
  | .gtr => K (.bool (decide (b < a)))
  | .geq => K (.bool (decide (b ≤ a)))
  | _ => none

def lessText (a b : ByteArray) : Bool := Op.bytesLess a.toList b.toList

def binStr (op : BinOp) (a b : ByteArray) (K : A → Option ρ) : Option ρ :=
  match op with
  | .add => bif decide (a.size + b.size < mostText) then K (.str (a ++ b)) else none
  | .eql => K (.bool (decide (a = b)))
  | .neq => K (.bool (!decide (a = b)))
  | .lss => K (.bool (lessText a b))
  | .gtr => K (.bool (!(lessText a b || decide (a = b))))
  | .leq => K (.bool (lessText a b || decide (a = b)))
  | .geq => K (.bool (!lessText a b))
  | _ => none

/-- are two structs of numbers, truths and texts the same: of which types, cell by cell -/
def sameCells : Ty → List A → List A → Option Bool
  | .pair a b, x :: r, y :: q => match sameCells a [x] [y], sameCells b r q with
    | some s, some t => some (s && t)
    | _, _ => none
  | .int k, [.int k' a], [.int k'' b] => if k' = k'' then some (decide (a = b)) else none
  | .bool, [.bool a], [.bool b] => some (a == b)
  | .str, [.str a], [.str b] => some (decide (a = b))
  | _, _, _ => none

def isNil : Operand → Bool
  | .const .nilIface => true
  | _ => false

def evBin (ty : Option Ty) (cmp : Bool) (op : BinOp) (x y : Operand) (st : St) (K : V → Option ρ) : Option ρ :=
  match op with
  | .shl => match st.get x, st.get y with
    | .at (.int k a), .at (.int _ b) => bif decide (0 ≤ b) then K (.at (.int k (shiftL k a b))) else none
    | _, _ => none
  | .shr => match st.get x, st.get y with
    | .at (.int k a), .at (.int _ b) => bif decide (0 ≤ b) then K (.at (.int k (shiftR k a b))) else none
    | _, _ => none
  | op => match st.get x, st.get y with
    | .at (.int k a), .at (.int k' b) => if k = k' then binInt op k a b fun v => K (.at v) else none
    | .at (.str a), .at (.str b) => binStr op a b fun v => K (.at v)
    | .at (.bool a), .at (.bool b) => match ty with
      | some .bool => match op with
        | .eql => K (.at (.bool (a == b)))
        | .neq => K (.at (.bool (!(a == b))))
        | _ => none
      | _ => none
    | .at (.err a), _ => match ty with
      | some .err => bif isNil y then (match op with
        | .eql => K (.at (.bool (!a)))
        | .neq => K (.at (.bool (!(!a))))
        | _ => none) else none
      | _ => none
    | .agg a, .agg b => match ty with
      | some (.struct u) => bif cmp then (match sameCells u a b with
        | some t => match op with
          | .eql => K (.at (.bool t))
          | .neq => K (.at (.bool (!t)))
          | _ => none
        | none => none) else none
      | _ => none
    | _, _ => none

/-- the cells from off on as a variable of type t -/
def takeOut (t : Ty) (cs : List A) (off : Nat) : V :=
  bif t.isAgg then .agg ((cs.drop off).take t.size) else .at (cs.getD off .undef)

/-- the cells behind an address, and where in them it leads -/
def cellsAt (bl : List Blk) : V → Option (List A × Nat)
  | .at (.ptr b off) => match bl[b]? with
    | some (.var cs) => some (cs, off)
    | _ => none
  | .at (.ep b g i off) => match bl[b]? with
    | some (.arr g' _ nf t l) => bif g == g' then some (t.cells (nf || t.flat) (l.getD i t.zero), off) else none
    | _ => none
  | .at (.pp fr t x off) => some (t.cells fr x, off)
  | _ => none

/-- is type t of the program a slice of u · a text -/
def sliceTy (cx : Cx) (t : TypeId) (u : Ty) : Bool :=
  match cx.ty t with
  | some (.slice e) => (Ty.eq? e u).isSome
  | _ => false
def strTy (cx : Cx) (t : TypeId) : Bool :=
  match cx.ty t with
  | some .str => true
  | _ => false

/-- a slice's length and its elements -/
def loadBound (st : St) (o : Option Operand) (d : Int) : Option Int :=
  match o with
  | none => some d
  | some x => match st.get x with
    | .at (.int _ n) => some n
    | _ => none

def evSlice (cx : Cx) (t : TypeId) (x : V) (lo hi : Option Operand) (st : St) (K : V → Option ρ) : Option ρ :=
  match x with
  | .at (.str s) => match loadBound st lo 0, loadBound st hi s.size with
    | some a, some b => bif strTy cx t then (bif decide (0 ≤ a ∧ a ≤ b ∧ b ≤ (s.size : Int)) then K (.at (.str (s.extract a.toNat b.toNat))) else none) else none
    | _, _ => none
  | .at (.sl fr u l) => match loadBound st lo 0, loadBound st hi l.length with
    | some a, some b => bif sliceTy cx t u then (bif decide (0 ≤ a ∧ a ≤ b ∧ b ≤ (l.length : Int)) then K (.at (.sl fr u ((l.drop a.toNat).take (b - a).toNat))) else none) else none
    | _, _ => none
  | _ => none

def lenOf (bl : List Blk) : V → Option (Bool × Nat)
  | .at (.sl _ _ l) => some (false, l.length)
  | .at (.str s) => some (true, s.size)
  | .at (.os b g) => match bl[b]? with
    | some (.arr g' _ _ _ l) => bif g == g' then some (false, l.length) else none
    | _ => none
  | _ => none

/-- the cells of a struct literal: what is not named is zero; slices that are not named are the empty one -/
def zeroCells (t : Ty) : List A := t.cells true t.zero

def writeAt {α : Type} (cs : List α) (off : Nat) : List α → List α
  | [] => cs
  | c :: r => writeAt (cs.set off c) (off + 1) r

def fillIn (t : Ty) (st : St) : List (Nat × Operand) → List A → Option (List A)
  | [], cs => some cs
  | (i, x) :: r, cs => match t.field i with
    | some (off, u) => match (st.get x).full with
      | some v => bif v.length == u.size then fillIn t st r (writeAt cs off v) else none
      | none => none
    | none => none

/-- an address that is one -/
def sure (bl : List Blk) : V → Option V
  | .at (.ptr b off) => match bl[b]? with
    | some (.var _) => some (.at (.ptr b off))
    | _ => none
  | .at (.ep b g i off) => match bl[b]? with
    | some (.arr g' _ _ _ _) => bif g == g' then some (.at (.ep b g i off)) else none
    | _ => none
  | .at (.pp fr t x off) => some (.at (.pp fr t x off))
  | _ => none

def moved (d : Nat) : V → V
  | .at (.ptr b off) => .at (.ptr b (off + d))
  | .at (.ep b g i off) => .at (.ep b g i (off + d))
  | .at (.pp fr t x off) => .at (.pp fr t x (off + d))
  | v => v

/-- operations that leave memory as it is -/
def evPure (cx : Cx) (o : Oper) (st : St) (K : V → Option ρ) : Option ρ :=
  match o.op with
  | .move x => K (st.get x)
  | .assign x => K (st.get x)
  | .pick c a b => match st.get c with
    | .at (.bool c) => bif c then K (st.get a) else K (st.get b)
    | _ => none
  | .load t a => match cx.ty t, cellsAt st.bl (st.get a) with
    | some t, some (cs, off) => bif Nat.ble (off + t.size) cs.length then K (takeOut t cs off) else none
    | _, _ => none
  | .nilCheck x => match sure st.bl (st.get x) with
    | some v => K v
    | none => none
  | .fieldAddr t x f => match cx.ty t with
    | some t => match t.field f, sure st.bl (st.get x) with
      | some (d, _), some v => K (moved d v)
      | _, _ => none
    | none => none
  | .field t x f => match cx.ty t with
    | some t => match t.field f, st.get x with
      | some (d, u), .agg cs => bif Nat.ble (d + u.size) cs.length then K (takeOut u cs d) else none
      | _, _ => none
    | none => none
  | .indexAddr t x i => match st.get i with
    | .at (.int _ i) => match st.get x with
      | .at (.sl fr u l) => bif sliceTy cx t u then (bif decide (0 ≤ i ∧ i < (l.length : Int)) then K (.at (.pp fr u (l.getD i.toNat u.zero) 0)) else none) else none
      | .at (.os b g) => match st.bl[b]? with
        | some (.arr g' _ _ u l) => bif g == g' && sliceTy cx t u then (bif decide (0 ≤ i ∧ i < (l.length : Int)) then K (.at (.ep b g i.toNat 0)) else none) else none
        | _ => none
      | _ => none
    | _ => none
  | .index t x i => match st.get x, st.get i with
    | .at (.str s), .at (.int _ i) => bif strTy cx t then (bif decide (0 ≤ i ∧ i < (s.size : Int)) then K (.at (.int .u8 (bt s i))) else none) else none
    | _, _ => none
  | .binOp op t x y _ => evBin (cx.ty t) (cx.cmp t) op x y st K
  | .unOp op _ x => match op, st.get x with
    | .not, .at (.bool b) => K (.at (.bool (!b)))
    | .neg, .at (.int k n) => K (.at (.int k (wr k (-n))))
    | _, _ => none
  | .slice t x lo hi none => evSlice cx t (st.get x) lo hi st K
  | .convert s d x => match cx.ty s, cx.ty d with
    | some (.int _), some (.int k) => match st.get x with
      | .at (.int _ n) => K (.at (.int k (wr k n)))
      | _ => none
    | some .str, some .str => match st.get x with
      | .at (.str s) => K (.at (.str s))
      | _ => none
    | some (.slice (.int .u8)), some .str => match st.get x with
      | .at x => match x.view st.bl with
        | .sl _ (.int .u8) l => K (.at (.str (strOf l)))
        | _ => none
      | _ => none
    | _, _ => none
  | .build t ps => match cx.ty t with
    | some (.struct t) => match fillIn (.struct t) st ps.toList (zeroCells (.struct t)) with
      | some cs => K (.agg cs)
      | none => none
    | _ => none
  | .makeFunc (.func f) fs caps => bif fs.isEmpty then (match capsOf st caps.toList with
    | some cs => K (.at (.fn f cs))
    | none => none) else none
  | .extract x i => match st.get x with
    | .tup vs => match vs[i]? with
      | some (true, cs) => K (.agg cs)
      | some (false, [c]) => K (.at c)
      | _ => none
    | _ => none
  | .call c => match c.callee with
    | .builtin .len => match c.args.toList, c.argTypes.toList with
      | [x], [t] => match lenOf st.bl (st.get x), cx.ty t with
        | some (false, n), some (.slice _) => K (.at (.int .i64 n))
        | some (true, n), some .str => K (.at (.int .i64 n))
        | _, _ => none
      | _, _ => none
    | .builtin .min => match c.args.toList with
      | [x, y] => match st.get x, st.get y with
        | .at (.int k a), .at (.int _ b) => K (.at (.int k (if b < a then b else a)))
        | _, _ => none
      | _ => none
    | .builtin .max => match c.args.toList with
      | [x, y] => match st.get x, st.get y with
        | .at (.int k a), .at (.int _ b) => K (.at (.int k (if b > a then b else a)))
        | _, _ => none
      | _ => none
    | _ => none
  | _ => none
where
  capsOf (st : St) : List Operand → Option (List (Nat × Nat))
    | [] => some []
    | x :: r => match st.get x, capsOf st r with
      | .at (.ptr b off), some cs => some ((b, off) :: cs)
      | _, _ => none

/-! ### calls by a contract -/
def readArgs (bl : List Blk) : (ts : List Ty) → List V → Option (denL ts)
  | [], [] => some ()
  | t :: ts, v :: vs => match t.ofV false bl v, readArgs bl ts vs with
    | some x, some xs => some (x, xs)
    | _, _ => none
  | _, _ => none

def oneRes (fresh : Bool) (t : Ty × Bool) (x : t.1.den) (n : Nat) : (Bool × List A) × List Blk :=
  bif t.2 then ((t.1.isAgg, t.1.own x n), t.1.ownRows fresh x) else ((t.1.isAgg, t.1.cells fresh x), [])

def giveRes (fresh : Bool) : (ts : List (Ty × Bool)) → denR ts → Nat → List (Bool × List A) × List Blk
  | [], _, _ => ([], [])
  | [t], x, n => ([(oneRes fresh t x n).1], (oneRes fresh t x n).2)
  | t :: u :: r, x, n =>
    ((oneRes fresh t x.1 n).1 :: (giveRes fresh (u :: r) x.2 (n + (oneRes fresh t x.1 n).2.length)).1,
     (oneRes fresh t x.1 n).2 ++ (giveRes fresh (u :: r) x.2 (n + (oneRes fresh t x.1 n).2.length)).2)

def toValue : List (Bool × List A) → V
  | [(true, cs)] => .agg cs
  | [(false, [c])] => .at c
  | vs => .tup vs

def rowsIn (args : List V) : List Nat := args.flatMap fun v => rowsOf v.cells

def evCall (s : CSpec) (args : List V) (st : St) (K : V → St → Option ρ) : Option ρ :=
  match readArgs st.bl s.params args with
  | some x => (s.sem x).bind fun r =>
    match (bif s.fresh then some st else freezeAll st (rowsIn args)) with
    | some st => K (toValue (giveRes s.fresh s.res r st.bl.length).1) { st with bl := st.bl ++ (giveRes s.fresh s.res r st.bl.length).2 }
    | none => none
  | none => none

/-! ### operations that make or write memory -/
abbrev Inl (ρ : Type) := List Nat → FuncId → List V → St → (V → St → Option ρ) → Option ρ

/-- a cell list put into a struct's or an element's cells, as typed data -/
def putIn (t : Ty) (bl : List Blk) (cs : List A) : Option t.den :=
  match t.ofCells false (cs.map (A.view bl)) with
  | some (x, []) => some x
  | _ => none

/-- do the cells lead to new memory alone -/
def newAlone (bl : List Blk) : List A → Bool
  | [] => true
  | c :: r => (match c.view bl with | .sl fr _ _ => fr | .err _ => false | _ => true) && newAlone bl r

/-- an own variable with the cells; empty slices in it become rows of their own -/
def openRows : List A → Nat → List A × List Blk
  | [], _ => ([], [])
  | .sl true t [] :: r, n => (.os n 0 :: (openRows r (n + 1)).1, .arr 0 true true t [] :: (openRows r (n + 1)).2)
  | c :: r, n => (c :: (openRows r n).1, (openRows r n).2)

structure Row where
  fr : Bool
  t : Ty
  l : List t.den

def rowOf (bl : List Blk) (v : V) : Option Row :=
  match v with
  | .at (.str s) => some ⟨true, .int .u8, bytesOf s⟩
  | .at x => match x.view bl with
    | .sl fr t l => some ⟨fr || t.flat, t, l⟩
    | _ => none
  | _ => none

def rowTy (cx : Cx) (t : TypeId) : Bool :=
  match cx.ty t with
  | some (.slice _) => true
  | some .str => true
  | _ => false

def evAppend (cx : Cx) (ts : List TypeId) (x y : V) (st : St) (K : V → St → Option ρ) : Option ρ :=
  match ts, x, rowOf st.bl y with
  | [t0, t1], .at (.os b g), some m => match st.bl[b]? with
    | some (.arr g' true nf t l) => bif g == g' && !st.lock.contains b && sliceTy cx t0 t && rowTy cx t1 then
      (match Ty.eq? m.t t with
        | some ⟨h⟩ =>
          bif decide (l.length + m.l.length < most) then
            K (.at (.os b (g + 1))) { st with bl := st.bl.set b (.arr (g + 1) true (nf && m.fr) t (l ++ (h ▸ m.l))) }
          else none
        | none => none) else none
    | _ => none
  | _, _, _ => none

def elemTy (cx : Cx) (t : TypeId) : Option Ty :=
  match cx.ty t with
  | some (.slice e) => some e
  | _ => none

def fillElems (e : Ty) (st : St) : List (Nat × Operand) → Nat → Nat → Option (List e.den)
  | [], i, n => if i = n then some [] else none
  | (j, x) :: r, i, n => if i = j then match e.ofV false st.bl (st.get x), fillElems e st r (i + 1) n with
    | some v, some vs => some (v :: vs)
    | _, _ => none
  else none

def evStore (a : V) (v : List A) (st : St) (K : V → St → Option ρ) : Option ρ :=
  match a with
  | .at (.ptr b off) => match st.bl[b]? with
    | some (.var cs) => bif Nat.ble (off + v.length) cs.length && !st.lock.contains b then K V.undef { st with bl := st.bl.set b (.var (writeAt cs off v)) } else none
    | _ => none
  | .at (.ep b g i off) => match st.bl[b]? with
    | some (.arr g' true nf t l) => bif g == g' && !st.lock.contains b && Nat.ble (off + v.length) t.size then
      (match putIn t st.bl (writeAt (t.cells (nf || t.flat) (l.getD i t.zero)) off v), freezeAll st (rowsOf v) with
        | some y, some st' => match st'.bl[b]? with
          | some (.arr _ true _ _ _) => K V.undef { st' with bl := st'.bl.set b (.arr g true (nf && newAlone st.bl v) t (l.set i y)) }
          | _ => none
        | _, _ => none) else none
    | _ => none
  | _ => none

def nilSlice : Operand → Bool
  | .const (.slice none 0 0) => true
  | _ => false

def evOp (cx : Cx) (inl : Inl ρ) (path : List Nat) (o : Oper) (st : St) (K : V → St → Option ρ) : Option ρ :=
  match o.op with
  | .alloc t => match cx.ty t with
    | some t => K (.at (.ptr (st.bl.length + (openRows (zeroCells t) st.bl.length).2.length) 0)) { st with bl := st.bl ++ (openRows (zeroCells t) st.bl.length).2 ++ [.var (openRows (zeroCells t) st.bl.length).1] }
    | none => none
  | .box t x => match cx.ty t, (st.get x).full with
    | some t, some cs => bif cs.length == t.size then K (.at (.ptr st.bl.length 0)) { st with bl := st.bl ++ [.var cs] } else none
    | _, _ => none
  | .assign x => bif nilSlice x then (match elemTy cx o.type with
    | some e => K (.at (.os st.bl.length 0)) { st with bl := st.bl ++ [.arr 0 true true e []] }
    | none => none) else K (st.get x) st
  | .move x => bif nilSlice x then (match elemTy cx o.type with
    | some e => K (.at (.os st.bl.length 0)) { st with bl := st.bl ++ [.arr 0 true true e []] }
    | none => none) else K (st.get x) st
  | .store t a x => match cx.ty t, (st.get x).full with
    | some t, some cs => bif cs.length == t.size then evStore (st.get a) cs st K else none
    | _, _ => none
  | .makeSlice t n c => match elemTy cx t, st.get n, st.get c with
    | some e, .at (.int _ n), .at (.int _ c) =>
      bif decide (0 ≤ n ∧ n = c ∧ n < (most : Int)) then K (.at (.os st.bl.length 0)) { st with bl := st.bl ++ [.arr 0 true true e (List.replicate n.toNat e.zero)] } else none
    | _, _, _ => none
  | .buildSlice t n ps => match elemTy cx t with
    | some e => bif Nat.ble (n * e.size) 16777216 then (match fillElems e st ps.toList 0 n, freezeAll st (rowsIn (ps.toList.map fun p => st.get p.2)) with
      | some l, some st' => K (.at (.os st'.bl.length 0)) { st' with bl := st'.bl ++ [.arr 0 true (newAlone st.bl (ps.toList.flatMap fun p => (st.get p.2).cells)) e l] }
      | _, _ => none) else none
    | none => none
  | .convert c d x => match cx.ty c, elemTy cx d, st.get x with
    | some .str, some (.int .u8), .at (.str s) => K (.at (.os st.bl.length 0)) { st with bl := st.bl ++ [.arr 0 true true (.int .u8) (bytesOf s)] }
    | _, _, _ => evPure cx o st fun v => K v st
  | .slice t x lo hi none => match st.get x with
    | .at (.os b g) => match st.freeze b with
      | some st' => evSlice cx t (.at ((A.os b g).view st.bl)) lo hi st fun v => K v st'
      | none => none
    | v => evSlice cx t v lo hi st fun v => K v st
  | .call c => match c.callee with
    | .builtin .append => match c.args.toList with
      | [x, y] => evAppend cx c.argTypes.toList (st.get x) (st.get y) st K
      | _ => none
    | .value f => match st.get f with
      | .at (.fn f caps) => match cx.call f with
        | some s => evCall s (c.args.toList.map st.get ++ caps.map fun p => V.at (.ptr p.1 p.2)) st K
        | none => inl (o.dst.getD 0 :: path) f (c.args.toList.map st.get ++ caps.map fun p => V.at (.ptr p.1 p.2)) st K
      | _ => none
    | _ => evPure cx o st fun v => K v st
  | _ => evPure cx o st fun v => K v st

/-! ### regions -/
/-- a list, reckoned as far as its length: so that computation does not go through all that was ever put into it -/
noncomputable def forceL {α : Type} (l : List α) (K : List α → Option ρ) : Option ρ :=
  @List.rec α (fun _ => (List α → Option ρ) → Option ρ) (fun K => K []) (fun x _ ih K => ih fun r' => K (x :: r')) l K
noncomputable def forceSt (st : St) (K : St → Option ρ) : Option ρ := forceL st.tmps fun t => forceL st.bl fun b => K { tmps := t, bl := b, lock := st.lock }
theorem forceL_eq {α : Type} : ∀ (l : List α) (K : List α → Option ρ), forceL l K = K l
  | [], _ => rfl
  | x :: r, K => forceL_eq r fun r' => K (x :: r')
theorem forceSt_eq (st : St) (K : St → Option ρ) : forceSt st K = K st := by unfold forceSt; rw [forceL_eq, forceL_eq]

noncomputable def evOps (cx : Cx) (inl : Inl ρ) (path : List Nat) (all : List Oper) : List Oper → St → (St → Option ρ) → Option ρ
  | [], st, K => K st
  | o :: r, st, K => forceSt st fun st =>
    match o.guard with
    | none => evOp cx inl path o st fun v st => evOps cx inl path all r (st.put o.dst v) K
    | some (j, want) => match all[j]? with
      | some oj => match oj.dst with
        | some d => match st.tmps.getD d V.undef with
          | .at (.bool b) =>
            bif b then
              (bif want then evOp cx inl path o (st.put (some d) (.at (.bool true))) fun v st => evOps cx inl path all r (st.put o.dst v) K
               else evOps cx inl path all r ((st.put (some d) (.at (.bool true))).put o.dst V.skipped) K)
            else
              (bif want then evOps cx inl path all r ((st.put (some d) (.at (.bool false))).put o.dst V.skipped) K
               else evOp cx inl path o (st.put (some d) (.at (.bool false))) fun v st => evOps cx inl path all r (st.put o.dst v) K)
          | .tup [] => evOps cx inl path all r (st.put o.dst V.skipped) K
          | _ => none
        | none => none
      | none => none

/-! ### loops: the state at a loop's head has a shape, and what the shape leaves open is typed data -/
inductive CellK where
  | drop | int (k : IntKind) | bool | str | err | sl (fr : Bool) (t : Ty) | os (b : Nat) | ptr (b off : Nat) | fn (f : FuncId) (caps : List (Nat × Nat))

@[reducible] def CellK.dens : List CellK → Type → Type
  | [], σ => σ
  | .int _ :: r, σ => Int × dens r σ
  | .bool :: r, σ => Bool × dens r σ
  | .str :: r, σ => ByteArray × dens r σ
  | .err :: r, σ => Bool × dens r σ
  | .sl _ t :: r, σ => List t.den × dens r σ
  | _ :: r, σ => dens r σ

/-- a slot at a loop's head: as it was when the loop began (the loop does not write it), a value, a struct -/
inductive SlotK where
  | same
  | at (c : CellK)
  | agg (cs : List CellK)
/-- a block at a loop's head: as it was when the loop began (it is locked in the loop), a variable, a row -/
inductive BlkK where
  | same
  | var (cs : List CellK)
  | arr (grow : Bool) (g : Nat) (own nf : Bool) (t : Ty)

@[reducible] def SlotK.dens : List SlotK → Type → Type
  | [], σ => σ
  | .same :: r, σ => dens r σ
  | .at c :: r, σ => CellK.dens [c] (dens r σ)
  | .agg cs :: r, σ => CellK.dens cs (dens r σ)
@[reducible] def BlkK.dens : List BlkK → Type
  | [] => Unit
  | .same :: r => dens r
  | .var cs :: r => CellK.dens cs (dens r)
  | .arr _ _ _ _ t :: r => List t.den × dens r

structure Shape where
  slots : List SlotK
  blks : List BlkK
@[reducible] def Shape.den (s : Shape) : Type := SlotK.dens s.slots (BlkK.dens s.blks)

def A.kind (weak : Bool) (bl : List Blk) : A → CellK
  | .int k _ => .int k
  | .bool _ => .bool
  | .str _ => .str
  | .err _ => .err
  | .sl fr t _ => .sl (fr && !weak) t
  | .os b g => match bl[b]? with
    | some (.arr g' _ _ _ _) => bif g == g' then .os b else .drop
    | _ => .drop
  | .ptr b off => bif Nat.blt b bl.length then .ptr b off else .drop
  | .fn f caps => bif caps.all fun p => Nat.blt p.1 bl.length then .fn f caps else .drop
  | _ => .drop

/-- the slots that code writes -/
def opsDst : List Oper → List Nat
  | [] => []
  | o :: r => match o.dst with
    | some d => d :: opsDst r
    | none => opsDst r
def Code.writes : Code → List Nat
  | .region _ ops _ => opsDst ops.toList
  | .seq a b => Code.writes a ++ Code.writes b
  | .cond c a b => (match c with | .tmp t => [t] | _ => []) ++ Code.writes a ++ Code.writes b
  | .block _ a => Code.writes a
  | .loop a => Code.writes a
  | _ => []

def slotKinds (kp : Keep) (ws : List Nat) (bl : List Blk) : Nat → List V → List SlotK
  | _, [] => []
  | i, v :: r => (bif ws.contains i then (bif kp.slots.contains i then (match v with
      | .at x => .at (x.kind kp.weak bl)
      | .agg cs => .agg (cs.map (A.kind kp.weak bl))
      | .tup _ => .at .drop) else .at .drop) else .same) :: slotKinds kp ws bl (i + 1) r

def blkKinds (kp : Keep) (lock : List Nat) (bl : List Blk) : Nat → List Blk → List BlkK
  | _, [] => []
  | i, b :: r => (bif lock.contains i then .same else match b with
      | .var cs => bif kp.blks.contains i then .var (cs.map (A.kind kp.weak bl)) else .same
      | .arr g own nf t _ => bif kp.grow.contains i then .arr true (g + 1) own (nf && !kp.weak) t else bif kp.blks.contains i then .arr false g own (nf && !kp.weak) t else .same
      | .dead => .same) :: blkKinds kp lock bl (i + 1) r

/-- what is open in cells, read -/
def unCells (bl : List Blk) {σ : Type} : (ks : List CellK) → List A → Option σ → Option (CellK.dens ks σ)
  | [], [], r => r
  | .int k :: ks, .int k' n :: cs, r => if k = k' then (match unCells bl ks cs r with | some x => some (n, x) | none => none) else none
  | .bool :: ks, .bool b :: cs, r => match unCells bl ks cs r with | some x => some (b, x) | none => none
  | .str :: ks, .str s :: cs, r => match unCells bl ks cs r with | some x => some (s, x) | none => none
  | .err :: ks, .err b :: cs, r => match unCells bl ks cs r with | some x => some (b, x) | none => none
  | .sl fr t :: ks, .sl fr' t' l :: cs, r => bif fr && !fr' then none else match Ty.eq? t' t with
    | some ⟨h⟩ => match unCells bl ks cs r with | some x => some (h ▸ l, x) | none => none
    | none => none
  | .os b :: ks, .os b' g :: cs, r => bif b == b' then (match bl[b]? with
    | some (.arr g' _ _ _ _) => bif g == g' then unCells bl ks cs r else none
    | _ => none) else none
  | .ptr b off :: ks, .ptr b' off' :: cs, r => bif b == b' && off == off' then unCells bl ks cs r else none
  | .fn f caps :: ks, .fn f' caps' :: cs, r => bif f == f' && decide (caps = caps') then unCells bl ks cs r else none
  | .drop :: ks, _ :: cs, r => unCells bl ks cs r
  | _, _, _ => none

def unSlots (bl : List Blk) {σ : Type} : (ks : List SlotK) → List V → Option σ → Option (SlotK.dens ks σ)
  | [], [], r => r
  | .same :: ks, _ :: vs, r => unSlots bl ks vs r
  | .at .drop :: ks, _ :: vs, r => unSlots bl ks vs r
  | .at c :: ks, .at x :: vs, r => unCells bl [c] [x] (unSlots bl ks vs r)
  | .agg cs :: ks, .agg xs :: vs, r => unCells bl cs xs (unSlots bl ks vs r)
  | _, _, _ => none

/-- here bl: all blocks; the list: those that are still to be read -/
def unBlks (bl : List Blk) : (ks : List BlkK) → List Blk → Option (BlkK.dens ks)
  | [], _ => some ()
  | .same :: ks, _ :: bs => unBlks bl ks bs
  | .var cs :: ks, .var xs :: bs => unCells bl cs xs (unBlks bl ks bs)
  | .arr grow g own nf t :: ks, .arr g' own' nf' t' l :: bs =>
    bif (own && !own') || (nf && !nf') || (!grow && !(g == g')) then none else match Ty.eq? t' t with
      | some ⟨h⟩ => match unBlks bl ks bs with | some x => some (h ▸ l, x) | none => none
      | none => none
  | _, _ => none

def Shape.un (s : Shape) (st : St) : Option s.den := unSlots st.bl s.slots st.tmps (unBlks st.bl s.blks st.bl)

/-- the growth number of a row at the loop's head -/
def genAt (ks : List BlkK) (bl : List Blk) (b : Nat) : Nat :=
  match ks[b]? with
  | some (.arr _ g _ _ _) => g
  | _ => match bl[b]? with
    | some (.arr g _ _ _ _) => g
    | _ => 0

/-- the cells of a shape, filled; and the rest of the data -/
def mkCells (gen : Nat → Nat) {σ : Type} : (ks : List CellK) → CellK.dens ks σ → List A × σ
  | [], x => ([], x)
  | .int k :: ks, x => (.int k x.1 :: (mkCells gen ks x.2).1, (mkCells gen ks x.2).2)
  | .bool :: ks, x => (.bool x.1 :: (mkCells gen ks x.2).1, (mkCells gen ks x.2).2)
  | .str :: ks, x => (.str x.1 :: (mkCells gen ks x.2).1, (mkCells gen ks x.2).2)
  | .err :: ks, x => (.err x.1 :: (mkCells gen ks x.2).1, (mkCells gen ks x.2).2)
  | .sl fr t :: ks, x => (.sl fr t x.1 :: (mkCells gen ks x.2).1, (mkCells gen ks x.2).2)
  | .os b :: ks, x => (.os b (gen b) :: (mkCells gen ks x).1, (mkCells gen ks x).2)
  | .ptr b off :: ks, x => (.ptr b off :: (mkCells gen ks x).1, (mkCells gen ks x).2)
  | .fn f caps :: ks, x => (.fn f caps :: (mkCells gen ks x).1, (mkCells gen ks x).2)
  | .drop :: ks, x => (.undef :: (mkCells gen ks x).1, (mkCells gen ks x).2)

def mkSlots (gen : Nat → Nat) {σ : Type} : (ks : List SlotK) → List V → SlotK.dens ks σ → List V × σ
  | [], _, x => ([], x)
  | .same :: ks, vs, x => (vs.headD V.undef :: (mkSlots gen ks vs.tail x).1, (mkSlots gen ks vs.tail x).2)
  | .at c :: ks, vs, x => (.at ((mkCells gen [c] x).1.headD .undef) :: (mkSlots gen ks vs.tail (mkCells gen [c] x).2).1, (mkSlots gen ks vs.tail (mkCells gen [c] x).2).2)
  | .agg cs :: ks, vs, x => (.agg (mkCells gen cs x).1 :: (mkSlots gen ks vs.tail (mkCells gen cs x).2).1, (mkSlots gen ks vs.tail (mkCells gen cs x).2).2)

def mkBlks (gen : Nat → Nat) : (ks : List BlkK) → List Blk → BlkK.dens ks → List Blk
  | [], _, _ => []
  | .same :: ks, bs, x => bs.headD .dead :: mkBlks gen ks bs.tail x
  | .var cs :: ks, bs, x => .var (mkCells gen cs x).1 :: mkBlks gen ks bs.tail (mkCells gen cs x).2
  | .arr _ g own nf t :: ks, bs, x => .arr g own nf t x.1 :: mkBlks gen ks bs.tail x.2

def lockOf (ks : List BlkK) (i : Nat) : List Nat :=
  match ks with
  | [] => []
  | .same :: r => i :: lockOf r (i + 1)
  | _ :: r => lockOf r (i + 1)

def Shape.mk' (s : Shape) (st : St) (x : s.den) : St :=
  { tmps := (mkSlots (genAt s.blks st.bl) s.slots st.tmps x).1,
    bl := mkBlks (genAt s.blks st.bl) s.blks st.bl (mkSlots (genAt s.blks st.bl) s.slots st.tmps x).2,
    lock := st.lock ++ lockOf s.blks 0 }

def shapeOf (kp : Keep) (ws : List Nat) (st : St) : Shape := ⟨slotKinds kp ws st.bl 0 st.tmps, blkKinds kp st.lock st.bl 0 st.bl⟩

def iter {σ : Type} (step : (σ → Option ρ) → σ → Option ρ) : Nat → σ → Option ρ
  | 0, _ => none
  | k + 1, x => step (iter step k) x

def evLoop (kp : Keep) (ws : List Nat) (k : Nat) (body : St → (Ex → St → Option ρ) → Option ρ) (st : St) (K : Ex → St → Option ρ) : Option ρ :=
  match (shapeOf kp ws st).un st with
  | none => none
  | some x => iter (fun rec y => body ((shapeOf kp ws st).mk' st y) fun e st' => match e with
      | .normal => (match (shapeOf kp ws st).un st' with
        | some z => rec z
        | none => none)
      | e => K e { st' with lock := st.lock }) k x

/-! ### code -/
def firstRegion : Code → Nat
  | .region id _ _ => id
  | .seq a _ => firstRegion a
  | .block _ a => firstRegion a
  | .loop a => firstRegion a
  | _ => 0

/-! ### regions that draw their order -/
/-- operations that leave the state as it is, and of which each value is known -/
def evCalm (cx : Cx) (o : Oper) (st : St) (K : V → Option ρ) : Option ρ :=
  match o.op with
  | .move _ | .assign _ | .pick _ _ _ | .load _ _ | .nilCheck _ | .fieldAddr _ _ _ | .field _ _ _ | .indexAddr _ _ _ | .index _ _ _ | .binOp _ _ _ _ _ | .unOp _ _ _ | .slice _ _ _ _ none | .convert _ _ _ | .extract _ _ | .build _ _ => evPure cx o st K
  | .call c => match c.callee with
    | .builtin .len => evPure cx o st K
    | .value (.func f) => match cx.call f with
      | some s => bif s.fresh && s.res.all (fun t => !t.2) then (match readArgs st.bl s.params (c.args.toList.map st.get) with
        | some x => (s.sem x).bind fun r => K (toValue (giveRes true s.res r 0).1)
        | none => none) else none
      | none => none
    | _ => none
  | .buildSlice t n ps => match elemTy cx t with
    | some e => bif Nat.ble (n * e.size) 16777216 && ((rowsIn (ps.toList.map fun p => st.get p.2)).isEmpty && newAlone st.bl (ps.toList.flatMap fun p => (st.get p.2).cells)) then (match fillElems e st ps.toList 0 n with
      | some l => K (.at (.sl true e l))
      | none => none) else none
    | none => none
  | _ => none

def isAlloc (o : Oper) : Bool :=
  match o.op with
  | .alloc _ => true
  | _ => false

noncomputable def evDraw (cx : Cx) (all : List Oper) : List Oper → St → (St → Option ρ) → Option ρ
  | [], st, K => K st
  | o :: r, st, K => forceSt st fun st =>
    bif isAlloc o then evDraw cx all r (st.put o.dst V.undef) K else
    match o.guard with
    | none => evCalm cx o st fun v => evDraw cx all r (st.put o.dst v) K
    | some (j, want) => match all[j]? with
      | some oj => match oj.dst with
        | some d => match st.tmps.getD d V.undef with
          | .at (.bool b) =>
            bif b then
              (bif want then evCalm cx o (st.put (some d) (.at (.bool true))) fun v => evDraw cx all r ((st.put (some d) (.at (.bool true))).put o.dst v) K
               else evDraw cx all r ((st.put (some d) (.at (.bool true))).put o.dst V.skipped) K)
            else
              (bif want then evDraw cx all r ((st.put (some d) (.at (.bool false))).put o.dst V.skipped) K
               else evCalm cx o (st.put (some d) (.at (.bool false))) fun v => evDraw cx all r ((st.put (some d) (.at (.bool false))).put o.dst v) K)
          | .tup [] => evDraw cx all r (st.put o.dst V.skipped) K
          | _ => none
        | none => none
      | none => none

def looked (o : Oper) : List Nat := o.op.operands.toList.filterMap fun
  | .tmp t => some t
  | _ => none

/-- which operation of a list writes a slot -/
def writer (all : List Oper) (t : Nat) : Option Nat := all.findIdx? fun o => o.dst == some t

def edges (o : Oper) : List Nat := o.after.toList.filterMap fun e => bif Region.binds .any e then some e.on else none

def allFrom {α : Type} (p : Nat → α → Bool) : List α → Nat → Bool
  | [], _ => true
  | x :: r, i => p i x && allFrom p r (i + 1)

/-- which operations surely come ahead of each, as bits -/
def maskOf (acc : List Nat) : List Nat → Nat
  | [] => 0
  | e :: r => (2 ^ e ||| acc.getD e 0) ||| maskOf acc r
def masks : List Oper → List Nat → List Nat
  | [], acc => acc
  | o :: r, acc => masks r (acc ++ [maskOf acc (edges o)])

/-- from where on each operation waits for all that stand ahead of it -/
def tailOf : List Nat → Nat → Nat
  | [], i => i
  | k :: r, i => bif k == 2 ^ i - 1 && Nat.beq (tailOf r (i + 1)) (i + 1) then i else tailOf r (i + 1)
def tailAt (all : List Oper) : Nat := tailOf (masks all []) 0

def allocAt (all : List Oper) : Option Nat := (all.take (tailAt all)).findIdx? isAlloc

/-- an operation that makes a variable: no other one ahead of the tail does, or looks at it -/
def allocsOk (all : List Oper) : Bool :=
  match allocAt all with
  | none => true
  | some i0 => match all[i0]? with
    | some oa => match oa.dst with
      | some d => oa.guard.isNone && allFrom (fun i o => (i == i0) || (!isAlloc o && !(looked o).contains d)) (all.take (tailAt all)) 0 &&
          (all.all fun o => match o.guard with | some (j, _) => !(j == i0) | none => true)
      | none => false
    | none => false

/-- each operation reads what it waits for: so the order of the text tells what every order does -/
def drawOk (all : List Oper) : Bool :=
  allFrom (fun i o =>
    (match o.dst with | some d => writer all d == some i | none => true) &&
    (o.after.toList.all fun e => Nat.blt e.on i) &&
    ((looked o).all fun t => match writer all t with | some j => (edges o).contains j || (match all[j]? with | some oj => (edges oj).contains i | none => false) | none => true) &&
    (match o.guard with | some (j, _) => (edges o).contains j | none => true)) all 0 && allocsOk all

def extOf (t : Ty) (n : Nat) : List Blk := (openRows (zeroCells t) n).2 ++ [.var (openRows (zeroCells t) n).1]
def newPtr (t : Ty) (n : Nat) : V := .at (.ptr (n + (openRows (zeroCells t) n).2.length) 0)
def grownSt (t : Ty) (d : Nat) (st : St) : St := ({ st with bl := st.bl ++ extOf t st.bl.length }).put (some d) (newPtr t st.bl.length)

/-- the variable that was made, at the tail's start -/
def evGrow (cx : Cx) (all : List Oper) (st : St) (K : St → Option ρ) : Option ρ :=
  match allocAt all with
  | none => K st
  | some i0 => match all[i0]? with
    | some oa => match oa.op with
      | .alloc t => match oa.dst, cx.ty t with
        | some d, some t => K (grownSt t d st)
        | _, _ => none
      | _ => none
    | none => none

noncomputable def evCode (cx : Cx) (inl : Inl ρ) (path : List Nat) : Code → St → (Ex → St → Option ρ) → Option ρ
  | .skip, st, K => K .normal st
  | .region _ ops draw, st, K => bif draw then (bif drawOk ops.toList then evDraw cx ops.toList (ops.toList.take (tailAt ops.toList)) st fun st => evGrow cx ops.toList st fun st => evOps cx inl path ops.toList (ops.toList.drop (tailAt ops.toList)) st (K .normal) else none) else evOps cx inl path ops.toList ops.toList st (K .normal)
  | .seq a b, st, K => evCode cx inl path a st fun e st => match e with
    | .normal => evCode cx inl path b st K
    | e => K e st
  | .cond (.tmp t) a b, st, K => match st.tmps.getD t V.undef with
    | .at (.bool c) => bif c then evCode cx inl path a (st.put (some t) (.at (.bool true))) K else evCode cx inl path b (st.put (some t) (.at (.bool false))) K
    | _ => none
  | .block id a, st, K => evCode cx inl path a st fun e st => match e with
    | .exit i => bif i == id then K .normal st else K (.exit i) st
    | e => K e st
  | .loop a, st, K => evLoop (cx.keep path (firstRegion a)) (Code.writes a) cx.k (evCode cx inl path a) st K
  | .exit id, st, K => K (.exit id) st
  | .ret, st, K => K .ret st
  | _, _, _ => none

/-! ### functions -/
def resOf (bl : List Blk) (cx : Cx) (st : St) : List ResultVar → Option (List (Bool × List A))
  | [] => some []
  | .tmp t :: r => match st.tmps.getD t V.undef, resOf bl cx st r with
    | .at .undef, _ => none
    | .at x, some vs => some ((false, [x]) :: vs)
    | .agg cs, some vs => some ((true, cs) :: vs)
    | _, _ => none
  | .cell a t :: r => match cx.ty t, cellsAt bl (st.tmps.getD a V.undef), resOf bl cx st r with
    | some t, some (cs, off), some vs => bif Nat.ble (off + t.size) cs.length then (match takeOut t cs off with
      | .at .undef => none
      | .at x => some ((false, [x]) :: vs)
      | .agg cs => some ((true, cs) :: vs)
      | _ => none) else none
    | _, _, _ => none

def enter (n : Nat) (args : List V) : List V := args ++ List.replicate (n - args.length) V.undef

noncomputable def evInl (cx : Cx) : Nat → Inl ρ
  | 0 => fun _ _ _ _ _ => none
  | d + 1 => fun path f args st K => match cx.body f with
    | some fn => match fn.body with
      | some c => evCode cx (evInl cx d) path c { st with tmps := enter fn.ntmps args } fun e st' => match e with
        | .exit _ => none
        | _ => match resOf st'.bl cx st' fn.results.toList with
          | some vs => K (toValue vs) { st' with tmps := st.tmps }
          | none => none
      | none => none
    | none => none

/-- a result's typed data: own: each slice must be an own row -/
def ownRefs (bl : List Blk) : List A → Option (List Nat)
  | [] => some []
  | .sl _ _ _ :: _ => none
  | .os b g :: r => match bl[b]?, ownRefs bl r with
    | some (.arr g' true _ _ _), some bs => bif g == g' then some (b :: bs) else none
    | _, _ => none
  | _ :: r => ownRefs bl r

/-- a result: its data, the own rows that it hands on, the rows that it leads to otherwise -/
def takeOne (fresh : Bool) (bl : List Blk) (t : Ty × Bool) (v : Bool × List A) : Option (t.1.den × List Nat × List Nat) :=
  bif v.1 == t.1.isAgg then (match t.1.ofCells fresh (v.2.map (A.view bl)) with
    | some (x, []) => bif t.2 then (match ownRefs bl v.2 with | some bs => some (x, bs, []) | none => none) else some (x, [], rowsOf v.2)
    | _ => none) else none

def takeRes (fresh : Bool) (bl : List Blk) : (ts : List (Ty × Bool)) → List (Bool × List A) → Option (denR ts × List Nat × List Nat)
  | [], [] => some ((), [], [])
  | [t], [v] => takeOne fresh bl t v
  | t :: u :: r, v :: vs => match takeOne fresh bl t v, takeRes fresh bl (u :: r) vs with
    | some x, some y => some ((x.1, y.1), x.2.1 ++ y.2.1, x.2.2 ++ y.2.2)
    | _, _ => none
  | _, _ => none

def apartAll : List Nat → Bool
  | [] => true
  | b :: r => !r.contains b && apartAll r

def giveArgs : (ts : List Ty) → denL ts → List V
  | [], _ => []
  | t :: ts, x => t.toV false x.1 :: giveArgs ts x.2

def endFn (cx : Cx) (fn : Func) (res : List (Ty × Bool)) (fresh : Bool) (st' : St) : Option (denR res) :=
  match resOf st'.bl cx st' fn.results.toList with
  | some vs => match takeRes fresh st'.bl res vs with
    | some y => bif apartAll y.2.1 && y.2.1.all (fun b => !y.2.2.contains b) then some y.1 else none
    | none => none
  | none => none

noncomputable def evFn (cx : Cx) (d : Nat) (fn : Func) (params : List Ty) (res : List (Ty × Bool)) (fresh : Bool) (x : denL params) : Option (denR res) :=
  match fn.body with
  | some c => evCode cx (evInl cx d) [] c { tmps := enter fn.ntmps (giveArgs params x), bl := [], lock := [] } fun e st' => match e with
    | .exit _ => none
    | _ => endFn cx fn res fresh st'
  | none => none

end
end Go.Proofs.YtcaknaddeblecaaGreatDoor.Ev
