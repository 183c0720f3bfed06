/- An evaluator for the operations of Go's program over typed pure data: its definitions. Nothing is proved here. -/
import Derived.WalkKit
import Derived.Orders
namespace Go.Proofs.YtnohkcklakipoaaGreatDoor.Ev
open Go Go.RowKit
set_option linter.unusedVariables false
inductive Ty where
  | int (k:IntKind) | bool | str | err | adr
  | slice (e:Ty)
  | pair (a b:Ty)
  | struct (b:Ty)
@[reducible] def Ty.den:Ty→Type
  | .int _=>Int
  | .bool=>Bool
  | .str=>ByteArray
  | .err=>Bool
  | .adr=>Unit
  | .slice e=>List e.den
  | .pair a b=>a.den × b.den
  | .struct b=>b.den
def Ty.eq?:(a b:Ty)→Option (PLift (a=b))
  | .int k,.int k'=>if h:k=k' then some ⟨h ▸ rfl⟩ else none
  | .bool,.bool=>some ⟨rfl⟩
  | .str,.str=>some ⟨rfl⟩
  | .err,.err=>some ⟨rfl⟩
  | .adr,.adr=>some ⟨rfl⟩
  | .slice a,.slice b=>match Ty.eq? a b with
    | some ⟨h⟩=>some ⟨h ▸ rfl⟩
    | none=>none
  | .pair a b,.pair c d=>match Ty.eq? a c with
    | some ⟨h⟩=>match Ty.eq? b d with
      | some ⟨g⟩=>some ⟨h ▸ g ▸ rfl⟩
      | none=>none
    | none=>none
  | .struct a,.struct b=>match Ty.eq? a b with
    | some ⟨h⟩=>some ⟨h ▸ rfl⟩
    | none=>none
  | _,_=>none
def Ty.zero:(t:Ty)→t.den
  | .int _=>(0:Int)
  | .bool=>false
  | .str=>⟨#[]⟩
  | .err=>false
  | .adr=>()
  | .slice _=>[]
  | .pair a b=>(a.zero,b.zero)
  | .struct b=>b.zero
def Ty.size:Ty→Nat
  | .pair a b=>a.size+b.size
  | .struct b=>b.size
  | _=>1
def Ty.isAgg:Ty→Bool
  | .struct _=>true
  | _=>false
def Ty.flat:Ty→Bool
  | .slice _=>false
  | .err=>false
  | .adr=>false
  | .pair a b=>a.flat&&b.flat
  | .struct b=>b.flat
  | _=>true
def Ty.fieldIn:Ty→Nat→Nat→Option (Nat × Ty)
  | .pair a _,0,off=>some (off,a)
  | .pair a b,i+1,off=>b.fieldIn i (off+a.size)
  | t,0,off=>some (off,t)
  | _,_+1,_=>none
def Ty.field:Ty→Nat→Option (Nat × Ty)
  | .struct b,i=>b.fieldIn i 0
  | _,_=>none
inductive A where
  | undef
  | int (k:IntKind) (n:Int)
  | bool (b:Bool)
  | str (s:ByteArray)
  | err (b:Bool)
    | sl (fr:Bool) (t:Ty) (l:List t.den)
    | os (b g:Nat)
    | ptr (b off:Nat)
    | ep (b g i off:Nat)
    | pp (fr:Bool) (t:Ty) (x:t.den) (off:Nat)
  | fn (f:FuncId) (caps:List (Nat × Nat))
    | nil (t:Ty)
    | old (t:Ty) (l:List t.den)
inductive V where
  | at (x:A)
  | agg (cs:List A)
  | tup (vs:List (Bool × List A))
inductive Blk where
  | var (cs:List A)
  | arr (g:Nat) (own nf:Bool) (t:Ty) (l:List t.den)
  | dead
structure St where
  tmps:List V
  bl:List Blk
  lock:List Nat
abbrev V.undef:V:=.at .undef
abbrev V.skipped:V:=.tup []
def Ty.cells (fr:Bool):(t:Ty)→t.den→List A
  | .int k,n=>[.int k n]
  | .bool,b=>[.bool b]
  | .str,s=>[.str s]
  | .err,b=>[.err b]
  | .adr,_=>[.undef]
  | .slice e,l=>[.sl fr e l]
  | .pair a b,x=>a.cells fr x.1++b.cells fr x.2
  | .struct b,x=>b.cells fr x
def Ty.olds:(t:Ty)→t.den→List A
  | .int k,n=>[.int k n]
  | .bool,b=>[.bool b]
  | .str,s=>[.str s]
  | .err,b=>[.err b]
  | .adr,_=>[.undef]
  | .slice e,l=>[.old e l]
  | .pair a b,x=>a.olds x.1++b.olds x.2
  | .struct b,x=>b.olds x
def Ty.nils:Ty→List A
  | .int k=>[.int k 0]
  | .bool=>[.bool false]
  | .str=>[.str ⟨#[]⟩]
  | .err=>[.err false]
  | .adr=>[.undef]
  | .slice e=>[.nil e]
  | .pair a b=>a.nils++b.nils
  | .struct b=>b.nils
def Ty.toV (fr:Bool):(t:Ty)→t.den→V
  | .struct b,x=>.agg (b.cells fr x)
  | .int k,n=>.at (.int k n)
  | .bool,b=>.at (.bool b)
  | .str,s=>.at (.str s)
  | .err,b=>.at (.err b)
  | .adr,_=>.at .undef
  | .slice e,l=>.at (.sl fr e l)
  | .pair _ _,_=>V.undef
def Ty.rows:Ty→Nat
  | .slice _=>1
  | .pair a b=>a.rows+b.rows
  | .struct b=>b.rows
  | _=>0
def Ty.own:(t:Ty)→t.den→Nat→List A
  | .int k,v,_=>[.int k v]
  | .bool,b,_=>[.bool b]
  | .str,s,_=>[.str s]
  | .err,b,_=>[.err b]
  | .adr,_,_=>[.undef]
  | .slice e,l,n=>[.os n 0]
  | .pair a b,x,n=>a.own x.1 n++b.own x.2 (n+a.rows)
  | .struct b,x,n=>b.own x n
def Ty.ownRows (nf:Bool):(t:Ty)→t.den→List Blk
  | .slice e,l=>[.arr 0 true nf e l]
  | .pair a b,x=>a.ownRows nf x.1++b.ownRows nf x.2
  | .struct b,x=>b.ownRows nf x
  | _,_=>[]
def Ty.ofCells (need:Bool):(t:Ty)→List A→Option (t.den × List A)
  | .int k,.int k' n :: r=>if k=k' then some (n,r) else none
  | .bool,.bool b :: r=>some (b,r)
  | .str,.str s :: r=>some (s,r)
  | .err,.err b :: r=>some (b,r)
  | .slice e,.sl fr e' l :: r=>match Ty.eq? e' e with
    | some ⟨h⟩=>bif need && !fr then none else some (h ▸ l,r)
    | none=>none
  | .pair a b,cs=>match a.ofCells need cs with
    | some (x,r)=>match b.ofCells need r with
      | some (y,r)=>some ((x,y),r)
      | none=>none
    | none=>none
  | .struct b,cs=>b.ofCells need cs
  | _,_=>none
def V.full:V→Option (List A)
  | .at .undef=>none
  | .at x=>some [x]
  | .agg cs=>some cs
  | .tup _=>none
def V.cells:V→List A
  | .at x=>[x]
  | .agg cs=>cs
  | .tup _=>[]
def A.view (bl:List Blk):A→A
  | .os b g=>match bl[b]? with
    | some (.arr g' _ nf t l)=>bif g == g' then .sl (nf||t.flat) t l else .undef
    | _=>.undef
  | .nil t=>.sl true t []
  | .old t l=>.sl false t l
  | x=>x
def Ty.ofV (need:Bool) (bl:List Blk) (t:Ty) (v:V):Option t.den :=
  match v with
  | .at x=>bif t.isAgg then none else match t.ofCells need [x.view bl] with
    | some (x,[])=>some x
    | _=>none
  | .agg cs=>bif t.isAgg then (match t.ofCells need (cs.map (A.view bl)) with
    | some (x,[])=>some x
    | _=>none) else none
  | .tup _=>none
def wr (k:IntKind) (n:Int):Int :=
  match k with
  | .i64=>wrap64 n
  | k=>k.wrap n
def stuckOn (a r:Int):Int:=match a with
  | .ofNat _=>r
  | .negSucc _=>r
theorem stuckOn_eq (a r:Int):stuckOn a r=r:=by cases a <;> rfl
def bt (s:ByteArray) (i:Int):Int:=stuckOn i ((s.get! i.toNat).toNat:Int)
def strOf (l:List Int):ByteArray:=⟨(l.map fun n=>UInt8.ofNat n.toNat).toArray⟩
def bytesOf (s:ByteArray):List Int:=s.data.toList.map fun b=>(b.toNat:Int)
abbrev most:Nat:=8589934592
abbrev mostText:Nat:=4611686018427387904
inductive Ex where
  | normal | exit (id:Nat) | ret
@[reducible] def denL:List Ty→Type
  | []=>Unit
  | t :: r=>t.den × denL r
@[reducible] def denR:List (Ty × Bool)→Type
  | []=>Unit
  | [t]=>t.1.den
  | t :: r=>t.1.den × denR r
structure CSpec where
  params:List Ty
  res:List (Ty × Bool)
  fresh:Bool
  sem:denL params→Option (denR res)
structure PSpec where
  ptr:Ty
  params:List Ty
  res:List (Ty × Bool)
  fresh:Bool
  sem:ptr.den→denL params→Option (ptr.den × denR res)
structure RSpec where
  t:Ty
  params:List Ty
  sem:List t.den→denL params→Option (List t.den)
structure Keep where
  slots:List Nat
  blks:List Nat
  grow:List Nat
  weak:Bool
structure Cx where
  ty:TypeId→Option Ty
  cmp:TypeId→Bool
  body:FuncId→Option Func
  call:FuncId→Option CSpec
  keep:List Nat→Nat→Keep
  k:Nat
  ptr:FuncId→Option PSpec:=fun _=>none
  swap:Bool:=false
  row:FuncId→Option RSpec:=fun _=>none
section
variable {ρ:Type}
def ofConst (v:Value):V :=
  match v with
  | .int k n=>.at (.int k n)
  | .bool b=>.at (.bool b)
  | .string s=>.at (.str s)
  | .slice none 0 0=>.at (.nil .bool)
  | _=>V.undef
def St.get (st:St) (x:Operand):V :=
  match x with
  | .tmp t=>st.tmps.getD t V.undef
  | .const v=>ofConst v
  | .func f=>.at (.fn f [])
  | .global _=>V.undef
def St.put (st:St) (d:Option Tmp) (v:V):St :=
  match d with
  | some d=>{ st with tmps:=st.tmps.set d v }
  | none=>st
def St.freeze (st:St) (b:Nat):Option St :=
  match st.bl[b]? with
  | some (.arr g true nf t l)=>bif st.lock.contains b then none else some { st with bl:=st.bl.set b (.arr g false nf t l) }
  | _=>some st
def freezeAll (st:St):List Nat→Option St
  | []=>some st
  | b :: r=>match st.freeze b with
    | some st=>freezeAll st r
    | none=>none
def rowsOf:List A→List Nat
  | []=>[]
  | .os b _ :: r=>b :: rowsOf r
  | _ :: r=>rowsOf r
def bitsAnd (k:IntKind) (a b:Int):Int:=stuckOn a <| stuckOn b <| wr k ((BitVec.ofInt k.bits a &&& BitVec.ofInt k.bits b).toNat:Int)
def bitsOr (k:IntKind) (a b:Int):Int:=stuckOn a <| stuckOn b <| wr k ((BitVec.ofInt k.bits a ||| BitVec.ofInt k.bits b).toNat:Int)
def bitsXor (k:IntKind) (a b:Int):Int:=stuckOn a <| stuckOn b <| wr k ((BitVec.ofInt k.bits a ^^^ BitVec.ofInt k.bits b).toNat:Int)
def shiftL (k:IntKind) (a b:Int):Int:=wr k (a*2 ^ (min b.toNat k.bits))
def shiftR (k:IntKind) (a b:Int):Int:=a.fdiv (2 ^ (min b.toNat k.bits))
def binInt (op:BinOp) (k:IntKind) (a b:Int) (K:A→Option ρ):Option ρ :=
  match op with
  | .add=>K (.int k (wr k (a+b)))
  | .sub=>K (.int k (wr k (a-b)))
  | .mul=>K (.int k (wr k (a*b)))
  | .quo=>bif decide (b=0) then none else K (.int k (wr k (a.tdiv b)))
  | .rem=>bif decide (b=0) then none else K (.int k (a.tmod b))
  | .and=>K (.int k (bitsAnd k a b))
  | .or=>K (.int k (bitsOr k a b))
  | .xor=>K (.int k (bitsXor k a b))
  | .eql=>K (.bool (decide (a=b)))
  | .neq=>K (.bool (!decide (a=b)))
  | .lss=>K (.bool (decide (a<b)))
  | .leq=>K (.bool (decide (a≤b)))
  | .gtr=>K (.bool (decide (b<a)))
  | .geq=>K (.bool (decide (b≤a)))
  | _=>none
def lessText (a b:ByteArray):Bool:=Op.bytesLess a.toList b.toList
def binStr (op:BinOp) (a b:ByteArray) (K:A→Option ρ):Option ρ :=
  match op with
  | .add=>bif decide (a.size+b.size<mostText) then K (.str (a++b)) else none
  | .eql=>K (.bool (decide (a=b)))
  | .neq=>K (.bool (!decide (a=b)))
  | .lss=>K (.bool (lessText a b))
  | .gtr=>K (.bool (!(lessText a b||decide (a=b))))
  | .leq=>K (.bool (lessText a b||decide (a=b)))
  | .geq=>K (.bool (!lessText a b))
  | _=>none
def sameCells:Ty→List A→List A→Option Bool
  | .pair a b,x :: r,y :: q=>match sameCells a [x] [y],sameCells b r q with
    | some s,some t=>some (s&&t)
    | _,_=>none
  | .int k,[.int k' a],[.int k'' b]=>if k'=k'' then some (decide (a=b)) else none
  | .bool,[.bool a],[.bool b]=>some (a == b)
  | .str,[.str a],[.str b]=>some (decide (a=b))
  | _,_,_=>none
def isNil:Operand→Bool
  | .const .nilIface=>true
  | _=>false
def evBin (ty:Option Ty) (cmp:Bool) (op:BinOp) (x y:Operand) (st:St) (K:V→Option ρ):Option ρ :=
  match op with
  | .shl=>match st.get x,st.get y with
    | .at (.int k a),.at (.int _ b)=>bif decide (0≤b) then K (.at (.int k (shiftL k a b))) else none
    | _,_=>none
  | .shr=>match st.get x,st.get y with
    | .at (.int k a),.at (.int _ b)=>bif decide (0≤b) then K (.at (.int k (shiftR k a b))) else none
    | _,_=>none
  | op=>match st.get x,st.get y with
    | .at (.int k a),.at (.int k' b)=>if k=k' then binInt op k a b fun v=>K (.at v) else none
    | .at (.str a),.at (.str b)=>binStr op a b fun v=>K (.at v)
    | .at (.bool a),.at (.bool b)=>match ty with
      | some .bool=>match op with
        | .eql=>K (.at (.bool (a == b)))
        | .neq=>K (.at (.bool (!(a == b))))
        | _=>none
      | _=>none
    | .at (.err a),_=>match ty with
      | some .err=>bif isNil y then (match op with
        | .eql=>K (.at (.bool (!a)))
        | .neq=>K (.at (.bool (!(!a))))
        | _=>none) else none
      | _=>none
    | .agg a,.agg b=>match ty with
      | some (.struct u)=>bif cmp then (match sameCells u a b with
        | some t=>match op with
          | .eql=>K (.at (.bool t))
          | .neq=>K (.at (.bool (!t)))
          | _=>none
        | none=>none) else none
      | _=>none
    | _,_=>none
def takeOut (t:Ty) (cs:List A) (off:Nat):V :=
  bif t.isAgg then .agg ((cs.drop off).take t.size) else .at (cs.getD off .undef)
def cellsAt (bl:List Blk):V→Option (List A × Nat)
  | .at (.ptr b off)=>match bl[b]? with
    | some (.var cs)=>some (cs,off)
    | _=>none
  | .at (.ep b g i off)=>match bl[b]? with
    | some (.arr g' _ nf t l)=>bif g == g' then some (t.cells (nf||t.flat) (l.getD i t.zero),off) else none
    | _=>none
  | .at (.pp fr t x off)=>some (t.cells fr x,off)
  | _=>none
def sliceTy (cx:Cx) (t:TypeId) (u:Ty):Bool :=
  match cx.ty t with
  | some (.slice e)=>(Ty.eq? e u).isSome
  | _=>false
def strTy (cx:Cx) (t:TypeId):Bool :=
  match cx.ty t with
  | some .str=>true
  | _=>false
def loadBound (st:St) (o:Option Operand) (d:Int):Option Int :=
  match o with
  | none=>some d
  | some x=>match st.get x with
    | .at (.int _ n)=>some n
    | _=>none
def evSlice (cx:Cx) (t:TypeId) (x:V) (lo hi:Option Operand) (st:St) (K:V→Option ρ):Option ρ :=
  match x with
  | .at (.str s)=>match loadBound st lo 0,loadBound st hi s.size with
    | some a,some b=>bif strTy cx t then (bif decide (0≤a∧a≤b∧b≤(s.size:Int)) then K (.at (.str (s.extract a.toNat b.toNat))) else none) else none
    | _,_=>none
  | .at (.sl fr u l)=>match loadBound st lo 0,loadBound st hi l.length with
    | some a,some b=>bif sliceTy cx t u then (bif decide (0≤a∧a≤b∧b≤(l.length:Int)) then K (.at (.sl fr u ((l.drop a.toNat).take (b-a).toNat))) else none) else none
    | _,_=>none
  | _=>none
def lenOf (bl:List Blk):V→Option (Bool × Nat)
  | .at (.sl _ _ l)=>some (false,l.length)
  | .at (.nil _)=>some (false,0)
  | .at (.old _ l)=>some (false,l.length)
  | .at (.str s)=>some (true,s.size)
  | .at (.os b g)=>match bl[b]? with
    | some (.arr g' _ _ _ l)=>bif g == g' then some (false,l.length) else none
    | _=>none
  | _=>none
def zeroCells (t:Ty):List A:=t.nils
def writeAt {α:Type} (cs:List α) (off:Nat):List α→List α
  | []=>cs
  | c :: r=>writeAt (cs.set off c) (off+1) r
def fillIn (t:Ty) (st:St):List (Nat × Operand)→List A→Option (List A)
  | [],cs=>some cs
  | (i,x) :: r,cs=>match t.field i with
    | some (off,u)=>match (st.get x).full with
      | some v=>bif v.length == u.size then fillIn t st r (writeAt cs off v) else none
      | none=>none
    | none=>none
def sure (bl:List Blk):V→Option V
  | .at (.ptr b off)=>match bl[b]? with
    | some (.var _)=>some (.at (.ptr b off))
    | _=>none
  | .at (.ep b g i off)=>match bl[b]? with
    | some (.arr g' _ _ _ _)=>bif g == g' then some (.at (.ep b g i off)) else none
    | _=>none
  | .at (.pp fr t x off)=>some (.at (.pp fr t x off))
  | _=>none
def moved (d:Nat):V→V
  | .at (.ptr b off)=>.at (.ptr b (off+d))
  | .at (.ep b g i off)=>.at (.ep b g i (off+d))
  | .at (.pp fr t x off)=>.at (.pp fr t x (off+d))
  | v=>v
def evPure (cx:Cx) (o:Oper) (st:St) (K:V→Option ρ):Option ρ :=
  match o.op with
  | .move x=>K (st.get x)
  | .assign x=>K (st.get x)
  | .pick c a b=>match st.get c with
    | .at (.bool c)=>bif c then K (st.get a) else K (st.get b)
    | _=>none
  | .load t a=>match cx.ty t,cellsAt st.bl (st.get a) with
    | some t,some (cs,off)=>bif Nat.ble (off+t.size) cs.length then K (takeOut t cs off) else none
    | _,_=>none
  | .nilCheck x=>match sure st.bl (st.get x) with
    | some v=>K v
    | none=>none
  | .fieldAddr t x f=>match cx.ty t with
    | some t=>match t.field f,sure st.bl (st.get x) with
      | some (d,_),some v=>K (moved d v)
      | _,_=>none
    | none=>none
  | .field t x f=>match cx.ty t with
    | some t=>match t.field f,st.get x with
      | some (d,u),.agg cs=>bif Nat.ble (d+u.size) cs.length then K (takeOut u cs d) else none
      | _,_=>none
    | none=>none
  | .indexAddr t x i=>match st.get i with
    | .at (.int _ i)=>match st.get x with
      | .at (.sl fr u l)=>bif sliceTy cx t u then (bif decide (0≤i∧i<(l.length:Int)) then K (.at (.pp fr u (l.getD i.toNat u.zero) 0)) else none) else none
      | .at (.os b g)=>match st.bl[b]? with
        | some (.arr g' _ _ u l)=>bif g == g'&&sliceTy cx t u then (bif decide (0≤i∧i<(l.length:Int)) then K (.at (.ep b g i.toNat 0)) else none) else none
        | _=>none
      | _=>none
    | _=>none
  | .index t x i=>match st.get x,st.get i with
    | .at (.str s),.at (.int _ i)=>bif strTy cx t then (bif decide (0≤i∧i<(s.size:Int)) then K (.at (.int .u8 (bt s i))) else none) else none
    | _,_=>none
  | .binOp op t x y _=>evBin (cx.ty t) (cx.cmp t) op x y st K
  | .unOp op _ x=>match op,st.get x with
    | .not,.at (.bool b)=>K (.at (.bool (!b)))
    | .neg,.at (.int k n)=>K (.at (.int k (wr k (-n))))
    | _,_=>none
  | .slice t x lo hi none=>evSlice cx t (st.get x) lo hi st K
  | .convert s d x=>match cx.ty s,cx.ty d with
    | some (.int _),some (.int k)=>match st.get x with
      | .at (.int _ n)=>K (.at (.int k (wr k n)))
      | _=>none
    | some .str,some .str=>match st.get x with
      | .at (.str s)=>K (.at (.str s))
      | _=>none
    | some (.slice (.int .u8)),some .str=>match st.get x with
      | .at x=>match x.view st.bl with
        | .sl _ (.int .u8) l=>K (.at (.str (strOf l)))
        | _=>none
      | _=>none
    | _,_=>none
  | .build t ps=>match cx.ty t with
    | some (.struct t)=>match fillIn (.struct t) st ps.toList (zeroCells (.struct t)) with
      | some cs=>K (.agg cs)
      | none=>none
    | _=>none
  | .makeFunc (.func f) fs caps=>bif fs.isEmpty then (match capsOf st caps.toList with
    | some cs=>K (.at (.fn f cs))
    | none=>none) else none
  | .extract x i=>match st.get x with
    | .tup vs=>match vs[i]? with
      | some (true,cs)=>K (.agg cs)
      | some (false,[c])=>K (.at c)
      | _=>none
    | _=>none
  | .call c=>match c.callee with
    | .builtin .len=>match c.args.toList,c.argTypes.toList with
      | [x],[t]=>match lenOf st.bl (st.get x),cx.ty t with
        | some (false,n),some (.slice _)=>K (.at (.int .i64 n))
        | some (true,n),some .str=>K (.at (.int .i64 n))
        | _,_=>none
      | _,_=>none
    | .builtin .min=>match c.args.toList with
      | [x,y]=>match st.get x,st.get y with
        | .at (.int k a),.at (.int _ b)=>K (.at (.int k (if b<a then b else a)))
        | _,_=>none
      | _=>none
    | .builtin .max=>match c.args.toList with
      | [x,y]=>match st.get x,st.get y with
        | .at (.int k a),.at (.int _ b)=>K (.at (.int k (if b>a then b else a)))
        | _,_=>none
      | _=>none
    | _=>none
  | _=>none
where
  capsOf (st:St):List Operand→Option (List (Nat × Nat))
    | []=>some []
    | x :: r=>match st.get x,capsOf st r with
      | .at (.ptr b off),some cs=>some ((b,off) :: cs)
      | _,_=>none
def argV (t:Ty) (v:V):V :=
  match v with
  | .at (.nil _)=>(match t with
    | .slice e=>.at (.nil e)
    | _=>v)
  | _=>v
def readArgs (bl:List Blk):(ts:List Ty)→List V→Option (denL ts)
  | [],[]=>some ()
  | t :: ts,v :: vs=>match t.ofV false bl (argV t v),readArgs bl ts vs with
    | some x,some xs=>some (x,xs)
    | _,_=>none
  | _,_=>none
def oneRes (fresh:Bool) (t:Ty × Bool) (x:t.1.den) (n:Nat):(Bool × List A) × List Blk :=
  bif t.2 then ((t.1.isAgg,t.1.own x n),t.1.ownRows fresh x) else ((t.1.isAgg,t.1.cells fresh x),[])
def giveRes (fresh:Bool):(ts:List (Ty × Bool))→denR ts→Nat→List (Bool × List A) × List Blk
  | [],_,_=>([],[])
  | [t],x,n=>([(oneRes fresh t x n).1],(oneRes fresh t x n).2)
  | t :: u :: r,x,n =>
    ((oneRes fresh t x.1 n).1 :: (giveRes fresh (u :: r) x.2 (n+(oneRes fresh t x.1 n).2.length)).1,
     (oneRes fresh t x.1 n).2++(giveRes fresh (u :: r) x.2 (n+(oneRes fresh t x.1 n).2.length)).2)
def giveFlat:(ts:List (Ty × Bool))→denR ts→List (Bool × List A)
  | [],_=>[]
  | [t],x=>[(t.1.isAgg,t.1.cells true x)]
  | t :: u :: r,x=>(t.1.isAgg,t.1.cells true x.1) :: giveFlat (u :: r) x.2
def toValue:List (Bool × List A)→V
  | [(true,cs)]=>.agg cs
  | [(false,[c])]=>.at c
  | vs=>.tup vs
def rowsIn (args:List V):List Nat:=args.flatMap fun v=>rowsOf v.cells
def evCall (s:CSpec) (args:List V) (st:St) (K:V→St→Option ρ):Option ρ :=
  match readArgs st.bl s.params args with
  | some x=>(s.sem x).bind fun r =>
    match (bif s.fresh then some st else freezeAll st (rowsIn args)) with
    | some st=>K (toValue (giveRes s.fresh s.res r st.bl.length).1) { st with bl:=st.bl++(giveRes s.fresh s.res r st.bl.length).2 }
    | none=>none
  | none=>none
abbrev Inl (ρ:Type):=List Nat→FuncId→List V→St→(V→St→Option ρ)→Option ρ
def putIn (t:Ty) (bl:List Blk) (cs:List A):Option t.den :=
  match t.ofCells false (cs.map (A.view bl)) with
  | some (x,[])=>some x
  | _=>none
def newAlone (bl:List Blk):List A→Bool
  | []=>true
  | c :: r=>(match c.view bl with | .sl fr _ _=>fr | .err _=>false | _=>true)&&newAlone bl r
def movable (bl:List Blk):List A→Option (List Nat)
  | []=>some []
  | .os b g :: r=>match bl[b]?,movable bl r with
    | some (.arr g' true true _ _),some bs=>bif g == g' then some (b :: bs) else none
    | _,_=>none
  | .nil _ :: r=>movable bl r
  | .int _ _ :: r=>movable bl r
  | .bool _ :: r=>movable bl r
  | .str _ :: r=>movable bl r
  | _=>none
def apartAll:List Nat→Bool
  | []=>true
  | b :: r=>!r.contains b&&apartAll r
def moves (bl:List Blk) (cs:List A):Bool :=
  match movable bl cs with
  | some bs=>apartAll bs
  | none=>false
def openRows:List A→Nat→List A × List Blk
  | [],_=>([],[])
  | .nil t :: r,n=>(.os n 0 :: (openRows r (n+1)).1,.arr 0 true true t [] :: (openRows r (n+1)).2)
  | c :: r,n=>(c :: (openRows r n).1,(openRows r n).2)
structure Row where
  fr:Bool
  t:Ty
  l:List t.den
def rowOf (bl:List Blk) (v:V):Option Row :=
  match v with
  | .at (.str s)=>some ⟨true,.int .u8,bytesOf s⟩
  | .at x=>match x.view bl with
    | .sl fr t l=>some ⟨fr||t.flat,t,l⟩
    | _=>none
  | _=>none
def rowTy (cx:Cx) (t:TypeId):Bool :=
  match cx.ty t with
  | some (.slice _)=>true
  | some .str=>true
  | _=>false
def handsOver (st:St) (b:Nat) (y:V):Bool :=
  match y with
  | .at (.os by' gy)=>match st.bl[by']? with
    | some (.arr g' true true _ _)=>gy == g' && !(by' == b) && !st.lock.contains by'
    | _=>false
  | _=>false
def handOver (st:St) (b:Nat) (nf:Bool) (t:Ty) (y:V):St :=
  bif nf && !t.flat&&handsOver st b y then (match y with
    | .at (.os by' _)=>(match st.freeze by' with
      | some st'=>st'
      | none=>st)
    | _=>st) else st
def evAppend (cx:Cx) (ts:List TypeId) (x y:V) (st:St) (K:V→St→Option ρ):Option ρ :=
  match ts,x,rowOf st.bl y with
  | [t0,t1],.at (.os b g),some m=>match st.bl[b]? with
    | some (.arr g' true nf t l)=>bif g == g' && !st.lock.contains b&&sliceTy cx t0 t&&rowTy cx t1 then
      (match Ty.eq? m.t t with
        | some ⟨h⟩ =>
          bif decide (l.length+m.l.length<most) then
            K (.at (.os b (g+1))) { handOver st b nf t y with bl:=(handOver st b nf t y).bl.set b (.arr (g+1) true (nf&&(t.flat||handsOver st b y)) t (l++(h ▸ m.l))) }
          else none
        | none=>none) else none
    | _=>none
  | _,_,_=>none
def elemTy (cx:Cx) (t:TypeId):Option Ty :=
  match cx.ty t with
  | some (.slice e)=>some e
  | _=>none
def fillElems (e:Ty) (st:St):List (Nat × Operand)→Nat→Nat→Option (List e.den)
  | [],i,n=>if i=n then some [] else none
  | (j,x) :: r,i,n=>if i=j then match e.ofV false st.bl (st.get x),fillElems e st r (i+1) n with
    | some v,some vs=>some (v :: vs)
    | _,_=>none
  else none
def evStore (a:V) (v:List A) (st:St) (K:V→St→Option ρ):Option ρ :=
  match a with
  | .at (.ptr b off)=>match st.bl[b]? with
    | some (.var cs)=>bif Nat.ble (off+v.length) cs.length && !st.lock.contains b then K V.undef { st with bl:=st.bl.set b (.var (writeAt cs off (openRows v st.bl.length).1))++(openRows v st.bl.length).2 } else none
    | _=>none
  | .at (.ep b g i off)=>match st.bl[b]? with
    | some (.arr g' true nf t l)=>bif g == g' && !st.lock.contains b&&Nat.ble (off+v.length) t.size then
      (match putIn t st.bl (writeAt (t.cells (nf||t.flat) (l.getD i t.zero)) off v),freezeAll st (rowsOf v) with
        | some y,some st'=>match st'.bl[b]? with
          | some (.arr _ true _ _ _)=>K V.undef { st' with bl:=st'.bl.set b (.arr g true (nf&&moves st.bl v) t (l.set i y)) }
          | _=>none
        | _,_=>none) else none
    | _=>none
  | _=>none
def swap1 (lock:List Nat) (bl:List Blk) (o c:A):Option (A × List Blk) :=
  match o,c with
  | .os b0 _,.os b2 g2=>match bl[b0]?,bl[b2]? with
    | some (.arr g0' true _ t0 _),some (.arr g2' true nf t l)=>match Ty.eq? t0 t with
      | some ⟨h⟩=>bif g2 == g2' && !(b0 == b2) && !lock.contains b0 && !lock.contains b2 then some (.os b0 (g0'+1),(bl.set b0 (.arr (g0'+1) true nf t l)).set b2 .dead) else none
      | none=>none
    | _,_=>none
  | _,_=>none
def swaps (lock:List Nat) (bl:List Blk):List A→List A→List A × List Blk
  | [],vs=>(vs,bl)
  | _ :: _,[]=>([],bl)
  | o :: os,c :: vs=>match swap1 lock bl o c with
    | some (c',bl')=>(c' :: (swaps lock bl' os vs).1,(swaps lock bl' os vs).2)
    | none=>(c :: (swaps lock bl os vs).1,(swaps lock bl os vs).2)
def evSwap (a:V) (v:List A) (st:St):List A × St :=
  match a with
  | .at (.ptr b off)=>match st.bl[b]? with
    | some (.var cs)=>((swaps st.lock st.bl ((cs.drop off).take v.length) v).1,{ st with bl:=(swaps st.lock st.bl ((cs.drop off).take v.length) v).2 })
    | _=>(v,st)
  | _=>(v,st)
def nilSlice:Operand→Bool
  | .const (.slice none 0 0)=>true
  | _=>false
def evShrink (cx:Cx) (t:TypeId) (b g:Nat) (hi:Option Operand) (st:St) (K:V→St→Option ρ):Option ρ :=
  match st.bl[b]?,loadBound st hi 0,elemTy cx t with
  | some (.arr g' true nf u l),some n,some e=>bif g == g' && !st.lock.contains b&&u.flat&&(Ty.eq? u e).isSome then
      (bif decide (0≤n∧n≤(l.length:Int)) then K (.at (.os b (g+1))) { st with bl:=st.bl.set b (.arr (g+1) true nf u (l.take n.toNat)) } else none) else none
  | _,_,_=>none
def evOp (cx:Cx) (inl:Inl ρ) (path:List Nat) (o:Oper) (st:St) (K:V→St→Option ρ):Option ρ :=
  match o.op with
  | .alloc t=>match cx.ty t with
    | some t=>K (.at (.ptr (st.bl.length+(openRows (zeroCells t) st.bl.length).2.length) 0)) { st with bl:=st.bl++(openRows (zeroCells t) st.bl.length).2++[.var (openRows (zeroCells t) st.bl.length).1] }
    | none=>none
  | .box t x=>match cx.ty t,(st.get x).full with
    | some t,some cs=>bif cs.length == t.size then K (.at (.ptr st.bl.length 0)) { st with bl:=st.bl++[.var cs] } else none
    | _,_=>none
  | .assign x=>bif nilSlice x then (match elemTy cx o.type with
    | some e=>K (.at (.os st.bl.length 0)) { st with bl:=st.bl++[.arr 0 true true e []] }
    | none=>none) else K (st.get x) st
  | .move x=>bif nilSlice x then (match elemTy cx o.type with
    | some e=>K (.at (.os st.bl.length 0)) { st with bl:=st.bl++[.arr 0 true true e []] }
    | none=>none) else K (st.get x) st
  | .store t a x=>match cx.ty t,(st.get x).full with
    | some t,some cs=>bif cs.length == t.size then (bif cx.swap then evStore (st.get a) (evSwap (st.get a) cs st).1 (evSwap (st.get a) cs st).2 K else evStore (st.get a) cs st K) else none
    | _,_=>none
  | .makeSlice t n c=>match elemTy cx t,st.get n,st.get c with
    | some e,.at (.int _ n),.at (.int _ c) =>
      bif decide (0≤n∧n=c∧n<(most:Int)) then K (.at (.os st.bl.length 0)) { st with bl:=st.bl++[.arr 0 true true e (List.replicate n.toNat e.zero)] } else none
    | _,_,_=>none
  | .buildSlice t n ps=>match elemTy cx t with
    | some e=>bif Nat.ble (n*e.size) 16777216 then (match fillElems e st ps.toList 0 n,freezeAll st (rowsIn (ps.toList.map fun p=>st.get p.2)) with
      | some l,some st'=>K (.at (.os st'.bl.length 0)) { st' with bl:=st'.bl++[.arr 0 true (moves st.bl (ps.toList.flatMap fun p=>(st.get p.2).cells)) e l] }
      | _,_=>none) else none
    | none=>none
  | .convert c d x=>match cx.ty c,elemTy cx d,st.get x with
    | some .str,some (.int .u8),.at (.str s)=>K (.at (.os st.bl.length 0)) { st with bl:=st.bl++[.arr 0 true true (.int .u8) (bytesOf s)] }
    | _,_,_=>evPure cx o st fun v=>K v st
  | .slice t x lo hi none=>match st.get x with
    | .at (.os b g)=>bif cx.swap&&lo.isNone&&hi.isSome then evShrink cx t b g hi st K else match st.freeze b with
      | some st'=>evSlice cx t (.at ((A.os b g).view st.bl)) lo hi st fun v=>K v st'
      | none=>none
    | v=>evSlice cx t v lo hi st fun v=>K v st
  | .call c=>match c.callee with
    | .builtin .append=>match c.args.toList with
      | [x,y]=>evAppend cx c.argTypes.toList (st.get x) (st.get y) st K
      | _=>none
    | .value f=>match st.get f with
      | .at (.fn f caps)=>match cx.call f with
        | some s=>evCall s (c.args.toList.map st.get++caps.map fun p=>V.at (.ptr p.1 p.2)) st K
        | none=>inl (o.dst.getD 0 :: path) f (c.args.toList.map st.get++caps.map fun p=>V.at (.ptr p.1 p.2)) st K
      | _=>none
    | _=>evPure cx o st fun v=>K v st
  | _=>evPure cx o st fun v=>K v st
noncomputable def forceL {α:Type} (l:List α) (K:List α→Option ρ):Option ρ :=
  @List.rec α (fun _=>(List α→Option ρ)→Option ρ) (fun K=>K []) (fun x _ ih K=>ih fun r'=>K (x :: r')) l K
noncomputable def forceSt (st:St) (K:St→Option ρ):Option ρ:=forceL st.tmps fun t=>forceL st.bl fun b=>K { tmps:=t,bl:=b,lock:=st.lock }
theorem forceL_eq {α:Type}:∀ (l:List α) (K:List α→Option ρ),forceL l K=K l
  | [],_=>rfl
  | x :: r,K=>forceL_eq r fun r'=>K (x :: r')
theorem forceSt_eq (st:St) (K:St→Option ρ):forceSt st K=K st:=by unfold forceSt;rw [forceL_eq,forceL_eq]
noncomputable def evOps (cx:Cx) (inl:Inl ρ) (path:List Nat) (all:List Oper):List Oper→St→(St→Option ρ)→Option ρ
  | [],st,K=>K st
  | o :: r,st,K=>forceSt st fun st =>
    match o.guard with
    | none=>evOp cx inl path o st fun v st=>evOps cx inl path all r (st.put o.dst v) K
    | some (j,want)=>match all[j]? with
      | some oj=>match oj.dst with
        | some d=>match st.tmps.getD d V.undef with
          | .at (.bool b) =>
            bif b then
              (bif want then evOp cx inl path o (st.put (some d) (.at (.bool true))) fun v st=>evOps cx inl path all r (st.put o.dst v) K
               else evOps cx inl path all r ((st.put (some d) (.at (.bool true))).put o.dst V.skipped) K)
            else
              (bif want then evOps cx inl path all r ((st.put (some d) (.at (.bool false))).put o.dst V.skipped) K
               else evOp cx inl path o (st.put (some d) (.at (.bool false))) fun v st=>evOps cx inl path all r (st.put o.dst v) K)
          | .tup []=>evOps cx inl path all r (st.put o.dst V.skipped) K
          | _=>none
        | none=>none
      | none=>none
inductive CellK where
  | drop | int (k:IntKind) | bool | str | err | sl (fr:Bool) (t:Ty) | os (b:Nat) | ptr (b off:Nat) | fn (f:FuncId) (caps:List (Nat × Nat))
@[reducible] def CellK.dens:List CellK→Type→Type
  | [],σ=>σ
  | .int _ :: r,σ=>Int × dens r σ
  | .bool :: r,σ=>Bool × dens r σ
  | .str :: r,σ=>ByteArray × dens r σ
  | .err :: r,σ=>Bool × dens r σ
  | .sl _ t :: r,σ=>List t.den × dens r σ
  | _ :: r,σ=>dens r σ
inductive SlotK where
  | same
  | at (c:CellK)
  | agg (cs:List CellK)
inductive BlkK where
  | same
  | var (cs:List CellK)
  | arr (grow:Bool) (g:Nat) (own nf:Bool) (t:Ty)
@[reducible] def SlotK.dens:List SlotK→Type→Type
  | [],σ=>σ
  | .same :: r,σ=>dens r σ
  | .at c :: r,σ=>CellK.dens [c] (dens r σ)
  | .agg cs :: r,σ=>CellK.dens cs (dens r σ)
@[reducible] def BlkK.dens:List BlkK→Type
  | []=>Unit
  | .same :: r=>dens r
  | .var cs :: r=>CellK.dens cs (dens r)
  | .arr _ _ _ _ t :: r=>List t.den × dens r
structure Shape where
  slots:List SlotK
  blks:List BlkK
@[reducible] def Shape.den (s:Shape):Type:=SlotK.dens s.slots (BlkK.dens s.blks)
def A.kind (weak:Bool) (bl:List Blk):A→CellK
  | .int k _=>.int k
  | .bool _=>.bool
  | .str _=>.str
  | .err _=>.err
  | .sl fr t _=>.sl (fr && !weak) t
  | .nil t=>.sl (!weak) t
  | .os b g=>match bl[b]? with
    | some (.arr g' _ _ _ _)=>bif g == g' then .os b else .drop
    | _=>.drop
  | .ptr b off=>bif Nat.blt b bl.length then .ptr b off else .drop
  | .fn f caps=>bif caps.all fun p=>Nat.blt p.1 bl.length then .fn f caps else .drop
  | _=>.drop
def opsDst:List Oper→List Nat
  | []=>[]
  | o :: r=>match o.dst with
    | some d=>d :: opsDst r
    | none=>opsDst r
def Code.writes:Code→List Nat
  | .region _ ops _=>opsDst ops.toList
  | .seq a b=>Code.writes a++Code.writes b
  | .cond c a b=>(match c with | .tmp t=>[t] | _=>[])++Code.writes a++Code.writes b
  | .block _ a=>Code.writes a
  | .loop a=>Code.writes a
  | _=>[]
def slotKinds (kp:Keep) (ws:List Nat) (bl:List Blk):Nat→List V→List SlotK
  | _,[]=>[]
  | i,v :: r=>(bif ws.contains i then (bif kp.slots.contains i then (match v with
      | .at x=>.at (x.kind kp.weak bl)
      | .agg cs=>.agg (cs.map (A.kind kp.weak bl))
      | .tup _=>.at .drop) else .at .drop) else .same) :: slotKinds kp ws bl (i+1) r
def blkKinds (kp:Keep) (lock:List Nat) (bl:List Blk):Nat→List Blk→List BlkK
  | _,[]=>[]
  | i,b :: r=>(bif lock.contains i then .same else match b with
      | .var cs=>bif kp.blks.contains i then .var (cs.map (A.kind kp.weak bl)) else .same
      | .arr g own nf t _=>bif kp.grow.contains i then .arr true (g+1) own (nf && !kp.weak) t else bif kp.blks.contains i then .arr false g own (nf && !kp.weak) t else .same
      | .dead=>.same) :: blkKinds kp lock bl (i+1) r
def unCells (bl:List Blk) {σ:Type}:(ks:List CellK)→List A→Option σ→Option (CellK.dens ks σ)
  | [],[],r=>r
  | .int k :: ks,.int k' n :: cs,r=>if k=k' then (match unCells bl ks cs r with | some x=>some (n,x) | none=>none) else none
  | .bool :: ks,.bool b :: cs,r=>match unCells bl ks cs r with | some x=>some (b,x) | none=>none
  | .str :: ks,.str s :: cs,r=>match unCells bl ks cs r with | some x=>some (s,x) | none=>none
  | .err :: ks,.err b :: cs,r=>match unCells bl ks cs r with | some x=>some (b,x) | none=>none
  | .sl fr t :: ks,.sl fr' t' l :: cs,r=>bif fr && !fr' then none else match Ty.eq? t' t with
    | some ⟨h⟩=>match unCells bl ks cs r with | some x=>some (h ▸ l,x) | none=>none
    | none=>none
  | .sl fr t :: ks,.nil t' :: cs,r=>match Ty.eq? t' t with
    | some _=>match unCells bl ks cs r with | some x=>some ([],x) | none=>none
    | none=>none
  | .os b :: ks,.os b' g :: cs,r=>bif b == b' then (match bl[b]? with
    | some (.arr g' _ _ _ _)=>bif g == g' then unCells bl ks cs r else none
    | _=>none) else none
  | .ptr b off :: ks,.ptr b' off' :: cs,r=>bif b == b'&&off == off' then unCells bl ks cs r else none
  | .fn f caps :: ks,.fn f' caps' :: cs,r=>bif f == f'&&decide (caps=caps') then unCells bl ks cs r else none
  | .drop :: ks,_ :: cs,r=>unCells bl ks cs r
  | _,_,_=>none
def unSlots (bl:List Blk) {σ:Type}:(ks:List SlotK)→List V→Option σ→Option (SlotK.dens ks σ)
  | [],[],r=>r
  | .same :: ks,_ :: vs,r=>unSlots bl ks vs r
  | .at .drop :: ks,_ :: vs,r=>unSlots bl ks vs r
  | .at c :: ks,.at x :: vs,r=>unCells bl [c] [x] (unSlots bl ks vs r)
  | .agg cs :: ks,.agg xs :: vs,r=>unCells bl cs xs (unSlots bl ks vs r)
  | _,_,_=>none
def unBlks (bl:List Blk):(ks:List BlkK)→List Blk→Option (BlkK.dens ks)
  | [],_=>some ()
  | .same :: ks,_ :: bs=>unBlks bl ks bs
  | .var cs :: ks,.var xs :: bs=>unCells bl cs xs (unBlks bl ks bs)
  | .arr grow g own nf t :: ks,.arr g' own' nf' t' l :: bs =>
    bif (own && !own')||(nf && !nf')||(!grow && !(g == g')) then none else match Ty.eq? t' t with
      | some ⟨h⟩=>match unBlks bl ks bs with | some x=>some (h ▸ l,x) | none=>none
      | none=>none
  | _,_=>none
def Shape.un (s:Shape) (st:St):Option s.den:=unSlots st.bl s.slots st.tmps (unBlks st.bl s.blks st.bl)
def genAt (ks:List BlkK) (bl:List Blk) (b:Nat):Nat :=
  match ks[b]? with
  | some (.arr _ g _ _ _)=>g
  | _=>match bl[b]? with
    | some (.arr g _ _ _ _)=>g
    | _=>0
def mkCells (gen:Nat→Nat) {σ:Type}:(ks:List CellK)→CellK.dens ks σ→List A × σ
  | [],x=>([],x)
  | .int k :: ks,x=>(.int k x.1 :: (mkCells gen ks x.2).1,(mkCells gen ks x.2).2)
  | .bool :: ks,x=>(.bool x.1 :: (mkCells gen ks x.2).1,(mkCells gen ks x.2).2)
  | .str :: ks,x=>(.str x.1 :: (mkCells gen ks x.2).1,(mkCells gen ks x.2).2)
  | .err :: ks,x=>(.err x.1 :: (mkCells gen ks x.2).1,(mkCells gen ks x.2).2)
  | .sl fr t :: ks,x=>(.sl fr t x.1 :: (mkCells gen ks x.2).1,(mkCells gen ks x.2).2)
  | .os b :: ks,x=>(.os b (gen b) :: (mkCells gen ks x).1,(mkCells gen ks x).2)
  | .ptr b off :: ks,x=>(.ptr b off :: (mkCells gen ks x).1,(mkCells gen ks x).2)
  | .fn f caps :: ks,x=>(.fn f caps :: (mkCells gen ks x).1,(mkCells gen ks x).2)
  | .drop :: ks,x=>(.undef :: (mkCells gen ks x).1,(mkCells gen ks x).2)
def mkSlots (gen:Nat→Nat) {σ:Type}:(ks:List SlotK)→List V→SlotK.dens ks σ→List V × σ
  | [],_,x=>([],x)
  | .same :: ks,vs,x=>(vs.headD V.undef :: (mkSlots gen ks vs.tail x).1,(mkSlots gen ks vs.tail x).2)
  | .at c :: ks,vs,x=>(.at ((mkCells gen [c] x).1.headD .undef) :: (mkSlots gen ks vs.tail (mkCells gen [c] x).2).1,(mkSlots gen ks vs.tail (mkCells gen [c] x).2).2)
  | .agg cs :: ks,vs,x=>(.agg (mkCells gen cs x).1 :: (mkSlots gen ks vs.tail (mkCells gen cs x).2).1,(mkSlots gen ks vs.tail (mkCells gen cs x).2).2)
def mkBlks (gen:Nat→Nat):(ks:List BlkK)→List Blk→BlkK.dens ks→List Blk
  | [],_,_=>[]
  | .same :: ks,bs,x=>bs.headD .dead :: mkBlks gen ks bs.tail x
  | .var cs :: ks,bs,x=>.var (mkCells gen cs x).1 :: mkBlks gen ks bs.tail (mkCells gen cs x).2
  | .arr _ g own nf t :: ks,bs,x=>.arr g own nf t x.1 :: mkBlks gen ks bs.tail x.2
def lockOf (ks:List BlkK) (i:Nat):List Nat :=
  match ks with
  | []=>[]
  | .same :: r=>i :: lockOf r (i+1)
  | _ :: r=>lockOf r (i+1)
def Shape.mk' (s:Shape) (st:St) (x:s.den):St :=
  { tmps:=(mkSlots (genAt s.blks st.bl) s.slots st.tmps x).1,
    bl:=mkBlks (genAt s.blks st.bl) s.blks st.bl (mkSlots (genAt s.blks st.bl) s.slots st.tmps x).2,
    lock:=st.lock++lockOf s.blks 0 }
def shapeOf (kp:Keep) (ws:List Nat) (st:St):Shape:=⟨slotKinds kp ws st.bl 0 st.tmps,blkKinds kp st.lock st.bl 0 st.bl⟩
def iter {σ:Type} (step:(σ→Option ρ)→σ→Option ρ):Nat→σ→Option ρ
  | 0,_=>none
  | k+1,x=>step (iter step k) x
def evLoop (kp:Keep) (ws:List Nat) (k:Nat) (body:St→(Ex→St→Option ρ)→Option ρ) (st:St) (K:Ex→St→Option ρ):Option ρ :=
  match (shapeOf kp ws st).un st with
  | none=>none
  | some x=>iter (fun rec y=>body ((shapeOf kp ws st).mk' st y) fun e st'=>match e with
      | .normal=>(match (shapeOf kp ws st).un st' with
        | some z=>rec z
        | none=>none)
      | e=>K e { st' with lock:=st.lock }) k x
def firstRegion:Code→Nat
  | .region id _ _=>id
  | .seq a _=>firstRegion a
  | .block _ a=>firstRegion a
  | .loop a=>firstRegion a
  | _=>0
def evCalm (cx:Cx) (o:Oper) (st:St) (K:V→Option ρ):Option ρ :=
  match o.op with
  | .move _ | .assign _ | .pick _ _ _ | .load _ _ | .nilCheck _ | .fieldAddr _ _ _ | .field _ _ _ | .indexAddr _ _ _ | .index _ _ _ | .binOp _ _ _ _ _ | .unOp _ _ _ | .slice _ _ _ _ none | .convert _ _ _ | .extract _ _ | .build _ _=>evPure cx o st K
  | .call c=>match c.callee with
    | .builtin .len=>evPure cx o st K
    | .value (.func f)=>match cx.call f with
      | some s=>bif s.fresh then (match readArgs st.bl s.params (c.args.toList.map st.get) with
        | some x=>(s.sem x).bind fun r=>K (toValue (giveFlat s.res r))
        | none=>none) else none
      | none=>none
    | _=>none
  | .buildSlice t n ps=>match elemTy cx t with
    | some e=>bif Nat.ble (n*e.size) 16777216&&((rowsIn (ps.toList.map fun p=>st.get p.2)).isEmpty&&newAlone st.bl (ps.toList.flatMap fun p=>(st.get p.2).cells)) then (match fillElems e st ps.toList 0 n with
      | some l=>K (.at (.sl true e l))
      | none=>none) else none
    | none=>none
  | _=>none
def isAlloc (o:Oper):Bool :=
  match o.op with
  | .alloc _=>true
  | _=>false
noncomputable def evDraw (cx:Cx) (all:List Oper):List Oper→St→(St→Option ρ)→Option ρ
  | [],st,K=>K st
  | o :: r,st,K=>forceSt st fun st =>
    bif isAlloc o then evDraw cx all r (st.put o.dst V.undef) K else
    match o.guard with
    | none=>evCalm cx o st fun v=>evDraw cx all r (st.put o.dst v) K
    | some (j,want)=>match all[j]? with
      | some oj=>match oj.dst with
        | some d=>match st.tmps.getD d V.undef with
          | .at (.bool b) =>
            bif b then
              (bif want then evCalm cx o (st.put (some d) (.at (.bool true))) fun v=>evDraw cx all r ((st.put (some d) (.at (.bool true))).put o.dst v) K
               else evDraw cx all r ((st.put (some d) (.at (.bool true))).put o.dst V.skipped) K)
            else
              (bif want then evDraw cx all r ((st.put (some d) (.at (.bool false))).put o.dst V.skipped) K
               else evCalm cx o (st.put (some d) (.at (.bool false))) fun v=>evDraw cx all r ((st.put (some d) (.at (.bool false))).put o.dst v) K)
          | .tup []=>evDraw cx all r (st.put o.dst V.skipped) K
          | _=>none
        | none=>none
      | none=>none
def looked (o:Oper):List Nat:=o.op.operands.toList.filterMap fun
  | .tmp t=>some t
  | _=>none
def writer (all:List Oper) (t:Nat):Option Nat:=all.findIdx? fun o=>o.dst == some t
def edges (o:Oper):List Nat:=o.after.toList.filterMap fun e=>bif Region.binds .any e then some e.on else none
def allFrom {α:Type} (p:Nat→α→Bool):List α→Nat→Bool
  | [],_=>true
  | x :: r,i=>p i x&&allFrom p r (i+1)
def maskOf (acc:List Nat):List Nat→Nat
  | []=>0
  | e :: r=>(2 ^ e ||| acc.getD e 0) ||| maskOf acc r
def masks:List Oper→List Nat→List Nat
  | [],acc=>acc
  | o :: r,acc=>masks r (acc++[maskOf acc (edges o)])
def tailOf:List Nat→Nat→Nat
  | [],i=>i
  | k :: r,i=>bif k == 2 ^ i-1&&Nat.beq (tailOf r (i+1)) (i+1) then i else tailOf r (i+1)
def tailAt (all:List Oper):Nat:=tailOf (masks all []) 0
def allocAt (all:List Oper):Option Nat:=(all.take (tailAt all)).findIdx? isAlloc
def allocsOk (all:List Oper):Bool :=
  match allocAt all with
  | none=>true
  | some i0=>match all[i0]? with
    | some oa=>match oa.dst with
      | some d=>oa.guard.isNone&&allFrom (fun i o=>(i == i0)||(!isAlloc o && !(looked o).contains d)) (all.take (tailAt all)) 0 &&
          (all.all fun o=>match o.guard with | some (j,_)=>!(j == i0) | none=>true)
      | none=>false
    | none=>false
def drawCore (all:List Oper):Bool :=
  allFrom (fun i o =>
    (match o.dst with | some d=>writer all d == some i | none=>true) &&
    (o.after.toList.all fun e=>!Region.binds .any e||Nat.blt e.on i) &&
    ((looked o).all fun t=>match writer all t with | some j=>(edges o).contains j||(match all[j]? with | some oj=>(edges oj).contains i | none=>false) | none=>true) &&
    (match o.guard with | some (j,_)=>(edges o).contains j | none=>true)) all 0
def drawOk (all:List Oper):Bool:=drawCore all&&allocsOk all
def allocsFrom:List Oper→Nat→List Nat
  | [],_=>[]
  | o :: r,i=>bif isAlloc o then i :: allocsFrom r (i+1) else allocsFrom r (i+1)
def allocsAt (all:List Oper):List Nat:=allocsFrom (all.take (tailAt all)) 0
def extOf (t:Ty) (n:Nat):List Blk:=(openRows (zeroCells t) n).2++[.var (openRows (zeroCells t) n).1]
def newPtr (t:Ty) (n:Nat):V:=.at (.ptr (n+(openRows (zeroCells t) n).2.length) 0)
def grownSt (t:Ty) (d:Nat) (st:St):St:=({ st with bl:=st.bl++extOf t st.bl.length }).put (some d) (newPtr t st.bl.length)
def evGrow (cx:Cx) (all:List Oper) (st:St) (K:St→Option ρ):Option ρ :=
  match allocAt all with
  | none=>K st
  | some i0=>match all[i0]? with
    | some oa=>match oa.op with
      | .alloc t=>match oa.dst,cx.ty t with
        | some d,some t=>K (grownSt t d st)
        | _,_=>none
      | _=>none
    | none=>none
def growAt (cx:Cx) (all:List Oper) (i0:Nat) (st:St) (K:St→Option ρ):Option ρ :=
  match all[i0]? with
  | some oa=>match oa.op with
    | .alloc t=>match oa.dst,cx.ty t,oa.guard with
      | some d,some t,none=>K (grownSt t d st)
      | _,_,_=>none
    | _=>none
  | none=>none
def evGrows (cx:Cx) (all:List Oper):List Nat→St→(St→Option ρ)→Option ρ
  | [],st,K=>K st
  | i0 :: r,st,K=>evGrows cx all r st fun st=>growAt cx all i0 st K
def evPtr (s:PSpec) (args:List V) (st:St) (K:V→St→Option ρ):Option ρ :=
  match args with
  | .at (.ptr b 0) :: args=>match st.bl[b]? with
    | some (.var cs)=>bif !st.lock.contains b&&(rowsOf cs).isEmpty then (match s.ptr.ofCells false (cs.map (A.view st.bl)),readArgs st.bl s.params args with
      | some (x,[]),some xs=>(s.sem x xs).bind fun r =>
        match freezeAll st (rowsIn args) with
        | some st=>K (toValue (giveRes s.fresh s.res r.2 st.bl.length).1) { st with bl:=st.bl.set b (.var (s.ptr.cells false r.1))++(giveRes s.fresh s.res r.2 st.bl.length).2 }
        | none=>none
      | _,_=>none) else none
    | _=>none
  | _=>none
def ptrInl (cx:Cx):Inl ρ:=fun _ f args st K=>match cx.ptr f with
  | some s=>evPtr s args st K
  | none=>none
def isQuiet (o:Oper):Bool :=
  o.guard.isNone&&match o.op with
  | .move _ | .assign _ | .pick _ _ _ | .load _ _ | .nilCheck _ | .fieldAddr _ _ _ | .field _ _ _ | .indexAddr _ _ _ | .index _ _ _ | .binOp _ _ _ _ _ | .unOp _ _ _ | .slice _ _ _ _ none | .convert _ _ _ | .extract _ _ | .build _ _=>true
  | .call c=>match c.callee with
    | .builtin .len=>true
    | _=>false
  | _=>false
def killsOf (cx:Cx) (o:Oper):Bool × List Nat :=
  match o.op with
  | .call c=>match c.callee with
    | .builtin .append=>(true,[])
    | .value (.func f)=>match cx.call f,cx.ptr f with
      | none,some s=>(false,[s.ptr.size])
      | _,_=>(false,[])
    | _=>(false,[])
  | _=>(false,[])
def noKill (q:Bool × List Nat):Bool:=!q.1&&q.2.isEmpty
def killBlk (q:Bool × List Nat):Blk→Blk
  | .var cs=>bif q.2.contains cs.length then .dead else .var cs
  | .arr g own nf t l=>bif q.1 then .dead else .arr g own nf t l
  | .dead=>.dead
def lateSt (q:Bool × List Nat) (st:St):St:=bif noKill q then st else { st with bl:=st.bl.map (killBlk q) }
def isEarly (cx:Cx) (o:Oper):Bool :=
  isQuiet o||(o.guard.isNone&&match o.op with
  | .buildSlice _ _ _=>true
  | .call c=>match c.callee with
    | .value (.func f)=>(cx.call f).isSome||(cx.ptr f).isSome
    | .builtin .append=>true
    | _=>false
  | _=>false)
def loose (all:List Oper) (o:Oper) (e:Nat):Bool :=
  !((looked o).any fun t=>match writer all t with | some j=>Nat.beq j e | none=>false) &&
  (match o.dst,all[e]? with | some d,some oe=>!(looked oe).contains d | _,_=>true)
def floats (all:List Oper):List Oper→List Bool→List Bool
  | [],acc=>acc
  | o :: r,acc=>floats all r (acc++[isQuiet o&&(edges o).all fun e=>acc.getD e false||loose all o e])
def chainOk:List (Bool × Nat)→Nat→Nat→Bool
  | [],_,_=>true
  | (f,k) :: r,i,acc=>bif f then chainOk r (i+1) acc else Nat.beq (k &&& acc) acc&&chainOk r (i+1) (acc ||| 2 ^ i)
def skips (all:List Oper):List Bool:=((floats all all []).zip all).map fun p=>p.1||isAlloc p.2
def lateOne (cx:Cx):List (Oper × Nat)→Nat→Bool × List Nat
  | [],_=>(false,[])
  | p :: r,i=>bif p.2.testBit i then lateOne cx r i else ((killsOf cx p.1).1||(lateOne cx r i).1,(killsOf cx p.1).2++(lateOne cx r i).2)
def lateFrom (cx:Cx) (all:List (Oper × Nat)):Nat→Nat→List (Bool × List Nat)
  | 0,_=>[]
  | n+1,i=>lateOne cx all i :: lateFrom cx all n (i+1)
def lates (cx:Cx) (all:List Oper):List (Bool × List Nat):=bif (all.take (tailAt all)).any (fun o=>!noKill (killsOf cx o)) then lateFrom cx ((all.take (tailAt all)).zip (masks all [])) all.length 0 else []
def hrOk (cx:Cx) (all:List Oper):Bool :=
  drawCore all&&(chainOk ((skips all).zip (masks all [])) 0 0&&((skips all).zip (all.take (tailAt all))).all fun p=>p.1||isEarly cx p.2)
def isTake (o:Oper):Bool :=
  o.guard.isNone&&match o.op with
  | .extract (.tmp _) _=>true
  | .move (.tmp _)=>true
  | _=>false
def takeOk (all:List Oper) (f:Nat) (o:Oper):Bool :=
  isTake o&&allFrom (fun j oj=>Nat.beq j f||(edges o).contains j||(edges oj).contains f||o.apart all.toArray oj) all 0
def moreFor (all:List Oper) (i:Nat) (o:Oper):List Oper→Nat→List Nat
  | [],_=>[]
  | of :: r,f=>bif isTake of&&Nat.blt f i && !(edges o).contains f&&(edges of).all (fun e=>(edges o).contains e)&&takeOk all f of then f :: moreFor all i o r (f+1) else moreFor all i o r (f+1)
def moreOp (all:List Oper) (i:Nat) (o:Oper):Oper:={ o with after:=o.after++((moreFor all i o all 0).map fun f=>({ on:=f,ground:=.data }:Edge)).toArray }
def moreOps (ops:Array Oper):Array Oper:=(ops.toList.mapIdx fun i o=>moreOp ops.toList i o).toArray
def noSelect (all:List Oper):Bool:=all.all fun o=>match o.op with | .select _ _=>false | _=>true
def moreOk (all:List Oper):Bool:=noSelect all&&all.any isTake
noncomputable def evFloat (cx:Cx):List (Bool × List Nat)→List (Bool × Oper)→St→(St→Option ρ)→Option ρ
  | _,[],st,K=>K st
  | ls,(b,o) :: r,st,K=>forceSt st fun st=>bif b then evPure cx o (lateSt (ls.headD (false,[])) st) fun v=>evFloat cx ls.tail r (st.put o.dst v) K else evFloat cx ls.tail r st K
noncomputable def evEarly (cx:Cx):List (Bool × Oper)→St→(St→Option ρ)→Option ρ
  | [],st,K=>K st
  | (b,o) :: r,st,K=>forceSt st fun st =>
    bif b then evEarly cx r st K else
    bif isAlloc o then evEarly cx r (st.put o.dst V.undef) K else
    bif isQuiet o then evPure cx o st fun v=>evEarly cx r (st.put o.dst v) K
    else evOp cx (ptrInl cx) [] o st fun v st=>evEarly cx r (st.put o.dst v) K
noncomputable def evHr (cx:Cx) (inl:Inl ρ) (path:List Nat) (ops:Array Oper) (st:St) (K:St→Option ρ):Option ρ :=
  evFloat cx (lates cx ops.toList) ((floats ops.toList ops.toList []).zip (ops.toList.take (tailAt ops.toList))) st fun st=>evEarly cx ((floats ops.toList ops.toList []).zip (ops.toList.take (tailAt ops.toList))) st fun st =>
    evGrows cx ops.toList (allocsAt ops.toList) st fun st=>evOps cx inl path ops.toList (ops.toList.drop (tailAt ops.toList)) st K
def clearPair (o p:Oper):Option (TypeId × Tmp × Tmp × Tmp) :=
  match p.op with
  | .call c=>match c.callee with
    | .builtin .clear=>match o.op,o.dst,c.args.toList,c.argTypes.toList with
      | .slice tS (.tmp x) (some (.tmp lo)) none none,some d,[.tmp d'],[tS']=>bif Nat.beq d d'&&Nat.beq tS tS'&&o.guard.isNone&&p.guard.isNone&&p.dst.isNone then some (tS,x,lo,d) else none
      | _,_,_,_=>none
    | _=>none
  | _=>none
def clearAt:List Oper→Option (List Oper × (TypeId × Tmp × Tmp × Tmp))
  | []=>none
  | o :: r=>match r with
    | [p]=>match clearPair o p with
      | some q=>some ([],q)
      | none=>none
    | _=>match clearAt r with
      | some q=>bif o.guard.isNone then some (o :: q.1,q.2) else none
      | none=>none
def evClear (cx:Cx) (q:TypeId × Tmp × Tmp × Tmp) (st:St) (K:St→Option ρ):Option ρ :=
  match st.tmps.getD q.2.1 V.undef,st.tmps.getD q.2.2.1 V.undef,elemTy cx q.1 with
  | .at (.os b g),.at (.int .i64 i),some e=>match st.bl[b]? with
    | some (.arr g' true nf t l)=>bif g == g' && !st.lock.contains b&&t.flat&&(Ty.eq? t e).isSome&&Nat.blt q.2.2.2 st.tmps.length then
        (bif decide (0≤i∧i<(l.length:Int)) then K ({ st with bl:=st.bl.set b (.arr g true nf t (l.take i.toNat++List.replicate (l.length-i.toNat) t.zero)) }.put (some q.2.2.2) V.undef) else none) else none
    | _=>none
  | _,_,_=>none
noncomputable def evCode (cx:Cx) (inl:Inl ρ) (path:List Nat):Code→St→(Ex→St→Option ρ)→Option ρ
  | .skip,st,K=>K .normal st
  | .region _ ops draw,st,K=>bif draw then (bif hrOk cx ops.toList then evHr cx inl path ops st (K .normal) else bif moreOk ops.toList&&hrOk cx (moreOps ops).toList then evHr cx inl path (moreOps ops) st (K .normal) else bif drawOk ops.toList then evDraw cx ops.toList (ops.toList.take (tailAt ops.toList)) st fun st=>evGrow cx ops.toList st fun st=>evOps cx inl path ops.toList (ops.toList.drop (tailAt ops.toList)) st (K .normal) else none) else match clearAt ops.toList with
      | some q=>evOps cx inl path ops.toList q.1 st fun st=>evClear cx q.2 st (K .normal)
      | none=>evOps cx inl path ops.toList ops.toList st (K .normal)
  | .seq a b,st,K=>evCode cx inl path a st fun e st=>match e with
    | .normal=>evCode cx inl path b st K
    | e=>K e st
  | .cond (.tmp t) a b,st,K=>match st.tmps.getD t V.undef with
    | .at (.bool c)=>bif c then evCode cx inl path a (st.put (some t) (.at (.bool true))) K else evCode cx inl path b (st.put (some t) (.at (.bool false))) K
    | _=>none
  | .block id a,st,K=>evCode cx inl path a st fun e st=>match e with
    | .exit i=>bif i == id then K .normal st else K (.exit i) st
    | e=>K e st
  | .loop a,st,K=>evLoop (cx.keep path (firstRegion a)) (Code.writes a) cx.k (evCode cx inl path a) st K
  | .exit id,st,K=>K (.exit id) st
  | .ret,st,K=>K .ret st
  | _,_,_=>none
def resOf (bl:List Blk) (cx:Cx) (st:St):List ResultVar→Option (List (Bool × List A))
  | []=>some []
  | .tmp t :: r=>match st.tmps.getD t V.undef,resOf bl cx st r with
    | .at .undef,_=>none
    | .at x,some vs=>some ((false,[x]) :: vs)
    | .agg cs,some vs=>some ((true,cs) :: vs)
    | _,_=>none
  | .cell a t :: r=>match cx.ty t,cellsAt bl (st.tmps.getD a V.undef),resOf bl cx st r with
    | some t,some (cs,off),some vs=>bif Nat.ble (off+t.size) cs.length then (match takeOut t cs off with
      | .at .undef=>none
      | .at x=>some ((false,[x]) :: vs)
      | .agg cs=>some ((true,cs) :: vs)
      | _=>none) else none
    | _,_,_=>none
def enter (n:Nat) (args:List V):List V:=args++List.replicate (n-args.length) V.undef
def evRow (s:RSpec) (args:List V) (st:St) (K:V→St→Option ρ):Option ρ :=
  match args with
  | .at (.os b g) :: args=>match readArgs st.bl s.params args,freezeAll st (rowsIn args) with
    | some xs,some st1=>match st1.bl[b]? with
      | some (.arr g' true nf t l)=>bif g == g' && !st1.lock.contains b then (match Ty.eq? t s.t with
        | some ⟨h⟩=>(s.sem (h ▸ l) xs).bind fun l'=>K (.at (.os b (g+1))) { st1 with bl:=st1.bl.set b (.arr (g+1) true nf s.t l') }
        | none=>none) else none
      | _=>none
    | _,_=>none
  | _=>none
noncomputable def evInl (cx:Cx):Nat→Inl ρ
  | 0=>fun _ _ _ _ _=>none
  | d+1=>fun path f args st K=>match cx.ptr f,cx.row f with
    | some s,_=>evPtr s args st K
    | none,some s=>evRow s args st K
    | none,none=>match cx.body f with
      | some fn=>match fn.body with
        | some c=>evCode cx (evInl cx d) path c { st with tmps:=enter fn.ntmps args } fun e st'=>match e with
          | .exit _=>none
          | _=>match resOf st'.bl cx st' fn.results.toList with
            | some vs=>K (toValue vs) { st' with tmps:=st.tmps }
            | none=>none
        | none=>none
      | none=>none
def ownRefs (bl:List Blk):List A→Option (List (Option Nat))
  | []=>some []
  | .sl _ _ _ :: _=>none
  | .old _ _ :: _=>none
  | .nil _ :: r=>match ownRefs bl r with
    | some bs=>some (none :: bs)
    | none=>none
  | .os b g :: r=>match bl[b]?,ownRefs bl r with
    | some (.arr g' true _ _ _),some bs=>bif g == g' then some (some b :: bs) else none
    | _,_=>none
  | _ :: r=>ownRefs bl r
def takeOne (fresh:Bool) (bl:List Blk) (t:Ty × Bool) (v:Bool × List A):Option (t.1.den × List (Option Nat) × List Nat) :=
  bif v.1 == t.1.isAgg then (match t.1.ofCells fresh (v.2.map (A.view bl)) with
    | some (x,[])=>bif t.2 then (match ownRefs bl v.2 with | some bs=>some (x,bs,[]) | none=>none) else some (x,[],rowsOf v.2)
    | _=>none) else none
def takeRes (fresh:Bool) (bl:List Blk):(ts:List (Ty × Bool))→List (Bool × List A)→Option (denR ts × List (Option Nat) × List Nat)
  | [],[]=>some ((),[],[])
  | [t],[v]=>takeOne fresh bl t v
  | t :: u :: r,v :: vs=>match takeOne fresh bl t v,takeRes fresh bl (u :: r) vs with
    | some x,some y=>some ((x.1,y.1),x.2.1++y.2.1,x.2.2++y.2.2)
    | _,_=>none
  | _,_=>none
def theRows:List (Option Nat)→List Nat
  | []=>[]
  | some b :: r=>b :: theRows r
  | none :: r=>theRows r
def giveArgs:(ts:List Ty)→denL ts→List V
  | [],_=>[]
  | t :: ts,x=>t.toV false x.1 :: giveArgs ts x.2
def endFn (cx:Cx) (fn:Func) (res:List (Ty × Bool)) (fresh:Bool) (st':St):Option (denR res) :=
  match resOf st'.bl cx st' fn.results.toList with
  | some vs=>match takeRes fresh st'.bl res vs with
    | some y=>bif apartAll (theRows y.2.1)&&(theRows y.2.1).all (fun b=>!y.2.2.contains b) then some y.1 else none
    | none=>none
  | none=>none
noncomputable def evFn (cx:Cx) (d:Nat) (fn:Func) (params:List Ty) (res:List (Ty × Bool)) (fresh:Bool) (x:denL params):Option (denR res) :=
  match fn.body with
  | some c=>evCode cx (evInl cx d) [] c { tmps:=enter fn.ntmps (giveArgs params x),bl:=[],lock:=[] } fun e st'=>match e with
    | .exit _=>none
    | _=>endFn cx fn res fresh st'
  | none=>none
end
end Go.Proofs.YtnohkcklakipoaaGreatDoor.Ev
namespace Go.Proofs.YtnohkcklakipoaaGreatDoor.Ev
open Go Go.RowKit
set_option linter.unusedVariables false
set_option linter.unusedSimpArgs false
theorem Ty.size_pos:∀ t:Ty,1≤t.size
  | .int _ | .bool | .str | .err | .adr | .slice _=>Nat.le_refl 1
  | .pair a b=>by have:=Ty.size_pos a;simp only [Ty.size];omega
  | .struct b=>by have:=Ty.size_pos b;simpa only [Ty.size] using this
def Holds (w:World) (S:Nat→Prop):(t:Ty)→t.den→List Value→Prop
  | .int k,n,vs=>vs=[.int k n]
  | .bool,b,vs=>vs=[.bool b]
  | .str,s,vs=>vs=[.string s]
  | .err,b,vs=>∃ v,vs=[v]∧(match b with | true=>∃ t u,v = .iface t u | false=>v = .nilIface)
  | .adr,_,vs=>∃ v,vs=[v]∧v.oneCell'=true
  | .slice e,l,vs=>∃ a cap,vs=[.slice a l.length cap]∧l.length≤cap ∧
      ∀ i (h:i<l.length),∃ blk off cs,a=some ⟨blk,off,none⟩∧S blk∧Holds w S e l[i] cs ∧
        ∀ j c,cs[j]? = some c→w.cell? ⟨blk,off+i*e.size+j,none⟩=some c
  | .pair a b,x,vs=>∃ us ws,vs=us++ws∧Holds w S a x.1 us∧Holds w S b x.2 ws
  | .struct b,x,vs=>Holds w S b x vs
theorem Holds.length {w:World} {S:Nat→Prop}:∀ {t:Ty} {x:t.den} {vs:List Value},Holds w S t x vs→vs.length=t.size
  | .int _,_,_,h=>by simp only [Holds] at h;subst h;rfl
  | .bool,_,_,h=>by simp only [Holds] at h;subst h;rfl
  | .str,_,_,h=>by simp only [Holds] at h;subst h;rfl
  | .err,_,_,h=>by simp only [Holds] at h;obtain ⟨v,rfl,_⟩:=h;rfl
  | .adr,_,_,h=>by simp only [Holds] at h;obtain ⟨v,rfl,_⟩:=h;rfl
  | .slice _,_,_,h=>by simp only [Holds] at h;obtain ⟨a,cap,rfl,_⟩:=h;rfl
  | .pair a b,x,_,h=>by
    simp only [Holds] at h
    obtain ⟨us,ws,rfl,h1,h2⟩:=h
    simp only [List.length_append,Ty.size,h1.length,h2.length]
  | .struct b,x,_,h=>by simp only [Holds] at h;simpa only [Ty.size] using h.length (t:=b)
theorem cell_block {w:World} {b o:Nat} {v:Value} (h:w.cell? ⟨b,o,none⟩=some v):b<w.heap.size:=by
  unfold World.cell? at h
  rcases Nat.lt_or_ge b w.heap.size with g | g
  · exact g
  · rw [Array.getElem?_eq_none (by simpa using g)] at h;simp at h
theorem cell_same {w w':World} {b:Nat} (h:w'.heap[b]? = w.heap[b]?) (o:Nat):w'.cell? ⟨b,o,none⟩=w.cell? ⟨b,o,none⟩:=by
  unfold World.cell?;simp only [h]
theorem Holds.mono {w w':World} {S S':Nat→Prop} (hS:∀ k,S k→k<w.heap.size→S' k∧w'.heap[k]? = w.heap[k]?) :
    ∀ {t:Ty} {x:t.den} {vs:List Value},Holds w S t x vs→Holds w' S' t x vs
  | .int _,_,_,h=>h
  | .bool,_,_,h=>h
  | .str,_,_,h=>h
  | .err,_,_,h=>h
  | .adr,_,_,h=>h
  | .slice e,l,vs,h=>by
    simp only [Holds] at h ⊢
    obtain ⟨a,cap,hv,hc,he⟩:=h
    refine ⟨a,cap,hv,hc,fun i hi=>?_⟩
    obtain ⟨blk,off,cs,ha,hs,hh,hcell⟩:=he i hi
    have hlen:=hh.length
    have hpos:=e.size_pos
    have hblk:blk<w.heap.size:=by
      cases cs with
      | nil=>simp at hlen;omega
      | cons c r=>exact cell_block (hcell 0 c rfl)
    have:=hS blk hs hblk
    exact ⟨blk,off,cs,ha,this.1,hh.mono hS,fun j c hj=>(cell_same this.2 _).trans (hcell j c hj)⟩
  | .pair a b,x,vs,h=>by
    simp only [Holds] at h ⊢
    obtain ⟨us,ws,e,h1,h2⟩:=h
    exact ⟨us,ws,e,h1.mono hS,h2.mono hS⟩
  | .struct b,x,vs,h=>by simp only [Holds] at h ⊢;exact Holds.mono hS (t:=b) h
theorem Holds.weaken {w:World} {S S':Nat→Prop} (hS:∀ k,S k→k<w.heap.size→S' k) {t:Ty} {x:t.den} {vs:List Value} (h:Holds w S t x vs):Holds w S' t x vs :=
  h.mono fun k hk hlt=>⟨hS k hk hlt,rfl⟩
theorem Holds.flat {w:World} {S S':Nat→Prop}:∀ {t:Ty} {x:t.den} {vs:List Value},t.flat=true→Holds w S t x vs→Holds w S' t x vs
  | .int _,_,_,_,h=>h
  | .bool,_,_,_,h=>h
  | .str,_,_,_,h=>h
  | .err,_,_,hf,_=>by simp [Ty.flat] at hf
  | .adr,_,_,hf,_=>by simp [Ty.flat] at hf
  | .slice e,l,vs,hf,h=>by simp [Ty.flat] at hf
  | .pair a b,x,vs,hf,h=>by
    simp only [Ty.flat,Bool.and_eq_true] at hf
    simp only [Holds] at h ⊢
    obtain ⟨us,ws,e,h1,h2⟩:=h
    exact ⟨us,ws,e,h1.flat hf.1,h2.flat hf.2⟩
  | .struct b,x,vs,hf,h=>by simp only [Ty.flat] at hf;simp only [Holds] at h ⊢;exact Holds.flat (t:=b) hf h
def All2 {α β:Type} (R:α→β→Prop):List α→List β→Prop
  | [],[]=>True
  | a :: as,b :: bs=>R a b∧All2 R as bs
  | _,_=>False
theorem All2.imp {α β:Type} {R R':α→β→Prop} (h:∀ a b,R a b→R' a b):∀ {as:List α} {bs:List β},All2 R as bs→All2 R' as bs
  | [],[],_=>trivial
  | _ :: _,_ :: _,hr=>⟨h _ _ hr.1,All2.imp h hr.2⟩
  | [],_ :: _,hr=>hr.elim
  | _ :: _,[],hr=>hr.elim
theorem All2.length {α β:Type} {R:α→β→Prop}:∀ {as:List α} {bs:List β},All2 R as bs→as.length=bs.length
  | [],[],_=>rfl
  | _ :: _,_ :: _,hr=>congrArg (· + 1) (All2.length hr.2)
  | [],_ :: _,hr=>hr.elim
  | _ :: _,[],hr=>hr.elim
theorem All2.get {α β:Type} {R:α→β→Prop}:∀ {as:List α} {bs:List β},All2 R as bs→∀ {i:Nat} {a:α},as[i]? = some a→∃ b,bs[i]? = some b∧R a b
  | [],[],_,i,a,h=>by simp at h
  | x :: as,y :: bs,hr,0,a,h=>by simp at h;subst h;exact ⟨y,rfl,hr.1⟩
  | x :: as,y :: bs,hr,i+1,a,h=>by simp at h;simpa using All2.get hr.2 h
  | [],_ :: _,hr,_,_,_=>hr.elim
  | _ :: _,[],hr,_,_,_=>hr.elim
theorem All2.append {α β:Type} {R:α→β→Prop}:∀ {as:List α} {bs:List β} {as':List α} {bs':List β},All2 R as bs→All2 R as' bs'→All2 R (as++as') (bs++bs')
  | [],[],_,_,_,h=>h
  | _ :: _,_ :: _,_,_,h,h'=>⟨h.1,All2.append h.2 h'⟩
  | [],_ :: _,_,_,h,_=>h.elim
  | _ :: _,[],_,_,h,_=>h.elim
theorem All2.drop {α β:Type} {R:α→β→Prop}:∀ {as:List α} {bs:List β} (n:Nat),All2 R as bs→All2 R (as.drop n) (bs.drop n)
  | _,_,0,h=>by simpa using h
  | [],[],n+1,h=>by simpa using h
  | _ :: _,_ :: _,n+1,h=>by simpa using All2.drop n h.2
  | [],_ :: _,_+1,h=>h.elim
  | _ :: _,[],_+1,h=>h.elim
theorem All2.take {α β:Type} {R:α→β→Prop}:∀ {as:List α} {bs:List β} (n:Nat),All2 R as bs→All2 R (as.take n) (bs.take n)
  | _,_,0,h=>by simp [All2]
  | [],[],n+1,h=>by simp [All2]
  | _ :: _,_ :: _,n+1,h=>⟨h.1,All2.take n h.2⟩
  | [],_ :: _,_+1,h=>h.elim
  | _ :: _,[],_+1,h=>h.elim
theorem All2.set {α β:Type} {R:α→β→Prop}:∀ {as:List α} {bs:List β} (n:Nat) {a:α} {b:β},All2 R as bs→R a b→All2 R (as.set n a) (bs.set n b)
  | [],[],_,_,_,h,_=>by simpa using h
  | _ :: _,_ :: _,0,_,_,h,hr=>⟨hr,h.2⟩
  | _ :: _,_ :: _,n+1,_,_,h,hr=>⟨h.1,All2.set n h.2 hr⟩
  | [],_ :: _,_,_,_,h,_=>h.elim
  | _ :: _,[],_,_,_,h,_=>h.elim
theorem All2.of_get {α β:Type} {R:α→β→Prop}:∀ {as:List α} {bs:List β},as.length=bs.length→(∀ (i:Nat) (a:α) (b:β),as[i]? = some a→bs[i]? = some b→R a b)→All2 R as bs
  | [],[],_,_=>trivial
  | a :: as,b :: bs,hl,h=>⟨h 0 a b rfl rfl,All2.of_get (by simpa using hl) fun i x y hx hy=>h (i+1) x y (by simpa using hx) (by simpa using hy)⟩
  | [],_ :: _,hl,_=>by simp at hl
  | _ :: _,[],hl,_=>by simp at hl
abbrev Lie:=Nat→Option (Nat × Nat)
def mine (bl:List Blk) (b:Nat):Prop :=
  match bl[b]? with
  | some (.var _)=>True
  | some (.arr _ own _ _ _)=>own=true
  | _=>False
def Own (μ:Lie) (bl:List Blk) (k:Nat):Prop:=∃ b c,μ b=some (k,c)∧mine bl b
structure Env where
  B:Nat
  N:Nat→Prop
  hN:∀ k,B≤k→N k
  S0:Nat→Prop
  G:World→Prop
abbrev Env.of (B:Nat) (S:Nat→Prop) (G:World→Prop):Env:=⟨B,fun k=>B≤k,fun _ h=>h,S,G⟩
structure Env.Apart (E:Env) (w w':World):Prop where
  os:w'.os=w.os
  tape:w'.tape=w.tape
  output:w'.output=w.output
  size:w.heap.size≤w'.heap.size
  block:∀ k,k<w.heap.size→¬ E.N k→w'.heap[k]? = w.heap[k]?
theorem Env.Apart.refl (E:Env) (w:World):E.Apart w w:=⟨rfl,rfl,rfl,Nat.le_refl _,fun _ _ _=>rfl⟩
theorem Env.Apart.trans {E:Env} {a b c:World} (h:E.Apart a b) (k:E.Apart b c):E.Apart a c :=
  ⟨k.os.trans h.os,k.tape.trans h.tape,k.output.trans h.output,Nat.le_trans h.size k.size,fun i hi hn=>(k.block i (Nat.lt_of_lt_of_le hi h.size) hn).trans (h.block i hi hn)⟩
theorem Env.Apart.below {E:Env} {w w':World} (h:Below w.heap.size w w'):E.Apart w w':=⟨h.os,h.tape,h.output,h.size,fun k hk _=>h.block k hk⟩
theorem Env.Apart.of {w w':World} {S:Nat→Prop} {G:World→Prop} (h:(Env.of w.heap.size S G).Apart w w'):Below w.heap.size w w' :=
  ⟨h.os,h.tape,h.output,h.size,fun k hk=>h.block k hk (by show ¬ w.heap.size≤k;omega)⟩
def Env.D (E:Env) (μ:Lie) (bl:List Blk) (fr:Bool) (k:Nat):Prop:=(E.N k∨(fr=false∧E.S0 k))∧¬ Own μ bl k
def Env.O (E:Env) (μ:Lie) (bl:List Blk) (k:Nat):Prop:=(¬ E.N k∧E.S0 k)∧¬ Own μ bl k
theorem Env.O_D {E:Env} {μ:Lie} {bl:List Blk} {k:Nat} (h:E.O μ bl k):E.D μ bl false k:=⟨Or.inr ⟨rfl,h.1.2⟩,h.2⟩
def isPtr (μ:Lie) (bl:List Blk) (b off:Nat) (v:Value):Prop :=
  (v.oneCell'=true∧b<bl.length)∧∀ cs,bl[b]? = some (.var cs)→∃ k c,μ b=some (k,c)∧v = .pointer (some ⟨k,off,none⟩)
def RowVal (m:Option (Nat × Nat)) (n:Nat) (v:Value):Prop :=
  match m with
  | none=>v = .slice none 0 0∧n=0
  | some (k,cap)=>v = .slice (some ⟨k,0,none⟩) n cap
def RepA (E:Env) (w:World) (μ:Lie) (bl:List Blk):A→Value→Prop
  | .undef,v=>v.oneCell'=true
  | .int k n,v=>v = .int k n
  | .bool b,v=>v = .bool b
  | .str s,v=>v = .string s
  | .err b,v=>match b with | true=>∃ t u,v = .iface t u | false=>v = .nilIface
  | .sl fr t l,v=>Holds w (E.D μ bl fr) (.slice t) l [v]
  | .os b g,v=>(v.oneCell'=true∧b<bl.length)∧∀ g' own nf t l,bl[b]? = some (.arr g' own nf t l)→g≤g'∧(g=g'→RowVal (μ b) l.length v)
  | .ptr b off,v=>isPtr μ bl b off v
  | .ep b g i off,v=>(v.oneCell'=true∧b<bl.length)∧∀ g' own nf t l,bl[b]? = some (.arr g' own nf t l)→g≤g'∧(g=g'→i<l.length∧∃ k c,μ b=some (k,c)∧v = .pointer (some ⟨k,i*t.size+off,none⟩))
  | .pp fr t x off,v=>∃ blk base cs,v = .pointer (some ⟨blk,base+off,none⟩)∧E.D μ bl fr blk∧Holds w (E.D μ bl fr) t x cs ∧
      ∀ j c,cs[j]? = some c→w.cell? ⟨blk,base+j,none⟩=some c
  | .fn f caps,v=>∃ vs:List Value,v = .func (.func f) #[] vs.toArray∧All2 (fun (p:Nat × Nat) u=>isPtr μ bl p.1 p.2 u) caps vs
  | .nil t,v=>v = .slice none 0 0
  | .old t l,v=>Holds w (E.O μ bl) (.slice t) l [v]
def RepAs (E:Env) (w:World) (μ:Lie) (bl:List Blk) (cs:List A) (vs:List Value):Prop:=All2 (RepA E w μ bl) cs vs
def RepV (E:Env) (w:World) (μ:Lie) (bl:List Blk):V→Value→Prop
  | .at .undef,_=>True
  | .at x,v=>RepA E w μ bl x v
  | .agg cs,v=>∃ vs:List Value,v = .agg vs.toArray∧RepAs E w μ bl cs vs
  | .tup xs,v=>∃ vs:List Value,v = .tuple vs.toArray∧All2 (fun (x:Bool × List A) u=>match x.1 with
      | true=>∃ us:List Value,u = .agg us.toArray∧RepAs E w μ bl x.2 us
      | false=>RepAs E w μ bl x.2 [u]) xs vs
def unfrozen (vals:Array Value) (fz:Nat × Nat):Prop:=∀ i,i<vals.size→¬ (fz.1≤i∧i<fz.2)
def Elems (w:World) (S:Nat→Prop) (t:Ty) (l:List t.den) (vals:List Value):Prop :=
  ∀ i (h:i<l.length),Holds w S t l[i] ((vals.drop (i*t.size)).take t.size)
def RepB (E:Env) (w:World) (μ:Lie) (bl:List Blk) (b:Nat):Blk→Prop
  | .var cs=>∃ k c vals ty fz,μ b=some (k,c)∧E.N k∧w.heap[k]? = some (.cells vals ty fz)∧unfrozen vals fz∧RepAs E w μ bl cs vals.toList
  | .arr g own nf t l=>(μ b=none∧l=[])∨∃ k cap vals ty fz,μ b=some (k,cap)∧E.N k∧w.heap[k]? = some (.cells vals ty fz)∧unfrozen vals fz ∧
      l.length≤cap∧vals.size=cap*t.size∧Elems w (E.D μ bl nf) t l vals.toList
  | .dead=>True
def alive (bl:List Blk) (b:Nat):Prop :=
  match bl[b]? with
  | some (.var _)=>True
  | some (.arr _ _ _ _ _)=>True
  | _=>False
structure Mem (E:Env) (w0 w:World) (μ:Lie) (bl:List Blk):Prop where
  start:∀ w',E.Apart w0 w'→E.G w'
  below:E.Apart w0 w
  big:E.B≤w.heap.size
  blocks:∀ b blk,bl[b]? = some blk→RepB E w μ bl b blk
  apart:∀ b b' k c c',μ b=some (k,c)→μ b'=some (k,c')→alive bl b→alive bl b'→b=b'
theorem alive_lt {bl:List Blk} {b:Nat} (h:alive bl b):b<bl.length:=by
  rcases Nat.lt_or_ge b bl.length with g | g
  · exact g
  · unfold alive at h;rw [List.getElem?_eq_none g] at h;exact h.elim
theorem mine_alive {bl:List Blk} {b:Nat} (h:mine bl b):alive bl b:=by
  unfold mine at h;unfold alive
  split <;> simp_all
theorem RepV.at {E:Env} {w:World} {μ:Lie} {bl:List Blk} {x:A} {v:Value} (h:RepA E w μ bl x v):RepV E w μ bl (.at x) v:=by
  cases x <;> first | trivial | exact h
theorem RepA.one {E:Env} {w:World} {μ:Lie} {bl:List Blk}:∀ {x:A} {v:Value},RepA E w μ bl x v→v.oneCell'=true
  | .undef,_,h=>h
  | .int _ _,_,h=>by simp only [RepA] at h;subst h;rfl
  | .bool _,_,h=>by simp only [RepA] at h;subst h;rfl
  | .str _,_,h=>by simp only [RepA] at h;subst h;rfl
  | .err b,_,h=>by
    cases b with
    | true=>obtain ⟨t,u,rfl⟩:=h;rfl
    | false=>have h:_=Value.nilIface:=h;subst h;rfl
  | .sl fr t l,_,h=>by simp only [RepA,Holds] at h;obtain ⟨ad,cap,e,_⟩:=h;simp only [List.cons.injEq,and_true] at e;subst e;rfl
  | .os _ _,_,h=>h.1.1
  | .ptr _ _,_,h=>h.1.1
  | .ep _ _ _ _,_,h=>h.1.1
  | .pp fr t x off,_,h=>by obtain ⟨_,_,_,rfl,_⟩:=h;rfl
  | .fn f caps,_,h=>by obtain ⟨_,rfl,_⟩:=h;rfl
  | .nil t,_,h=>by have h:_=Value.slice none 0 0:=h;subst h;rfl
  | .old t l,_,h=>by simp only [RepA,Holds] at h;obtain ⟨ad,cap,e,_⟩:=h;simp only [List.cons.injEq,and_true] at e;subst e;rfl
structure Evo (w:World) (μ:Lie) (bl:List Blk) (w':World) (μ':Lie) (bl':List Blk):Prop where
  len:bl.length≤bl'.length
  size:w.heap.size≤w'.heap.size
  var:∀ b cs,b<bl.length→bl'[b]? = some (.var cs)→(∃ cs',bl[b]? = some (.var cs'))∧μ' b=μ b
  arr:∀ b g own nf t l,b<bl.length→bl'[b]? = some (.arr g own nf t l) →
    ∃ g' own' nf' l',bl[b]? = some (.arr g' own' nf' t l')∧g'≤g∧(g'=g→l'.length=l.length∧μ' b=μ b)
  heap:∀ k,k<w.heap.size→¬ Own μ bl k→w'.heap[k]? = w.heap[k]?
  own:∀ k,Own μ' bl' k→k<w.heap.size→Own μ bl k
theorem Evo.refl (w:World) (μ:Lie) (bl:List Blk):Evo w μ bl w μ bl :=
  ⟨Nat.le_refl _,Nat.le_refl _,fun _ cs _ h=>⟨⟨cs,h⟩,rfl⟩,fun _ g own nf t l _ h=>⟨g,own,nf,l,h,Nat.le_refl _,fun _=>⟨rfl,rfl⟩⟩,fun _ _ _=>rfl,fun _ h _=>h⟩
theorem Evo.D {E:Env} {w w':World} {μ μ':Lie} {bl bl':List Blk} (h:Evo w μ bl w' μ' bl') {fr:Bool} :
    ∀ k,E.D μ bl fr k→k<w.heap.size→E.D μ' bl' fr k∧w'.heap[k]? = w.heap[k]? :=
  fun k hk hlt=>⟨⟨hk.1,fun ho=>hk.2 (h.own k ho hlt)⟩,h.heap k hlt hk.2⟩
theorem Evo.isPtr {w w':World} {μ μ':Lie} {bl bl':List Blk} (h:Evo w μ bl w' μ' bl') {b off:Nat} {v:Value} (hp:isPtr μ bl b off v):isPtr μ' bl' b off v:=by
  refine ⟨⟨hp.1.1,Nat.lt_of_lt_of_le hp.1.2 h.len⟩,fun cs hcs=>?_⟩
  obtain ⟨⟨cs',hcs'⟩,hμ⟩:=h.var b cs hp.1.2 hcs
  rw [hμ];exact hp.2 cs' hcs'
theorem Evo.rep {E:Env} {w w':World} {μ μ':Lie} {bl bl':List Blk} (h:Evo w μ bl w' μ' bl'):∀ {x:A} {v:Value},RepA E w μ bl x v→RepA E w' μ' bl' x v
  | .undef,_,hr=>hr
  | .int _ _,_,hr=>hr
  | .bool _,_,hr=>hr
  | .str _,_,hr=>hr
  | .err _,_,hr=>hr
  | .sl fr t l,v,hr=>Holds.mono (h.D (E:=E)) (t:=.slice t) hr
  | .os b g,v,hr=>by
    refine ⟨⟨hr.1.1,Nat.lt_of_lt_of_le hr.1.2 h.len⟩,fun g' own nf t l hb=>?_⟩
    obtain ⟨g0,own0,nf0,l0,hb0,hg,he⟩:=h.arr b g' own nf t l hr.1.2 hb
    obtain ⟨h1,h2⟩:=hr.2 _ _ _ _ _ hb0
    refine ⟨Nat.le_trans h1 hg,fun e=>?_⟩
    subst e
    obtain rfl:g=g0:=by omega
    obtain ⟨e1,e2⟩:=he rfl
    rw [e2,← e1];exact h2 rfl
  | .ptr b off,v,hr=>h.isPtr hr
  | .ep b g i off,v,hr=>by
    refine ⟨⟨hr.1.1,Nat.lt_of_lt_of_le hr.1.2 h.len⟩,fun g' own nf t l hb=>?_⟩
    obtain ⟨g0,own0,nf0,l0,hb0,hg,he⟩:=h.arr b g' own nf t l hr.1.2 hb
    obtain ⟨h1,h2⟩:=hr.2 _ _ _ _ _ hb0
    refine ⟨Nat.le_trans h1 hg,fun e=>?_⟩
    subst e
    obtain rfl:g=g0:=by omega
    obtain ⟨e1,e2⟩:=he rfl
    rw [e2,← e1];exact h2 rfl
  | .pp fr t x off,v,hr=>by
    obtain ⟨blk,base,cs,hv,hd,hh,hc⟩:=hr
    have hlen:=hh.length
    have hpos:=t.size_pos
    have hblk:blk<w.heap.size:=by
      cases cs with
      | nil=>simp at hlen;omega
      | cons c r=>exact cell_block (hc 0 c rfl)
    have hD:=h.D (E:=E) (fr:=fr) blk hd hblk
    exact ⟨blk,base,cs,hv,hD.1,hh.mono (h.D (E:=E)),fun j c hj=>(cell_same hD.2 _).trans (hc j c hj)⟩
  | .fn f caps,v,hr=>by
    obtain ⟨vs,hv,hc⟩:=hr
    exact ⟨vs,hv,hc.imp fun _ _ hp=>h.isPtr hp⟩
  | .nil t,_,hr=>hr
  | .old t l,v,hr=>Holds.mono (fun k hk hlt=>⟨⟨hk.1,fun ho=>hk.2 (h.own k ho hlt)⟩,h.heap k hlt hk.2⟩) (t:=.slice t) hr
theorem Evo.trans {w w' w'':World} {μ μ' μ'':Lie} {bl bl' bl'':List Blk} (h:Evo w μ bl w' μ' bl') (h':Evo w' μ' bl' w'' μ'' bl''):Evo w μ bl w'' μ'' bl'':=by
  refine ⟨Nat.le_trans h.len h'.len,Nat.le_trans h.size h'.size,fun b cs hb hcs=>?_,fun b g own nf t l hb hbl=>?_,fun k hk ho=>?_,fun k ho hk=>h.own k (h'.own k ho (Nat.lt_of_lt_of_le hk h.size)) hk⟩
  · obtain ⟨⟨c1,h1⟩,e1⟩:=h'.var b cs (Nat.lt_of_lt_of_le hb h.len) hcs
    obtain ⟨h2,e2⟩:=h.var b c1 hb h1
    exact ⟨h2,e1.trans e2⟩
  · obtain ⟨g1,own1,nf1,l1,h1,hg1,e1⟩:=h'.arr b g own nf t l (Nat.lt_of_lt_of_le hb h.len) hbl
    obtain ⟨g2,own2,nf2,l2,h2,hg2,e2⟩:=h.arr b g1 own1 nf1 t l1 hb h1
    refine ⟨g2,own2,nf2,l2,h2,Nat.le_trans hg2 hg1,fun e=>?_⟩
    obtain rfl:g2=g1:=by omega
    obtain ⟨a1,b1⟩:=e1 e
    obtain ⟨a2,b2⟩:=e2 rfl
    exact ⟨a2.trans a1,b1.trans b2⟩
  · exact (h'.heap k (Nat.lt_of_lt_of_le hk h.size) fun hx=>ho (h.own k hx hk)).trans (h.heap k hk ho)
theorem Evo.reps {E:Env} {w w':World} {μ μ':Lie} {bl bl':List Blk} (h:Evo w μ bl w' μ' bl') {cs:List A} {vs:List Value} (hr:RepAs E w μ bl cs vs):RepAs E w' μ' bl' cs vs :=
  All2.imp (fun _ _ hx=>h.rep hx) hr
theorem Evo.repV {E:Env} {w w':World} {μ μ':Lie} {bl bl':List Blk} (h:Evo w μ bl w' μ' bl'):∀ {x:V} {v:Value},RepV E w μ bl x v→RepV E w' μ' bl' x v
  | .at .undef,v,hr=>trivial
  | .at (.int _ _),_,hr=>hr
  | .at (.bool _),_,hr=>hr
  | .at (.str _),_,hr=>hr
  | .at (.err _),_,hr=>hr
  | .at (.sl fr t l),v,hr=>h.rep (E:=E) (x:=.sl fr t l) hr
  | .at (.os b g),v,hr=>h.rep (E:=E) (x:=.os b g) hr
  | .at (.ptr b off),v,hr=>h.rep (E:=E) (x:=.ptr b off) hr
  | .at (.ep b g i off),v,hr=>h.rep (E:=E) (x:=.ep b g i off) hr
  | .at (.pp fr t x off),v,hr=>h.rep (E:=E) (x:=.pp fr t x off) hr
  | .at (.fn f caps),v,hr=>h.rep (E:=E) (x:=.fn f caps) hr
  | .at (.nil t),_,hr=>hr
  | .at (.old t l),v,hr=>h.rep (E:=E) (x:=.old t l) hr
  | .agg cs,v,hr=>by obtain ⟨vs,e,hc⟩:=hr;exact ⟨vs,e,h.reps hc⟩
  | .tup xs,v,hr=>by
    obtain ⟨vs,e,hc⟩:=hr
    refine ⟨vs,e,All2.imp (fun x u hx=>?_) hc⟩
    obtain ⟨ag,cs⟩:=x
    cases ag with
    | true=>obtain ⟨us,e,hu⟩:=hx;exact ⟨us,e,h.reps hu⟩
    | false=>exact h.reps hx
theorem Elems.mono {w w':World} {S S':Nat→Prop} (hS:∀ k,S k→k<w.heap.size→S' k∧w'.heap[k]? = w.heap[k]?) {t:Ty} {l:List t.den} {vals:List Value} (h:Elems w S t l vals):Elems w' S' t l vals :=
  fun i hi=>(h i hi).mono hS
theorem RepB.evo {E:Env} {w w':World} {μ μ':Lie} {bl bl':List Blk} (h:Evo w μ bl w' μ' bl') {b:Nat} {blk:Blk} (hμ:μ' b=μ b)
    (hk:∀ k c,μ b=some (k,c)→w'.heap[k]? = w.heap[k]?) (hr:RepB E w μ bl b blk):RepB E w' μ' bl' b blk:=by
  cases blk with
  | var cs =>
    obtain ⟨k,c,vals,ty,fz,h1,h2,h3,h4,h5⟩:=hr
    exact ⟨k,c,vals,ty,fz,hμ.trans h1,h2,(hk k c h1).trans h3,h4,h.reps h5⟩
  | arr g own nf t l =>
    rcases hr with ⟨h1,h2⟩ | ⟨k,cap,vals,ty,fz,h1,h2,h3,h4,h5,h6,h7⟩
    · exact Or.inl ⟨hμ.trans h1,h2⟩
    · exact Or.inr ⟨k,cap,vals,ty,fz,hμ.trans h1,h2,(hk k cap h1).trans h3,h4,h5,h6,h7.mono (h.D (E:=E))⟩
  | dead=>trivial
theorem Mem.lt {E:Env} {w0 w:World} {μ:Lie} {bl:List Blk} (h:Mem E w0 w μ bl) {b k c:Nat} (ha:alive bl b) (hμ:μ b=some (k,c)):k<w.heap.size:=by
  unfold alive at ha
  split at ha
  · next cs hb =>
    obtain ⟨k',c',vals,ty,fz,h1,h2,h3,_⟩:=h.blocks b _ hb
    rw [hμ] at h1;cases h1
    rcases Nat.lt_or_ge k w.heap.size with g | g
    · exact g
    · rw [Array.getElem?_eq_none (by simpa using g)] at h3;cases h3
  · next g own nf t l hb =>
    rcases h.blocks b _ hb with ⟨h1,_⟩ | ⟨k',c',vals,ty,fz,h1,h2,h3,_⟩
    · rw [hμ] at h1;cases h1
    · rw [hμ] at h1;cases h1
      rcases Nat.lt_or_ge k w.heap.size with g | g
      · exact g
      · rw [Array.getElem?_eq_none (by simpa using g)] at h3;cases h3
  · exact ha.elim
theorem Mem.own_lt {E:Env} {w0 w:World} {μ:Lie} {bl:List Blk} (h:Mem E w0 w μ bl) {k:Nat} (ho:Own μ bl k):k<w.heap.size :=
  let ⟨_,_,hμ,hm⟩:=ho;h.lt (mine_alive hm) hμ
theorem Mem.world {E:Env} {w0 w w':World} {μ:Lie} {bl:List Blk} (h:Mem E w0 w μ bl) (hb:Below w.heap.size w w'):Mem E w0 w' μ bl∧Evo w μ bl w' μ bl:=by
  have hsame:∀ k,k<w.heap.size→w'.heap[k]? = w.heap[k]?:=hb.block
  have ev:Evo w μ bl w' μ bl:=⟨Nat.le_refl _,hb.size,fun _ cs _ h=>⟨⟨cs,h⟩,rfl⟩,fun _ g own nf t l _ h=>⟨g,own,nf,l,h,Nat.le_refl _,fun _=>⟨rfl,rfl⟩⟩,fun k hk _=>hsame k hk,fun _ h _=>h⟩
  refine ⟨⟨h.start,h.below.trans (.below hb),Nat.le_trans h.big hb.size,fun b blk hbl=>?_,h.apart⟩,ev⟩
  cases blk with
  | dead=>trivial
  | var cs=>exact RepB.evo ev rfl (fun k c hk=>hsame k (h.lt (by simp [alive,hbl]) hk)) (h.blocks b _ hbl)
  | arr g own nf t l=>exact RepB.evo ev rfl (fun k c hk=>hsame k (h.lt (by simp [alive,hbl]) hk)) (h.blocks b _ hbl)
def Lie.put (μ:Lie) (b:Nat) (m:Option (Nat × Nat)):Lie:=fun c=>if c=b then m else μ c
theorem Lie.put_same (μ:Lie) (b:Nat) (m:Option (Nat × Nat)):Lie.put μ b m b=m:=if_pos rfl
theorem Lie.put_ne (μ:Lie) {b c:Nat} (m:Option (Nat × Nat)) (h:c≠b):Lie.put μ b m c=μ c:=if_neg h
theorem getElem?_snoc {α:Type} (l:List α) (x:α) (i:Nat):(l++[x])[i]? = if i<l.length then l[i]? else if i=l.length then some x else none:=by
  rw [List.getElem?_append]
  split
  · rfl
  · rename_i h
    split
    · rename_i e;subst e;simp
    · rename_i e
      have:i-l.length≠0:=by omega
      cases hc:i-l.length with
      | zero=>omega
      | succ n=>simp
theorem Mem.snoc {E:Env} {w0 w:World} {μ:Lie} {bl:List Blk} (h:Mem E w0 w μ bl) {w':World} (hb:Below w.heap.size w w') (blk:Blk) (m:Option (Nat × Nat))
    (hnew:∀ k c,m=some (k,c)→w.heap.size≤k)
    (hrep:Evo w μ bl w' (μ.put bl.length m) (bl++[blk])→RepB E w' (μ.put bl.length m) (bl++[blk]) bl.length blk) :
    Mem E w0 w' (μ.put bl.length m) (bl++[blk])∧Evo w μ bl w' (μ.put bl.length m) (bl++[blk]):=by
  have hget:∀ b,b<bl.length→(bl++[blk])[b]? = bl[b]?:=fun b hlt=>by rw [getElem?_snoc,if_pos hlt]
  have hown:∀ k,Own (μ.put bl.length m) (bl++[blk]) k→k<w.heap.size→Own μ bl k:=by
    rintro k ⟨b,c,hμ,hm⟩ hk
    by_cases e:b=bl.length
    · subst e
      rw [Lie.put_same] at hμ
      have:=hnew k c hμ
      omega
    · rw [Lie.put_ne _ _ e] at hμ
      refine ⟨b,c,hμ,?_⟩
      have hlt:b<bl.length:=by
        have:=alive_lt (mine_alive hm)
        simp only [List.length_append,List.length_cons,List.length_nil] at this
        omega
      unfold mine at hm ⊢
      rwa [hget b hlt] at hm
  have ev:Evo w μ bl w' (μ.put bl.length m) (bl++[blk]):=by
    refine ⟨by simp,hb.size,fun b cs hlt hcs=>?_,fun b g own nf t l hlt hbl=>?_,fun k hk _=>hb.block k hk,hown⟩
    · rw [hget b hlt] at hcs
      exact ⟨⟨cs,hcs⟩,Lie.put_ne _ _ (by omega)⟩
    · rw [hget b hlt] at hbl
      exact ⟨g,own,nf,l,hbl,Nat.le_refl _,fun _=>⟨rfl,Lie.put_ne _ _ (by omega)⟩⟩
  have halive:∀ b,b<bl.length→alive (bl++[blk]) b→alive bl b:=fun b hlt ha=>by unfold alive at ha ⊢;rwa [hget b hlt] at ha
  have hltb:∀ b,alive (bl++[blk]) b→b<bl.length∨b=bl.length:=fun b ha=>by
    have:=alive_lt ha
    simp only [List.length_append,List.length_cons,List.length_nil] at this
    omega
  refine ⟨⟨h.start,h.below.trans (.below hb),Nat.le_trans h.big hb.size,fun b blk' hbl=>?_,fun b b' k c c' h1 h2 a1 a2=>?_⟩,ev⟩
  · rw [getElem?_snoc] at hbl
    split at hbl
    · rename_i hlt
      cases blk' with
      | dead=>trivial
      | var cs=>exact RepB.evo ev (Lie.put_ne _ _ (by omega)) (fun k c hk=>hb.block k (h.lt (by simp [alive,hbl]) hk)) (h.blocks b _ hbl)
      | arr g own nf t l=>exact RepB.evo ev (Lie.put_ne _ _ (by omega)) (fun k c hk=>hb.block k (h.lt (by simp [alive,hbl]) hk)) (h.blocks b _ hbl)
    · split at hbl
      · rename_i e;subst e;cases hbl;exact hrep ev
      · cases hbl
  · rcases hltb b a1 with l1 | e1 <;> rcases hltb b' a2 with l2 | e2
    · rw [Lie.put_ne _ _ (by omega)] at h1 h2
      exact h.apart b b' k c c' h1 h2 (halive b l1 a1) (halive b' l2 a2)
    · subst e2
      rw [Lie.put_ne _ _ (by omega)] at h1
      rw [Lie.put_same] at h2
      have:=hnew k c' h2
      have:=h.lt (halive b l1 a1) h1
      omega
    · subst e1
      rw [Lie.put_ne _ _ (by omega)] at h2
      rw [Lie.put_same] at h1
      have:=hnew k c h1
      have:=h.lt (halive b' l2 a2) h2
      omega
    · omega
end Go.Proofs.YtnohkcklakipoaaGreatDoor.Ev
namespace Go.Proofs.YtnohkcklakipoaaGreatDoor.Ev
open Go Go.RowKit
set_option linter.unusedVariables false
set_option linter.unusedSimpArgs false
def HoldsT (w:World):(t:Ty)→t.den→List Value→List Nat→Prop
  | .int k,n,vs,F=>vs=[.int k n]∧F=[]
  | .bool,b,vs,F=>vs=[.bool b]∧F=[]
  | .str,s,vs,F=>vs=[.string s]∧F=[]
  | .err,b,vs,F=>(∃ v,vs=[v]∧(match b with | true=>∃ t u,v = .iface t u | false=>v = .nilIface))∧F=[]
  | .adr,_,vs,F=>(∃ v,vs=[v]∧v.oneCell'=true)∧F=[]
  | .slice e,l,vs,F=>∃ v,vs=[v]∧((l=[]∧F=[]∧v = .slice none 0 0) ∨
      ∃ k cap cells ty fz Fs,v = .slice (some ⟨k,0,none⟩) l.length cap∧w.heap[k]? = some (.cells cells ty fz)∧unfrozen cells fz∧l.length≤cap∧cells.size=cap*e.size∧F=k :: List.flatten Fs ∧
        Fs.length=l.length∧∀ i (h:i<l.length),HoldsT w e l[i] ((cells.toList.drop (i*e.size)).take e.size) (Fs.getD i []))
  | .pair a b,x,vs,F=>∃ us ws F1 F2,vs=us++ws∧F=F1++F2∧HoldsT w a x.1 us F1∧HoldsT w b x.2 ws F2
  | .struct b,x,vs,F=>HoldsT w b x vs F
theorem mem_flatten_getD {F:List (List Nat)} {i k:Nat} (h:k∈F.getD i []):k∈F.flatten:=by
  rw [List.getD_eq_getElem?_getD] at h
  cases hq:F[i]? with
  | none=>rw [hq] at h;simp at h
  | some G=>rw [hq] at h;exact List.mem_flatten.mpr ⟨G,List.mem_of_getElem? hq,h⟩
theorem HoldsT.mono {w w':World}:∀ {t:Ty} {x:t.den} {vs:List Value} {F:List Nat},(∀ k∈F,w'.heap[k]? = w.heap[k]?)→HoldsT w t x vs F→HoldsT w' t x vs F
  | .int _,_,_,_,_,h=>h
  | .bool,_,_,_,_,h=>h
  | .str,_,_,_,_,h=>h
  | .err,_,_,_,_,h=>h
  | .adr,_,_,_,_,h=>h
  | .slice e,l,vs,F,hF,h=>by
    simp only [HoldsT] at h ⊢
    obtain ⟨v,hv,h⟩:=h
    refine ⟨v,hv,?_⟩
    rcases h with h | ⟨k,cap,cells,ty,fz,Fs,h1,h2,h3,h4,h5,h6,h7,h8⟩
    · exact Or.inl h
    · refine Or.inr ⟨k,cap,cells,ty,fz,Fs,h1,(hF k (by rw [h6];simp)).trans h2,h3,h4,h5,h6,h7,fun i hi=>(h8 i hi).mono fun j hj=>hF j ?_⟩
      rw [h6];exact List.mem_cons_of_mem _ (mem_flatten_getD hj)
  | .pair a b,x,vs,F,hF,h=>by
    simp only [HoldsT] at h ⊢
    obtain ⟨us,ws,F1,F2,e,eF,h1,h2⟩:=h
    subst eF
    exact ⟨us,ws,F1,F2,e,rfl,h1.mono fun k hk=>hF k (List.mem_append_left _ hk),h2.mono fun k hk=>hF k (List.mem_append_right _ hk)⟩
  | .struct b,x,vs,F,hF,h=>by simp only [HoldsT] at h ⊢;exact HoldsT.mono (t:=b) hF h
theorem Holds.tree {w:World} {S:Nat→Prop}:∀ {t:Ty} {x:t.den} {vs:List Value},t.flat=true→Holds w S t x vs→HoldsT w t x vs []
  | .int _,_,_,_,h=>⟨h,rfl⟩
  | .bool,_,_,_,h=>⟨h,rfl⟩
  | .str,_,_,_,h=>⟨h,rfl⟩
  | .err,_,_,hf,_=>by simp [Ty.flat] at hf
  | .adr,_,_,hf,_=>by simp [Ty.flat] at hf
  | .slice _,_,_,hf,_=>by simp [Ty.flat] at hf
  | .pair a b,x,vs,hf,h=>by
    simp only [Ty.flat,Bool.and_eq_true] at hf
    simp only [Holds] at h
    simp only [HoldsT]
    obtain ⟨us,ws,e,h1,h2⟩:=h
    exact ⟨us,ws,[],[],e,rfl,h1.tree hf.1,h2.tree hf.2⟩
  | .struct b,x,vs,hf,h=>by simp only [Ty.flat] at hf;simp only [Holds] at h;simp only [HoldsT];exact Holds.tree (t:=b) hf h
def NestT (w:World) (t:Ty) (l:List t.den) (m:Option (Nat × Nat)) (F:List Nat):Prop :=
  (l=[]∧F=[])∨∃ k cap cells ty fz Fs,m=some (k,cap)∧w.heap[k]? = some (.cells cells ty fz)∧F=List.flatten Fs∧Fs.length=l.length ∧
    ∀ i (h:i<l.length),HoldsT w t l[i] ((cells.toList.drop (i*t.size)).take t.size) (Fs.getD i [])
theorem NestT.mono {w w':World} {t:Ty} {l:List t.den} {m:Option (Nat × Nat)} {F:List Nat} (hF:∀ k∈F,w'.heap[k]? = w.heap[k]?) (hm:∀ k c,m=some (k,c)→w'.heap[k]? = w.heap[k]?) (h:NestT w t l m F):NestT w' t l m F:=by
  rcases h with h | ⟨k,cap,cells,ty,fz,Fs,h1,h2,h3,h4,h5⟩
  · exact Or.inl h
  · exact Or.inr ⟨k,cap,cells,ty,fz,Fs,h1,(hm k cap h1).trans h2,h3,h4,fun i hi=>(h5 i hi).mono fun j hj=>hF j (by rw [h3];exact mem_flatten_getD hj)⟩
theorem replicate_flatten (n:Nat):(List.replicate n ([]:List Nat)).flatten=[]:=by
  induction n with
  | zero=>rfl
  | succ n ih=>rw [List.replicate_succ,List.flatten_cons,ih];rfl
theorem getD_replicate (n i:Nat):(List.replicate n ([]:List Nat)).getD i []=[]:=by
  rw [List.getD_eq_getElem?_getD,List.getElem?_replicate];split <;> rfl
theorem NestT.none {w:World} {t:Ty} {l:List t.den} {m:Option (Nat × Nat)} {k cap:Nat} {cells:Array Value} {ty:TypeId} {fz:Nat × Nat} (hm:m=some (k,cap)) (hk:w.heap[k]? = some (.cells cells ty fz))
    (h:∀ i (h:i<l.length),HoldsT w t l[i] ((cells.toList.drop (i*t.size)).take t.size) []):NestT w t l m [] :=
  Or.inr ⟨k,cap,cells,ty,fz,List.replicate l.length [],hm,hk,(replicate_flatten _).symm,by simp,fun i hi=>by rw [getD_replicate];exact h i hi⟩
theorem NestT.flat {E:Env} {w:World} {μ:Lie} {bl:List Blk} {b g:Nat} {own nf:Bool} {t:Ty} {l:List t.den} (hf:t.flat=true) (h:RepB E w μ bl b (.arr g own nf t l)):NestT w t l (μ b) []:=by
  rcases h with ⟨_,h2⟩ | ⟨k,cap,vals,ty,fz,h1,h2,h3,h4,h5,h6,h7⟩
  · exact Or.inl ⟨h2,rfl⟩
  · exact NestT.none h1 h3 fun i hi=>(h7 i hi).tree hf
def Tree (bl:List Blk) (b:Nat):Prop:=∃ g t l,bl[b]? = some (.arr g true true t l)
structure TreeOk (E:Env) (w:World) (μ:Lie) (bl:List Blk) (τ:Nat→List Nat):Prop where
  nest:∀ b g t l,bl[b]? = some (.arr g true true t l)→NestT w t l (μ b) (τ b)
  new:∀ b,Tree bl b→∀ k∈τ b,E.N k∧k<w.heap.size∧¬ Own μ bl k
  nodup:∀ b,Tree bl b→(τ b).Nodup
  apart:∀ b b',Tree bl b→Tree bl b'→b≠b'→∀ k∈τ b,k ∉ τ b'
def Trees (E:Env) (w:World) (μ:Lie) (bl:List Blk):Prop:=∃ τ,TreeOk E w μ bl τ
theorem Trees.sub {E:Env} {w:World} {μ:Lie} {bl bl2:List Blk} (h:Trees E w μ bl) (hrow:∀ (b g:Nat) (t:Ty) (l:List t.den),bl2[b]? = some (.arr g true true t l)→∃ g',bl[b]? = some (.arr g' true true t l))
    (hown:∀ k,Own μ bl2 k→Own μ bl k):Trees E w μ bl2:=by
  obtain ⟨τ,h⟩:=h
  have ht:∀ b,Tree bl2 b→Tree bl b:=fun b ⟨g,t,l,q⟩=>let ⟨g',q'⟩:=hrow b g t l q;⟨g',t,l,q'⟩
  exact ⟨τ,fun b g t l q=>let ⟨g',q'⟩:=hrow b g t l q;h.nest b g' t l q',fun b hb k hk=>let ⟨h1,h2,h3⟩:=h.new b (ht b hb) k hk;⟨h1,h2,fun ho=>h3 (hown k ho)⟩,
    fun b hb=>h.nodup b (ht b hb),fun b b' hb hb'=>h.apart b b' (ht b hb) (ht b' hb')⟩
theorem Trees.nil {E:Env} {w:World} {μ:Lie}:Trees E w μ [] :=
  ⟨fun _=>[],fun b g t l h=>by simp at h,fun b h=>by obtain ⟨g,t,l,h⟩:=h;simp at h,fun b h=>by obtain ⟨g,t,l,h⟩:=h;simp at h,fun b b' h=>by obtain ⟨g,t,l,h⟩:=h;simp at h⟩
theorem TreeOk.keep {E:Env} {w w':World} {μ μ':Lie} {bl bl':List Blk} {τ:Nat→List Nat} (h:TreeOk E w μ bl τ) (hsz:w.heap.size≤w'.heap.size) (hheap:∀ k,k<w.heap.size→¬ Own μ bl k→w'.heap[k]? = w.heap[k]?)
    (hown:∀ k,Own μ' bl' k→k<w.heap.size→Own μ bl k)
    (hrow:∀ (b g:Nat) (t:Ty) (l:List t.den),bl'[b]? = some (.arr g true true t l)→((∃ g',bl[b]? = some (.arr g' true true t l))∧μ' b=μ b∧∀ k c,μ b=some (k,c)→w'.heap[k]? = w.heap[k]?)∨NestT w' t l (μ' b) []):Trees E w' μ' bl':=by
  classical
  obtain ⟨old,hold⟩:∃ old:Nat→Prop,∀ b,old b↔∃ g g' t l,bl'[b]? = some (.arr g true true t l)∧bl[b]? = some (.arr g' true true t l)∧μ' b=μ b∧∀ k c,μ b=some (k,c)→w'.heap[k]? = w.heap[k]?:=⟨_,fun _=>Iff.rfl⟩
  refine ⟨fun b=>if old b then τ b else [],fun b g t l hb=>?_,fun b ht k hk=>?_,fun b ht=>?_,fun b b' ht ht' hne k hk hk'=>?_⟩
  · rcases hrow b g t l hb with ⟨⟨g',q⟩,e,hh⟩ | hn
    · have:old b:=(hold b).mpr ⟨g,g',t,l,hb,q,e,hh⟩
      rw [if_pos this,e]
      exact (h.nest b g' t l q).mono (fun k hk=>by have:=h.new b ⟨g',t,l,q⟩ k hk;exact hheap k this.2.1 this.2.2) hh
    · by_cases ho:old b
      · obtain ⟨g2,g',t2,l2,q2,q,e,hh⟩:=(hold b).mp ho
        rw [hb] at q2
        cases q2
        rw [if_pos ho,e]
        exact (h.nest b g' t l q).mono (fun k hk=>by have:=h.new b ⟨g',t,l,q⟩ k hk;exact hheap k this.2.1 this.2.2) hh
      · rw [if_neg ho];exact hn
  · by_cases ho:old b
    · rw [if_pos ho] at hk
      obtain ⟨g2,g',t2,l2,q2,q,e,hh⟩:=(hold b).mp ho
      obtain ⟨h1,h2,h3⟩:=h.new b ⟨g',t2,l2,q⟩ k hk
      exact ⟨h1,Nat.lt_of_lt_of_le h2 hsz,fun hx=>h3 (hown k hx h2)⟩
    · rw [if_neg ho] at hk;cases hk
  · by_cases ho:old b
    · obtain ⟨g2,g',t2,l2,q2,q,e,hh⟩:=(hold b).mp ho
      rw [if_pos ho];exact h.nodup b ⟨g',t2,l2,q⟩
    · rw [if_neg ho];exact List.nodup_nil
  · by_cases ho:old b
    · by_cases ho':old b'
      · rw [if_pos ho] at hk
        rw [if_pos ho'] at hk'
        obtain ⟨g2,g',t2,l2,q2,q,e,hh⟩:=(hold b).mp ho
        obtain ⟨g3,g'',t3,l3,q3,q',e',hh'⟩:=(hold b').mp ho'
        exact h.apart b b' ⟨g',t2,l2,q⟩ ⟨g'',t3,l3,q'⟩ hne k hk hk'
      · rw [if_neg ho'] at hk';cases hk'
    · rw [if_neg ho] at hk;cases hk
theorem Trees.keep {E:Env} {w w':World} {μ μ':Lie} {bl bl':List Blk} (h:Trees E w μ bl) (ev:Evo w μ bl w' μ' bl')
    (hrow:∀ (b g:Nat) (t:Ty) (l:List t.den),bl'[b]? = some (.arr g true true t l)→((∃ g',bl[b]? = some (.arr g' true true t l))∧μ' b=μ b∧∀ k c,μ b=some (k,c)→w'.heap[k]? = w.heap[k]?)∨NestT w' t l (μ' b) []):Trees E w' μ' bl' :=
  let ⟨_,h⟩:=h;h.keep ev.size ev.heap ev.own hrow
theorem Trees.world {E:Env} {w0 w w':World} {μ:Lie} {bl:List Blk} (h:Trees E w μ bl) (hm:Mem E w0 w μ bl) (hb:Below w.heap.size w w'):Trees E w' μ bl:=by
  refine h.keep (hm.world hb).2 fun b g t l hbl=>Or.inl ⟨⟨g,hbl⟩,rfl,fun k c hk=>hb.block k (hm.lt (by unfold alive;rw [hbl];trivial) hk)⟩
theorem Trees.snoc {E:Env} {w0 w w':World} {μ:Lie} {bl:List Blk} (h:Trees E w μ bl) (hm:Mem E w0 w μ bl) (hb:Below w.heap.size w w') {blk:Blk} {m:Option (Nat × Nat)} (ev:Evo w μ bl w' (μ.put bl.length m) (bl++[blk]))
    (hn:∀ g t l,blk = .arr g true true t l→NestT w' t l m []):Trees E w' (μ.put bl.length m) (bl++[blk]):=by
  refine h.keep ev fun b g t l hbl=>?_
  rw [getElem?_snoc] at hbl
  split at hbl
  · next hlt =>
    refine Or.inl ⟨⟨g,hbl⟩,Lie.put_ne _ _ (by omega),fun k c hk=>hb.block k (hm.lt (by unfold alive;rw [hbl];trivial) hk)⟩
  · split at hbl
    · next e =>
      subst e
      cases hbl
      rw [Lie.put_same]
      exact Or.inr (hn _ _ _ rfl)
    · cases hbl
end Go.Proofs.YtnohkcklakipoaaGreatDoor.Ev
namespace Go.Proofs.YtnohkcklakipoaaGreatDoor.Ev
open Go Go.RowKit
set_option linter.unusedVariables false
set_option linter.unusedSimpArgs false
theorem getElem?_set_self {α:Type} {l:List α} {i:Nat} {x y:α} (h:l[i]? = some x):(l.set i y)[i]? = some y:=by
  have:i<l.length:=by
    rcases Nat.lt_or_ge i l.length with g | g
    · exact g
    · rw [List.getElem?_eq_none g] at h;cases h
  simp [this]
theorem getElem?_set_ne' {α:Type} {l:List α} {i j:Nat} {y:α} (h:j≠i):(l.set i y)[j]? = l[j]?:=by
  rw [List.getElem?_set_ne (by omega)]
theorem Mem.turn {E:Env} {w0 w w':World} {μ:Lie} {bl:List Blk} (h:Mem E w0 w μ bl) {b:Nat} {old blk':Blk} (hb:bl[b]? = some old) (hm:mine bl b)
    (m':Option (Nat × Nat)) (hos:w'.os=w.os) (htape:w'.tape=w.tape) (hout:w'.output=w.output) (hsz:w.heap.size≤w'.heap.size)
    (hw:∀ j,j<w.heap.size→(∀ c,μ b≠some (j,c))→w'.heap[j]? = w.heap[j]?)
    (hm':m'=μ b∨∀ k c,m'=some (k,c)→w.heap.size≤k)
    (hv:∀ cs,blk' = .var cs→(∃ cs',old = .var cs')∧m'=μ b)
    (ha:∀ g own nf t l,blk' = .arr g own nf t l→∃ g' own' nf' l',old = .arr g' own' nf' t l'∧g'≤g∧(g'=g→l'.length=l.length∧m'=μ b))
    (hrep:Evo w μ bl w' (μ.put b m') (bl.set b blk')→RepB E w' (μ.put b m') (bl.set b blk') b blk') :
    Mem E w0 w' (μ.put b m') (bl.set b blk')∧Evo w μ bl w' (μ.put b m') (bl.set b blk'):=by
  have hself:=getElem?_set_self (y:=blk') hb
  have hne:∀ c,c≠b→(bl.set b blk')[c]? = bl[c]?:=fun c hc=>getElem?_set_ne' hc
  have hBk:∀ k c,μ b=some (k,c)→E.N k:=by
    intro k c hk
    have hr:=h.blocks b old hb
    cases old with
    | var cs=>obtain ⟨k',c',vals,ty,fz,h1,h2,_⟩:=hr;rw [hk] at h1;cases h1;exact h2
    | arr g own nf t l =>
      rcases hr with ⟨h1,_⟩ | ⟨k',c',vals,ty,fz,h1,h2,_⟩
      · rw [hk] at h1;cases h1
      · rw [hk] at h1;cases h1;exact h2
    | dead=>unfold mine at hm;rw [hb] at hm;exact hm.elim
  have hbelow:E.Apart w w':=⟨hos,htape,hout,hsz,fun k hk hn=>hw k hk fun c hc=>hn (hBk k c hc)⟩
  have hown:∀ k,Own (μ.put b m') (bl.set b blk') k→k<w.heap.size→Own μ bl k:=by
    rintro k ⟨d,c,hμ,hmd⟩ hk
    by_cases e:d=b
    · subst e
      rw [Lie.put_same] at hμ
      rcases hm' with rfl | hn
      · exact ⟨d,c,hμ,hm⟩
      · have:=hn k c hμ;omega
    · rw [Lie.put_ne _ _ e] at hμ
      exact ⟨d,c,hμ,by unfold mine at hmd ⊢;rwa [hne d e] at hmd⟩
  have ev:Evo w μ bl w' (μ.put b m') (bl.set b blk'):=by
    refine ⟨by simp,hsz,fun d cs hlt hcs=>?_,fun d g own nf t l hlt hbl=>?_,fun k hk ho=>hw k hk fun c hc=>ho ⟨b,c,hc,hm⟩,hown⟩
    · by_cases e:d=b
      · subst e
        rw [hself] at hcs;cases hcs
        obtain ⟨⟨cs',e1⟩,e2⟩:=hv cs rfl
        exact ⟨⟨cs',by rw [hb,e1]⟩,by rw [Lie.put_same,e2]⟩
      · rw [hne d e] at hcs
        exact ⟨⟨cs,hcs⟩,Lie.put_ne _ _ e⟩
    · by_cases e:d=b
      · subst e
        rw [hself] at hbl;cases hbl
        obtain ⟨g',own',nf',l',e1,e2,e3⟩:=ha g own nf t l rfl
        exact ⟨g',own',nf',l',by rw [hb,e1],e2,fun q=>by rw [Lie.put_same];exact e3 q⟩
      · rw [hne d e] at hbl
        exact ⟨g,own,nf,l,hbl,Nat.le_refl _,fun _=>⟨rfl,Lie.put_ne _ _ e⟩⟩
  have haliveb:alive bl b:=mine_alive hm
  have halive:∀ c,alive (bl.set b blk') c→alive bl c:=fun c hc=>by
    by_cases e:c=b
    · rw [e];exact haliveb
    · unfold alive at hc ⊢;rwa [hne c e] at hc
  have hkeep:∀ c blk,c≠b→bl[c]? = some blk→alive bl c→∀ k d,μ c=some (k,d)→w'.heap[k]? = w.heap[k]?:=by
    intro c blk hc hcb hca k d hk
    refine hw k (h.lt hca hk) fun c' hbk=>?_
    exact hc (h.apart c b k d c' hk hbk hca haliveb)
  refine ⟨⟨h.start,h.below.trans hbelow,Nat.le_trans h.big hsz,fun c blk hcb=>?_,fun c c' k d d' h1 h2 a1 a2=>?_⟩,ev⟩
  · by_cases e:c=b
    · subst e
      rw [hself] at hcb;cases hcb
      exact hrep ev
    · rw [hne c e] at hcb
      cases blk with
      | dead=>trivial
      | var cs=>exact RepB.evo ev (Lie.put_ne _ _ e) (hkeep c _ e hcb (by simp [alive,hcb])) (h.blocks c _ hcb)
      | arr g own nf t l=>exact RepB.evo ev (Lie.put_ne _ _ e) (hkeep c _ e hcb (by simp [alive,hcb])) (h.blocks c _ hcb)
  · by_cases e:c=b <;> by_cases e':c'=b
    · rw [e,e']
    · subst e
      rw [Lie.put_same] at h1
      rw [Lie.put_ne _ _ e'] at h2
      rcases hm' with rfl | hn
      · exact h.apart c c' k d d' h1 h2 haliveb (halive c' a2)
      · have:=hn k d h1
        have:=h.lt (halive c' a2) h2
        omega
    · subst e'
      rw [Lie.put_same] at h2
      rw [Lie.put_ne _ _ e] at h1
      rcases hm' with rfl | hn
      · exact h.apart c c' k d d' h1 h2 (halive c a1) haliveb
      · have:=hn k d' h2
        have:=h.lt (halive c a1) h1
        omega
    · rw [Lie.put_ne _ _ e] at h1
      rw [Lie.put_ne _ _ e'] at h2
      exact h.apart c c' k d d' h1 h2 (halive c a1) (halive c' a2)
theorem TreeOk.turn {E:Env} {w0 w w':World} {μ:Lie} {bl:List Blk} {τ:Nat→List Nat} (h:TreeOk E w μ bl τ) (hm:Mem E w0 w μ bl) {b:Nat} {blk':Blk} (hmine:mine bl b) {m':Option (Nat × Nat)}
    (hw:∀ j,j<w.heap.size→(∀ c,μ b≠some (j,c))→w'.heap[j]? = w.heap[j]?) (ev:Evo w μ bl w' (μ.put b m') (bl.set b blk')) {F:List Nat}
    (hn:∀ g t l,blk' = .arr g true true t l→NestT w' t l m' F) (hF:∀ k∈F,E.N k∧k<w'.heap.size∧¬ Own (μ.put b m') (bl.set b blk') k) (hnd:F.Nodup) (hap:∀ c,c≠b→Tree bl c→∀ k∈F,k ∉ τ c) :
    TreeOk E w' (μ.put b m') (bl.set b blk') (fun c=>if c=b then F else τ c):=by
  have hlt:b<bl.length:=alive_lt (mine_alive hmine)
  have hself:(bl.set b blk')[b]? = some blk':=by simp [hlt]
  have hne:∀ c,c≠b→(bl.set b blk')[c]? = bl[c]?:=fun c hc=>getElem?_set_ne' hc
  have htree:∀ c,c≠b→Tree (bl.set b blk') c→Tree bl c:=fun c hc ⟨g,t,l,q⟩=>⟨g,t,l,by rw [← hne c hc];exact q⟩
  have hheap:∀ c,Tree bl c→∀ k∈τ c,w'.heap[k]? = w.heap[k]?:=fun c hc k hk=>by
    obtain ⟨_,h2,h3⟩:=h.new c hc k hk
    exact ev.heap k h2 h3
  refine ⟨fun c g t l hc=>?_,fun c hc k hk=>?_,fun c hc=>?_,fun c c' hc hc' hcc k hk hk'=>?_⟩
  · by_cases e:c=b
    · subst e
      rw [hself] at hc
      cases hc
      rw [if_pos rfl,Lie.put_same]
      exact hn _ _ _ rfl
    · rw [if_neg e,Lie.put_ne _ _ e]
      rw [hne c e] at hc
      refine (h.nest c g t l hc).mono (hheap c ⟨g,t,l,hc⟩) fun k d hk=>hw k (hm.lt (by unfold alive;rw [hc];trivial) hk) fun d' hb=>e (hm.apart c b k d d' hk hb (by unfold alive;rw [hc];trivial) (mine_alive hmine))
  · by_cases e:c=b
    · rw [if_pos e] at hk;exact hF k hk
    · rw [if_neg e] at hk
      obtain ⟨h1,h2,h3⟩:=h.new c (htree c e hc) k hk
      exact ⟨h1,Nat.lt_of_lt_of_le h2 ev.size,fun ho=>h3 (ev.own k ho h2)⟩
  · by_cases e:c=b
    · rw [if_pos e];exact hnd
    · rw [if_neg e];exact h.nodup c (htree c e hc)
  · by_cases e:c=b
    · rw [if_pos e] at hk
      by_cases e':c'=b
      · exact hcc (e.trans e'.symm)
      · rw [if_neg e'] at hk'
        exact hap c' e' (htree c' e' hc') k hk hk'
    · rw [if_neg e] at hk
      by_cases e':c'=b
      · rw [if_pos e'] at hk'
        exact hap c e (htree c e hc) k hk' hk
      · rw [if_neg e'] at hk'
        exact h.apart c c' (htree c e hc) (htree c' e' hc') hcc k hk hk'
theorem Trees.turn {E:Env} {w0 w w':World} {μ:Lie} {bl:List Blk} (h:Trees E w μ bl) (hm:Mem E w0 w μ bl) {b:Nat} {blk':Blk} (hmine:mine bl b) {m':Option (Nat × Nat)}
    (hw:∀ j,j<w.heap.size→(∀ c,μ b≠some (j,c))→w'.heap[j]? = w.heap[j]?) (ev:Evo w μ bl w' (μ.put b m') (bl.set b blk'))
    (hn:∀ g t l,blk' = .arr g true true t l→NestT w' t l m' []):Trees E w' (μ.put b m') (bl.set b blk') :=
  let ⟨_,h⟩:=h;⟨_,h.turn hm hmine hw ev hn (fun k hk=>by cases hk) List.nodup_nil fun _ _ _ k hk=>by cases hk⟩
theorem Lie.put_eq {μ:Lie} {b:Nat} {m:Option (Nat × Nat)} (h:m=μ b):μ.put b m=μ:=by
  funext c
  unfold Lie.put
  split
  · next e=>rw [e,h]
  · rfl
structure Goes (w:World) (μ:Lie) (st:St) (w':World) (μ':Lie) (st':St):Prop where
  evo:Evo w μ st.bl w' μ' st'.bl
  lock:st'.lock=st.lock
  kept:∀ b,b∈st.lock→b<st.bl.length→st'.bl[b]? = st.bl[b]?
theorem Goes.refl (w:World) (μ:Lie) (st:St):Goes w μ st w μ st:=⟨Evo.refl _ _ _,rfl,fun _ _ _=>rfl⟩
theorem Goes.trans {w w' w'':World} {μ μ' μ'':Lie} {st st' st'':St} (h:Goes w μ st w' μ' st') (h':Goes w' μ' st' w'' μ'' st''):Goes w μ st w'' μ'' st'' :=
  ⟨h.evo.trans h'.evo,h'.lock.trans h.lock,fun b hb hlt=>(h'.kept b (by rw [h.lock];exact hb) (Nat.lt_of_lt_of_le hlt h.evo.len)).trans (h.kept b hb hlt)⟩
structure Rel (E:Env) (w0:World) (μ:Lie) (st:St) (a:Act) (w:World):Prop where
  mem:Mem E w0 w μ st.bl
  slots:All2 (RepV E w μ st.bl) st.tmps a.tmps.toList
  defers:a.defers=[]
  tree:Trees E w μ st.bl
theorem RepV.skipped {E:Env} {w:World} {μ:Lie} {bl:List Blk}:RepV E w μ bl V.skipped Go.undef:=⟨[],rfl,trivial⟩
theorem RepV.skipped_eq {E:Env} {w:World} {μ:Lie} {bl:List Blk} {v:Value} (h:RepV E w μ bl V.skipped v):v=Go.undef:=by
  obtain ⟨vs,rfl,h⟩:=h
  cases vs with
  | nil=>rfl
  | cons x xs=>exact h.elim
theorem RepV.undef {E:Env} {w:World} {μ:Lie} {bl:List Blk} {v:Value}:RepV E w μ bl V.undef v:=trivial
theorem Rel.tmp {E:Env} {w0 w:World} {μ:Lie} {st:St} {a:Act} (h:Rel E w0 μ st a w) (t:Nat):RepV E w μ st.bl (st.tmps.getD t V.undef) (a.tmps.getD t undef):=by
  cases hx:st.tmps[t]? with
  | none=>rw [List.getD_eq_getElem?_getD,hx];exact RepV.undef
  | some x =>
    obtain ⟨v,hv,hr⟩:=h.slots.get hx
    rw [List.getD_eq_getElem?_getD,hx]
    have:a.tmps.getD t undef=v:=by
      have h2:a.tmps[t]? = some v:=by rw [← Array.getElem?_toList];exact hv
      simp only [Array.getD_eq_getD_getElem?,h2,Option.getD_some]
    rw [this];exact hr
theorem Rel.get {E:Env} {w0 w:World} {μ:Lie} {st:St} {a:Act} (h:Rel E w0 μ st a w) (x:Operand):RepV E w μ st.bl (st.get x) (a.eval x):=by
  cases x with
  | tmp t=>exact h.tmp t
  | const v =>
    show RepV E w μ st.bl (ofConst v) v
    unfold ofConst
    split
    · exact rfl
    · exact rfl
    · exact rfl
    · exact rfl
    · exact RepV.undef
  | global g=>exact RepV.undef
  | func f=>exact ⟨[],rfl,trivial⟩
theorem Rel.put {E:Env} {w0 w:World} {μ:Lie} {st:St} {a:Act} (h:Rel E w0 μ st a w) (d:Option Tmp) {x:V} {v:Value} (hx:RepV E w μ st.bl x v):Rel E w0 μ (st.put d x) (a.put d v) w:=by
  cases d with
  | none=>exact h
  | some d =>
    refine ⟨h.mem,?_,h.defers,h.tree⟩
    show All2 _ (st.tmps.set d x) (a.tmps.setIfInBounds d v).toList
    rw [Array.toList_setIfInBounds]
    exact h.slots.set d hx
theorem Rel.next {E:Env} {w0 w w':World} {μ μ':Lie} {st:St} {a:Act} (h:Rel E w0 μ st a w) {bl':List Blk} (hm:Mem E w0 w' μ' bl') (ev:Evo w μ st.bl w' μ' bl') (ht:Trees E w' μ' bl'):Rel E w0 μ' { st with bl:=bl' } a w' :=
  ⟨hm,All2.imp (fun _ _ hx=>ev.repV hx) h.slots,h.defers,ht⟩
end Go.Proofs.YtnohkcklakipoaaGreatDoor.Ev
namespace Go.Proofs.YtnohkcklakipoaaGreatDoor.Ev
open Go Go.RowKit
set_option linter.unusedVariables false
set_option linter.unusedSimpArgs false
def zeroVals:Ty→List Value
  | .int k=>[.int k 0]
  | .bool=>[.bool false]
  | .str=>[.string ⟨#[]⟩]
  | .err=>[.nilIface]
  | .adr=>[.pointer none]
  | .slice _=>[.slice none 0 0]
  | .pair a b=>zeroVals a++zeroVals b
  | .struct b=>zeroVals b
def Basic (P:Program) (t:TypeId) (size:Nat) (zero:Value):Prop :=
  ∃ i,P.info? t=some i∧i.size=size∧i.bytes≤4096∧i.zero=some zero
def lastField (f:TypeId→Prop) (fs:List Field) (off:Nat):Prop :=
  match fs with
  | [g]=>g.offset=off∧f g.type∧g.name ≠ "_"
  | _=>False
def TyF (P:Program):Ty→(TypeId→Prop) × (List Field→Nat→Prop)
  | .int k=>(fun t=>P.underlying t=some (.int k)∧Basic P t 1 (.int k 0),lastField fun t=>P.underlying t=some (.int k)∧Basic P t 1 (.int k 0))
  | .bool=>(fun t=>P.underlying t=some .bool∧Basic P t 1 (.bool false),lastField fun t=>P.underlying t=some .bool∧Basic P t 1 (.bool false))
  | .str=>(fun t=>P.underlying t=some .string∧Basic P t 1 (.string ⟨#[]⟩),lastField fun t=>P.underlying t=some .string∧Basic P t 1 (.string ⟨#[]⟩))
  | .err=>(fun t=>(∃ ms,P.underlying t=some (.interface ms))∧Basic P t 1 .nilIface,lastField fun t=>(∃ ms,P.underlying t=some (.interface ms))∧Basic P t 1 .nilIface)
  | .adr=>(fun t=>(∃ u,P.underlying t=some (.pointer u))∧Basic P t 1 (.pointer none),lastField fun t=>(∃ u,P.underlying t=some (.pointer u))∧Basic P t 1 (.pointer none))
  | .slice e=>(fun t=>(∃ u,P.underlying t=some (.slice u)∧(TyF P e).1 u)∧Basic P t 1 (.slice none 0 0),lastField fun t=>(∃ u,P.underlying t=some (.slice u)∧(TyF P e).1 u)∧Basic P t 1 (.slice none 0 0))
  | .pair a b=>(fun _=>False,fun fs off=>match fs with
    | f :: g :: r=>f.offset=off∧((TyF P a).1 f.type∧f.name ≠ "_")∧(TyF P b).2 (g :: r) (off+a.size)
    | _=>False)
  | .struct b=>(fun t=>(∃ fs,P.underlying t=some (.struct fs)∧(TyF P b).2 fs.toList 0)∧Basic P t b.size (.agg (zeroVals b).toArray),
      lastField fun t=>(∃ fs,P.underlying t=some (.struct fs)∧(TyF P b).2 fs.toList 0)∧Basic P t b.size (.agg (zeroVals b).toArray))
def TyOf (P:Program) (t:TypeId) (ty:Ty):Prop:=(TyF P ty).1 t
def zeroV:Ty→Value
  | .struct b=>.agg (zeroVals b).toArray
  | .int k=>.int k 0
  | .bool=>.bool false
  | .str=>.string ⟨#[]⟩
  | .err=>.nilIface
  | .adr=>.pointer none
  | .slice _=>.slice none 0 0
  | .pair _ _=>undef
theorem TyOf.basic {P:Program} {t:TypeId}:∀ {ty:Ty},TyOf P t ty→Basic P t ty.size (zeroV ty)
  | .int _,h | .bool,h | .str,h | .err,h | .adr,h | .slice _,h | .struct _,h=>h.2
  | .pair _ _,h=>h.elim
theorem TyF.last {P:Program} {fs:List Field} {off:Nat}:∀ {ty:Ty},(∀ a b,ty ≠ .pair a b)→(TyF P ty).2 fs off→∃ g,fs=[g]∧g.offset=off∧TyOf P g.type ty∧g.name ≠ "_" := by
  intro ty hp h
  have key:∀ f:TypeId→Prop,lastField f fs off→∃ g,fs=[g]∧g.offset=off∧f g.type∧g.name ≠ "_" := by
    intro f hf
    unfold lastField at hf
    split at hf
    · next g=>exact ⟨g,rfl,hf.1,hf.2⟩
    · exact hf.elim
  cases ty with
  | pair a b=>exact absurd rfl (hp a b)
  | int k=>exact key _ h
  | bool=>exact key _ h
  | str=>exact key _ h
  | err=>exact key _ h
  | adr=>exact key _ h
  | slice e=>exact key _ h
  | struct b=>exact key _ h
theorem TyF.field {P:Program}:∀ {ty:Ty} {fs:List Field} {off i d:Nat} {u:Ty},(TyF P ty).2 fs off→ty.fieldIn i off=some (d,u) →
    ∃ f,fs[i]? = some f∧f.offset=d∧TyOf P f.type u:=by
  intro ty
  have base:∀ {ty:Ty} {fs:List Field} {off i d:Nat} {u:Ty},(∀ a b,ty ≠ .pair a b)→(TyF P ty).2 fs off→ty.fieldIn i off=some (d,u) →
      ∃ f,fs[i]? = some f∧f.offset=d∧TyOf P f.type u:=by
    intro ty fs off i d u hp h hf
    obtain ⟨g,rfl,h1,h2,_⟩:=TyF.last hp h
    cases i with
    | zero =>
      have:ty.fieldIn 0 off=some (off,ty):=by cases ty <;> first | rfl | exact absurd rfl (hp _ _)
      rw [this] at hf;cases hf
      exact ⟨g,rfl,h1,h2⟩
    | succ n =>
      have:ty.fieldIn (n+1) off=none:=by cases ty <;> first | rfl | exact absurd rfl (hp _ _)
      rw [this] at hf;cases hf
  induction ty with
  | pair a b iha ihb =>
    intro fs off i d u h hf
    simp only [TyF] at h
    split at h
    · next f g r =>
      obtain ⟨h1,⟨h2,_⟩,h3⟩:=h
      cases i with
      | zero=>simp only [Ty.fieldIn] at hf;cases hf;exact ⟨f,rfl,h1,h2⟩
      | succ n =>
        simp only [Ty.fieldIn] at hf
        obtain ⟨f',e1,e2,e3⟩:=ihb h3 hf
        exact ⟨f',by simpa using e1,e2,e3⟩
    · exact h.elim
  | int k=>exact fun h hf=>base (by intro a b e;cases e) h hf
  | bool=>exact fun h hf=>base (by intro a b e;cases e) h hf
  | str=>exact fun h hf=>base (by intro a b e;cases e) h hf
  | err=>exact fun h hf=>base (by intro a b e;cases e) h hf
  | adr=>exact fun h hf=>base (by intro a b e;cases e) h hf
  | slice e _=>exact fun h hf=>base (by intro a b e;cases e) h hf
  | struct b _=>exact fun h hf=>base (by intro a b e;cases e) h hf
theorem TyOf.field {P:Program} {t:TypeId} {ty u:Ty} {i d:Nat} (h:TyOf P t ty) (hf:ty.field i=some (d,u)) :
    ∃ fs f,P.underlying t=some (.struct fs)∧fs[i]? = some f∧f.offset=d∧TyOf P f.type u:=by
  cases ty with
  | struct b =>
    obtain ⟨⟨fs,h1,h2⟩,_⟩:=h
    obtain ⟨f,e1,e2,e3⟩:=TyF.field h2 hf
    exact ⟨fs,f,h1,by rw [← Array.getElem?_toList];exact e1,e2,e3⟩
  | _=>simp [Ty.field] at hf
theorem run_typeInfo {P:Program} {t:TypeId} {i:TypeInfo} (h:P.info? t=some i) (w:World):(typeInfo t).run P w = .ok i w:=by
  simp [typeInfo,h]
theorem run_sizeOf {P:Program} {t:TypeId} {ty:Ty} (h:TyOf P t ty) (w:World):(sizeOf t).run P w = .ok ty.size w:=by
  obtain ⟨i,h1,h2,_⟩:=h.basic
  simp [sizeOf,run_typeInfo h1,h2]
theorem run_zeroValue {P:Program} {t:TypeId} {ty:Ty} (h:TyOf P t ty) (w:World):(zeroValue t).run P w = .ok (zeroV ty) w:=by
  obtain ⟨i,h1,_,_,h2⟩:=h.basic
  simp [zeroValue,run_typeInfo h1,h2]
theorem run_isAgg {P:Program} {t:TypeId} {ty:Ty} (h:TyOf P t ty) (w:World):(isAgg t).run P w = .ok ty.isAgg w:=by
  cases ty with
  | pair a b=>exact h.elim
  | int k=>simp [isAgg,run_underlying h.1,Ty.isAgg]
  | bool=>simp [isAgg,run_underlying h.1,Ty.isAgg]
  | str=>simp [isAgg,run_underlying h.1,Ty.isAgg]
  | err=>obtain ⟨⟨ms,hm⟩,_⟩:=h;simp [isAgg,run_underlying hm,Ty.isAgg]
  | adr=>obtain ⟨⟨ms,hm⟩,_⟩:=h;simp [isAgg,run_underlying hm,Ty.isAgg]
  | slice e=>obtain ⟨⟨u,hu,_⟩,_⟩:=h;simp [isAgg,run_underlying hu,Ty.isAgg]
  | struct b=>obtain ⟨⟨fs,hf,_⟩,_⟩:=h;simp [isAgg,run_underlying hf,Ty.isAgg]
theorem zeroVals_length:∀ t:Ty,(zeroVals t).length=t.size
  | .int _ | .bool | .str | .err | .adr | .slice _=>rfl
  | .pair a b=>by simp only [zeroVals,List.length_append,Ty.size,zeroVals_length a,zeroVals_length b]
  | .struct b=>by simp only [zeroVals,Ty.size,zeroVals_length b]
theorem zeroV_cells {P:Program} {t:TypeId} {ty:Ty} (h:TyOf P t ty):(zeroV ty).cells=(zeroVals ty).toArray:=by
  cases ty with
  | pair a b=>exact h.elim
  | _=>rfl
theorem Holds.zero {w:World} {S:Nat→Prop}:∀ t:Ty,Holds w S t t.zero (zeroVals t)
  | .int _ | .bool | .str=>rfl
  | .err=>⟨_,rfl,rfl⟩
  | .adr=>⟨_,rfl,rfl⟩
  | .slice e=>⟨none,0,rfl,Nat.le_refl _,fun i h=>absurd h (Nat.not_lt_zero _)⟩
  | .pair a b=>⟨_,_,rfl,Holds.zero a,Holds.zero b⟩
  | .struct b=>Holds.zero b
theorem Holds.cells {E:Env} {w:World} {μ:Lie} {bl:List Blk} {fr:Bool}:∀ {t:Ty} {x:t.den} {vs:List Value},Holds w (E.D μ bl fr) t x vs→RepAs E w μ bl (t.cells fr x) vs
  | .int k,n,vs,h=>by simp only [Holds] at h;subst h;exact ⟨rfl,trivial⟩
  | .bool,b,vs,h=>by simp only [Holds] at h;subst h;exact ⟨rfl,trivial⟩
  | .str,s,vs,h=>by simp only [Holds] at h;subst h;exact ⟨rfl,trivial⟩
  | .err,b,vs,h=>by simp only [Holds] at h;obtain ⟨v,rfl,h⟩:=h;exact ⟨h,trivial⟩
  | .adr,b,vs,h=>by simp only [Holds] at h;obtain ⟨v,rfl,h⟩:=h;exact ⟨h,trivial⟩
  | .slice e,l,vs,h=>by
    have h':=h
    simp only [Holds] at h'
    obtain ⟨a,cap,rfl,_⟩:=h'
    exact ⟨h,trivial⟩
  | .pair a b,x,vs,h=>by
    simp only [Holds] at h
    obtain ⟨us,ws,rfl,h1,h2⟩:=h
    exact All2.append h1.cells h2.cells
  | .struct b,x,vs,h=>by simp only [Holds] at h;exact Holds.cells (t:=b) h
def ValHolds (w:World) (S:Nat→Prop) (t:Ty) (x:t.den) (v:Value):Prop :=
  match t.isAgg with
  | true=>∃ vs:List Value,v = .agg vs.toArray∧Holds w S t x vs
  | false=>Holds w S t x [v]
theorem ValHolds.repV {E:Env} {w:World} {μ:Lie} {bl:List Blk} {fr:Bool} {t:Ty} {x:t.den} {v:Value} (h:ValHolds w (E.D μ bl fr) t x v):RepV E w μ bl (t.toV fr x) v:=by
  cases t with
  | struct b=>obtain ⟨vs,e,hh⟩:=h;exact ⟨vs,e,Holds.cells (t:=.struct b) hh⟩
  | pair a b=>exact RepV.undef
  | int k=>exact RepV.at ((Holds.cells (fr:=fr) (t:=.int k) h).1)
  | bool=>exact RepV.at ((Holds.cells (fr:=fr) (t:=.bool) h).1)
  | str=>exact RepV.at ((Holds.cells (fr:=fr) (t:=.str) h).1)
  | err=>exact RepV.at ((Holds.cells (fr:=fr) (t:=.err) h).1)
  | adr=>exact trivial
  | slice e=>exact RepV.at ((Holds.cells (fr:=fr) (t:=.slice e) h).1)
end Go.Proofs.YtnohkcklakipoaaGreatDoor.Ev
namespace Go.Proofs.YtnohkcklakipoaaGreatDoor.Ev
open Go Go.RowKit
set_option linter.unusedVariables false
set_option linter.unusedSimpArgs false
theorem wr_eq (k:IntKind) (n:Int):wr k n=k.wrap n:=by
  cases k <;> first | rfl | (simp only [wr,wrap64,IntKind.wrap,IntKind.bits,IntKind.signed];simp;split <;> omega)
theorem bytes_same {a b:ByteArray}:(a.toList == b.toList)=decide (a=b):=by
  by_cases e:a=b
  · simp [e]
  · have:a.toList≠b.toList:=by
      intro h
      apply e
      rw [ByteArray.toList_eq,ByteArray.toList_eq] at h
      cases a;cases b
      simp only at h
      congr
      exact Array.toList_inj.mp h
    simp [e,this]
abbrev RunsTo (P:Program) (w:World) (s:Sem Value) (v:Value):Prop:=s.run P w = .ok v w
variable {ρ:Type}
theorem cond_none {c:Bool} {x:Option ρ} {r:ρ} (h:(bif c then x else none)=some r):c=true∧x=some r:=by
  cases c with
  | true=>exact ⟨rfl,h⟩
  | false=>cases h
theorem cond_none' {c:Bool} {x:Option ρ} {r:ρ} (h:(bif c then none else x)=some r):c=false∧x=some r:=by
  cases c with
  | true=>cases h
  | false=>exact ⟨rfl,h⟩
theorem binInt_sound {P:Program} {E:Env} {w:World} {μ:Lie} {bl:List Blk} {op:BinOp} {k:IntKind} {a b:Int} {K:A→Option ρ} {r:ρ} {t:TypeId}
    (h1:op ≠ .shl) (h2:op ≠ .shr) (h:binInt op k a b K=some r) :
    ∃ x v,K x=some r∧RepA E w μ bl x v∧RunsTo P w (binOp op t (.int k a) (.int k b)) v:=by
  cases op with
  | add=>exact ⟨_,_,h,rfl,by simp [RunsTo,binOp,Op.intArith,wr_eq]⟩
  | sub=>exact ⟨_,_,h,rfl,by simp [RunsTo,binOp,Op.intArith,wr_eq]⟩
  | mul=>exact ⟨_,_,h,rfl,by simp [RunsTo,binOp,Op.intArith,wr_eq]⟩
  | quo =>
    obtain ⟨hb,h⟩:=cond_none' h
    have hb:=of_decide_eq_false hb
    exact ⟨_,_,h,rfl,by simp [RunsTo,binOp,Op.intDiv,wr_eq,hb]⟩
  | rem =>
    obtain ⟨hb,h⟩:=cond_none' h
    have hb:=of_decide_eq_false hb
    exact ⟨_,_,h,rfl,by simp [RunsTo,binOp,Op.intDiv,hb]⟩
  | and=>exact ⟨_,_,h,rfl,by simp [RunsTo,binOp,Op.intBits,bitsAnd,stuckOn_eq,wr_eq]⟩
  | or=>exact ⟨_,_,h,rfl,by simp [RunsTo,binOp,Op.intBits,bitsOr,stuckOn_eq,wr_eq]⟩
  | xor=>exact ⟨_,_,h,rfl,by simp [RunsTo,binOp,Op.intBits,bitsXor,stuckOn_eq,wr_eq]⟩
  | shl=>exact absurd rfl h1
  | shr=>exact absurd rfl h2
  | andNot=>simp [binInt] at h
  | eql=>exact ⟨_,_,h,rfl,by simp [RunsTo,binOp,Op.intCmp];rfl⟩
  | neq=>exact ⟨_,_,h,rfl,by simp [RunsTo,binOp,Op.intCmp];rfl⟩
  | lss=>exact ⟨_,_,h,rfl,by simp [RunsTo,binOp,Op.intCmp]⟩
  | leq=>exact ⟨_,_,h,rfl,by simp [RunsTo,binOp,Op.intCmp]⟩
  | gtr=>exact ⟨_,_,h,rfl,by simp [RunsTo,binOp,Op.intCmp]⟩
  | geq=>exact ⟨_,_,h,rfl,by simp [RunsTo,binOp,Op.intCmp]⟩
theorem binStr_sound {P:Program} {E:Env} {w:World} {μ:Lie} {bl:List Blk} {op:BinOp} {a b:ByteArray} {K:A→Option ρ} {r:ρ} {t:TypeId}
    (h:binStr op a b K=some r):∃ x v,K x=some r∧RepA E w μ bl x v∧RunsTo P w (binOp op t (.string a) (.string b)) v:=by
  cases op with
  | add =>
    obtain ⟨hb,h⟩:=cond_none h
    have hb:=of_decide_eq_true hb
    refine ⟨_,_,h,rfl,?_⟩
    have:¬ (((a.size+b.size:Nat):Int)>IntKind.i64.max):=by
      have:IntKind.i64.max=9223372036854775807:=rfl
      rw [this];unfold mostText at hb;omega
    simp only [RunsTo,binOp,Op.stringOp]
    rw [if_neg this]
    rfl
  | eql=>exact ⟨_,_,h,rfl,by simp only [RunsTo,binOp,Op.stringOp,bytes_same];rfl⟩
  | neq=>exact ⟨_,_,h,rfl,by simp only [RunsTo,binOp,Op.stringOp,bytes_same];rfl⟩
  | lss=>exact ⟨_,_,h,rfl,by simp only [RunsTo,binOp,Op.stringOp,bytes_same,lessText];rfl⟩
  | leq=>exact ⟨_,_,h,rfl,by simp only [RunsTo,binOp,Op.stringOp,bytes_same,lessText];rfl⟩
  | gtr=>exact ⟨_,_,h,rfl,by simp only [RunsTo,binOp,Op.stringOp,bytes_same,lessText];rfl⟩
  | geq=>exact ⟨_,_,h,rfl,by simp only [RunsTo,binOp,Op.stringOp,bytes_same,lessText];rfl⟩
  | _=>simp [binStr] at h
theorem run_then {P:Program} {w:World} {α:Type} {s:Sem α} {f:α→Sem Value} {x:α} {v:Value} (h:s.run P w = .ok x w) (h':RunsTo P w (f x) v):RunsTo P w (s >>= f) v:=by
  rw [RunsTo,Sem.run_bind,h];exact h'
theorem add_none (b o n:Nat):(⟨b,o,none⟩:Addr).add n=⟨b,o+n,none⟩:=by
  unfold Addr.add
  split
  · next e=>subst e;rfl
  · rfl
theorem cell_row {w:World} {g:Nat} {vals:Array Value} {t:TypeId} {fz:Nat × Nat} (h:w.heap[g]? = some (.cells vals t fz)) (j:Nat):w.cell? ⟨g,j,none⟩=vals.toList[j]?:=by
  simp only [World.cell?,h,Array.getElem?_toList];rfl
theorem getElem?_part {α:Type} {l:List α} {a n j:Nat} {c:α} (h:((l.drop a).take n)[j]? = some c):l[a+j]? = some c∧j<n:=by
  have hj:j<n:=by
    rcases Nat.lt_or_ge j n with g | g
    · exact g
    · rw [List.getElem?_eq_none (by simp;omega)] at h;cases h
  rw [List.getElem?_take_of_lt hj,List.getElem?_drop] at h
  exact ⟨h,hj⟩
theorem cellsAt_sound {E:Env} {w0 w:World} {μ:Lie} {bl:List Blk} (hm:Mem E w0 w μ bl) {x:V} {v:Value} {cs:List A} {off:Nat} (hx:RepV E w μ bl x v) (h:cellsAt bl x=some (cs,off)) :
    ∃ blk base vs,v = .pointer (some ⟨blk,base+off,none⟩)∧RepAs E w μ bl cs vs∧∀ j c,vs[j]? = some c→w.cell? ⟨blk,base+j,none⟩=some c:=by
  unfold cellsAt at h
  split at h
  · next b off' =>
    split at h
    · next cs' hb =>
      cases h
      obtain ⟨_,hp⟩:=hx
      obtain ⟨k,c,e1,e2⟩:=hp cs hb
      obtain ⟨k',c',vals,ty,fz,h1,_,h3,_,h5⟩:=hm.blocks b _ hb
      rw [e1] at h1;cases h1
      exact ⟨k,0,vals.toList,by rw [e2];simp,h5,fun j c hj=>by rw [cell_row h3];simpa using hj⟩
    · cases h
  · next b g i off' =>
    split at h
    · next g' own nf t l hb =>
      cases hg:g == g' with
      | false=>rw [hg] at h;cases h
      | true =>
        rw [hg] at h
        simp only [cond_true,Option.some.injEq,Prod.mk.injEq] at h
        obtain ⟨rfl,rfl⟩:=h
        obtain ⟨_,hp⟩:=hx
        obtain ⟨_,hq⟩:=hp _ _ _ _ _ hb
        obtain ⟨hi,k,c,e1,e2⟩:=hq (by simpa using hg)
        rcases hm.blocks b _ hb with ⟨h1,h2⟩ | ⟨k',cap,vals,ty,fz,h1,_,h3,_,h5,h6,h7⟩
        · rw [e1] at h1;cases h1
        · rw [e1] at h1;cases h1
          have hh:=h7 i hi
          have hr:RepAs E w μ bl (t.cells (nf||t.flat) l[i]) ((vals.toList.drop (i*t.size)).take t.size):=by
            cases hf:t.flat with
            | true=>exact Holds.cells (hh.flat hf)
            | false=>rw [Bool.or_false];exact hh.cells
          refine ⟨k,i*t.size,(vals.toList.drop (i*t.size)).take t.size,e2,?_,fun j c hj=>?_⟩
          · rw [List.getD_eq_getElem?_getD,List.getElem?_eq_getElem hi];exact hr
          · obtain ⟨hj,_⟩:=getElem?_part hj
            rw [cell_row h3];exact hj
    · cases h
  · next fr t y off' =>
    cases h
    obtain ⟨blk,base,vs,e1,_,h3,h4⟩:=hx
    exact ⟨blk,base,vs,e1,h3.cells,h4⟩
  · cases h
theorem run_loadVar {P:Program} {t:TypeId} {ty:Ty} (ht:TyOf P t ty) {w:World} {blk o:Nat} {vs:List Value} (hl:vs.length=ty.size) (hc:∀ j c,vs[j]? = some c→w.cell? ⟨blk,o+j,none⟩=some c) :
    (loadVar t ⟨blk,o,none⟩).run P w = .ok (match ty.isAgg with | true=>.agg vs.toArray | false=>vs.headD undef) w:=by
  simp only [loadVar,Sem.run_bind,run_isAgg ht,Result.andThen_ok]
  cases ha:ty.isAgg with
  | true =>
    simp only [if_true,Sem.run_bind,run_sizeOf ht,Result.andThen_ok]
    have:=run_loadCells_list (P:=P) (w:=w) ⟨blk,o,none⟩ vs (fun j v h=>by rw [add_none];exact hc j v h)
    rw [hl] at this
    rw [this];rfl
  | false =>
    have hpos:=ty.size_pos
    cases vs with
    | nil=>simp at hl;omega
    | cons v r =>
      have h0:=hc 0 v rfl
      simp only [Nat.add_zero] at h0
      simp [h0]
theorem takeOut_sound {E:Env} {w:World} {μ:Lie} {bl:List Blk} {ty:Ty} {cs:List A} {vs:List Value} {off:Nat} (h:RepAs E w μ bl cs vs) (hlen:off+ty.size≤cs.length) :
    RepV E w μ bl (takeOut ty cs off) (match ty.isAgg with | true=>.agg ((vs.drop off).take ty.size).toArray | false=>((vs.drop off).take ty.size).headD undef):=by
  unfold takeOut
  cases ha:ty.isAgg with
  | true=>exact ⟨_,rfl,(h.drop off).take ty.size⟩
  | false =>
    have hpos:=ty.size_pos
    have hlt:off<cs.length:=by omega
    obtain ⟨v,hv,hr⟩:=h.get (i:=off) (a:=cs[off]) (List.getElem?_eq_getElem hlt)
    have e1:cs.getD off .undef=cs[off]:=by rw [List.getD_eq_getElem?_getD,List.getElem?_eq_getElem hlt];rfl
    have e2:((vs.drop off).take ty.size).headD undef=v:=by
      have:((vs.drop off).take ty.size)[0]? = some v:=by
        rw [List.getElem?_take_of_lt (by omega),List.getElem?_drop];simpa using hv
      cases hl:(vs.drop off).take ty.size with
      | nil=>rw [hl] at this;cases this
      | cons x r=>rw [hl] at this;simpa using this
    simp only [cond_false,e1,e2]
    exact RepV.at hr
end Go.Proofs.YtnohkcklakipoaaGreatDoor.Ev
namespace Go.Proofs.YtnohkcklakipoaaGreatDoor.Ev
open Go Go.RowKit
set_option linter.unusedVariables false
set_option linter.unusedSimpArgs false
variable {ρ:Type}
structure Cx.ok (P:Program) (cx:Cx):Prop where
  ty:∀ t ty,cx.ty t=some ty→TyOf P t ty
  cmp:∀ t,cx.cmp t=true→P.stoodInHeld t=false∧P.eqGuardType P.depth t=false
  body:∀ f fn,cx.body f=some fn→P.funcs[f]? = some fn∧fn.name ≠ "runtime.NumGoroutine" ∧ fn.body.isSome=true
  mixed:P.follows .mixedOrders=true
abbrev RunsTo' (P:Program) (w:World) (s:Sem Go.Next) (v:Value):Prop:=s.run P w = .ok (.value v) w
theorem run_equalIn_basic {P:Program} {w:World} {E:Env} {μ:Lie} {bl:List Blk} {f:TypeId} {ty:Ty} (ht:TyOf P f ty) {x y:A} {u v:Value} {c:Bool} (hx:RepA E w μ bl x u) (hy:RepA E w μ bl y v)
    (h:sameCells ty [x] [y]=some c) (hb:∀ a b,ty ≠ .pair a b) (d:Nat):(Op.equalIn (d+1) f u v).run P w = .ok c w:=by
  cases ty with
  | int k =>
    cases x <;> cases y <;> simp [sameCells] at h
    obtain ⟨rfl,rfl⟩:=h
    have e1:u = .int _ _:=hx
    have e2:v = .int _ _:=hy
    subst e1;subst e2
    simp [Op.equalIn,run_underlying ht.1];rfl
  | bool =>
    cases x <;> cases y <;> simp [sameCells] at h
    subst h
    have e1:u = .bool _:=hx
    have e2:v = .bool _:=hy
    subst e1;subst e2
    simp [Op.equalIn,run_underlying ht.1]
  | str =>
    cases x <;> cases y <;> simp [sameCells] at h
    subst h
    have e1:u = .string _:=hx
    have e2:v = .string _:=hy
    subst e1;subst e2
    simp only [Op.equalIn,Sem.run_bind,run_underlying ht.1,Result.andThen_ok,Sem.run_pure]
    rw [beq_toListBytes,bytes_same]
  | pair a b=>exact absurd rfl (hb a b)
  | err=>simp [sameCells] at h
  | adr=>simp [sameCells] at h
  | slice e=>simp [sameCells] at h
  | struct b=>simp [sameCells] at h
theorem size_one {ty:Ty} {x y:A} {c:Bool} (hb:∀ a b,ty ≠ .pair a b) (h:sameCells ty [x] [y]=some c):ty.size=1∧ty.isAgg=false:=by
  cases ty <;> first | exact ⟨rfl,rfl⟩ | exact absurd rfl (hb _ _) | (simp [sameCells] at h)
theorem sameCells_base {ty:Ty} {r q:List A} {c:Bool} (hb:∀ a b,ty ≠ .pair a b) (h:sameCells ty r q=some c):∃ x y,r=[x]∧q=[y]:=by
  cases ty with
  | pair a b=>exact absurd rfl (hb a b)
  | int k=>unfold sameCells at h;split at h <;> first | exact ⟨_,_,rfl,rfl⟩ | simp_all
  | bool=>unfold sameCells at h;split at h <;> first | exact ⟨_,_,rfl,rfl⟩ | simp_all
  | str=>unfold sameCells at h;split at h <;> first | exact ⟨_,_,rfl,rfl⟩ | simp_all
  | _=>simp [sameCells] at h
theorem sameCells_pair {a b:Ty} {as bs:List A} {c:Bool} (h:sameCells (.pair a b) as bs=some c) :
    ∃ x r y q s t,as=x :: r∧bs=y :: q∧sameCells a [x] [y]=some s∧sameCells b r q=some t∧c=(s&&t):=by
  cases as with
  | nil=>simp [sameCells] at h
  | cons x r =>
    cases bs with
    | nil=>simp [sameCells] at h
    | cons y q =>
      have h':(match sameCells a [x] [y],sameCells b r q with
        | some s,some t=>some (s&&t)
        | _,_=>none)=some c:=by rw [← h];rfl
      split at h'
      · next s t h1 h2=>exact ⟨x,r,y,q,s,t,rfl,rfl,h1,h2,by cases h';rfl⟩
      · cases h'
theorem run_eqFields {P:Program} {w:World} {E:Env} {μ:Lie} {bl:List Blk} (d:Nat):∀ (ty:Ty) (fs:List Field) (off:Nat) (as bs:List A) (us vs:List Value) (xs ys:List Value) (c:Bool),
    (TyF P ty).2 fs off→RepAs E w μ bl as us→RepAs E w μ bl bs vs→sameCells ty as bs=some c →
    (∀ j u,us[j]? = some u→xs[off+j]? = some u)→(∀ j u,vs[j]? = some u→ys[off+j]? = some u) →
    (Op.eqFields (d+1) xs.toArray ys.toArray fs).run P w = .ok c w:=by
  have base:∀ (ty:Ty) (f:Field) (fs:List Field) (off:Nat) (x y:A) (u v:Value) (xs ys:List Value) (c:Bool),TyOf P f.type ty→f.name ≠ "_" → f.offset=off→(∀ a b,ty ≠ .pair a b) →
      RepA E w μ bl x u→RepA E w μ bl y v→sameCells ty [x] [y]=some c→xs[off]? = some u→ys[off]? = some v →
      (Op.eqFields (d+1) xs.toArray ys.toArray (f :: fs)).run P w=(if c=true then (Op.eqFields (d+1) xs.toArray ys.toArray fs).run P w else .ok false w):=by
    intro ty f fs off x y u v xs ys c ht hn ho hp hx hy hc h1 h2
    have hpart:∀ (zs:List Value) (z:Value),zs[off]? = some z→(part f.type zs.toArray f.offset).run P w = .ok z w:=by
      intro zs z hz
      have:=(size_one hp hc).2
      simp [part,run_isAgg ht,this,ho,hz]
    simp only [Op.eqFields,if_pos hn,Sem.run_bind,hpart xs u h1,hpart ys v h2,Result.andThen_ok,run_equalIn_basic ht hx hy hc hp d]
    cases c <;> simp
  intro ty
  induction ty with
  | pair a b iha ihb =>
    intro fs off as bs us vs xs ys c hf ha hb hc h1 h2
    simp only [TyF] at hf
    split at hf
    · next f g r =>
      obtain ⟨e1,⟨e2,e3⟩,e4⟩:=hf
      obtain ⟨x,r',y,q,s,t,rfl,rfl,hs,ht,rfl⟩:=sameCells_pair hc
      have hap:∀ p q,a ≠ .pair p q:=by rintro p q rfl;exact e2.elim
      cases us with
      | nil=>exact ha.elim
      | cons u us =>
        cases vs with
        | nil=>exact hb.elim
        | cons v vs =>
          have hsz:=(size_one hap hs).1
          rw [base a f (g :: r) off x y u v xs ys s e2 e3 e1 hap ha.1 hb.1 hs (h1 0 u rfl) (h2 0 v rfl)]
          cases s with
          | false=>simp
          | true =>
            simp only [if_true,Bool.true_and]
            rw [hsz] at e4
            refine ihb (g :: r) (off+1) r' q us vs xs ys t e4 ha.2 hb.2 ht (fun j u hj=>?_) (fun j u hj=>?_)
            · have:=h1 (j+1) u (by simpa using hj);rwa [show off+1+j=off+(j+1) by omega]
            · have:=h2 (j+1) u (by simpa using hj);rwa [show off+1+j=off+(j+1) by omega]
    · exact hf.elim
  | _ =>
    intro fs off as bs us vs xs ys c hf ha hb hc h1 h2
    obtain ⟨f,rfl,e1,e2,e3⟩:=TyF.last (by intro a b e;cases e) hf
    obtain ⟨x,y,rfl,rfl⟩:=sameCells_base (by intro a b e;cases e) hc
    cases us with
    | nil=>exact ha.elim
    | cons u us =>
      cases vs with
      | nil=>exact hb.elim
      | cons v vs =>
        rw [base _ f [] off x y u v xs ys c e2 e3 e1 (by intro a b e;cases e) ha.1 hb.1 hc (h1 0 u rfl) (h2 0 v rfl)]
        cases c <;> simp [Op.eqFields]
theorem run_equal {P:Program} {w:World} {t:TypeId} {x y:Value} {c:Bool} (h:∀ d,(Op.equalIn (d+2) t x y).run P w = .ok c w):(Op.equal t x y).run P w = .ok c w:=h 9998
theorem evBin_sound {P:Program} {cx:Cx} (hcx:cx.ok P) {E:Env} {w0 w:World} {μ:Lie} {st:St} {a:Act} (hR:Rel E w0 μ st a w) {op:BinOp} {x y:Operand} {t:TypeId} {K:V→Option ρ} {r:ρ} (h:evBin (cx.ty t) (cx.cmp t) op x y st K=some r) :
    ∃ X v,K X=some r∧RepV E w μ st.bl X v∧RunsTo P w (do eqGuard op t x y (a.eval x) (a.eval y);binOp op t (a.eval x) (a.eval y)) v:=by
  have hx:=hR.get x
  have hy:=hR.get y
  have shiftCase:∀ {op:BinOp},(op = .shl∨op = .shr)→∀ {k k':IntKind} {m n:Int},st.get x = .at (.int k m)→st.get y = .at (.int k' n)→0≤n →
      RunsTo P w (do eqGuard op t x y (a.eval x) (a.eval y);binOp op t (a.eval x) (a.eval y)) (.int k (match op with | .shl=>shiftL k m n | _=>shiftR k m n)):=by
    intro op hop k k' m n e1 e2 hn
    rw [e1] at hx;rw [e2] at hy
    have ex:a.eval x = .int k m:=hx
    have ey:a.eval y = .int k' n:=hy
    rw [ex,ey]
    have hneg:¬ n<0:=by omega
    rcases hop with rfl | rfl
    · simp [RunsTo,eqGuard,binOp,Op.shift,hneg,shiftL,wr_eq]
    · simp [RunsTo,eqGuard,binOp,Op.shift,hneg,shiftR]
  unfold evBin at h
  split at h
  · split at h
    · next k m k' n e1 e2 =>
      obtain ⟨hn,h⟩:=cond_none h
      exact ⟨_,_,h,rfl,shiftCase (Or.inl rfl) e1 e2 (of_decide_eq_true hn)⟩
    · cases h
  · split at h
    · next k m k' n e1 e2 =>
      obtain ⟨hn,h⟩:=cond_none h
      exact ⟨_,_,h,rfl,shiftCase (Or.inr rfl) e1 e2 (of_decide_eq_true hn)⟩
    · cases h
  · next op n1 n2 =>
    split at h
    · next k m k' n e1 e2 =>
      split at h
      · next ek =>
        subst ek
        rw [e1] at hx;rw [e2] at hy
        have ex:a.eval x = .int k m:=hx
        have ey:a.eval y = .int k n:=hy
        obtain ⟨X,v,h1,h2,h3⟩:=binInt_sound (P:=P) (E:=E) (w:=w) (μ:=μ) (bl:=st.bl) (t:=t) n1 n2 h
        refine ⟨_,v,h1,RepV.at h2,?_⟩
        rw [ex,ey]
        refine run_then (x:=()) ?_ h3
        unfold eqGuard
        split <;> rfl
      · cases h
    · next m n e1 e2 =>
      rw [e1] at hx;rw [e2] at hy
      have ex:a.eval x = .string m:=hx
      have ey:a.eval y = .string n:=hy
      obtain ⟨X,v,h1,h2,h3⟩:=binStr_sound (P:=P) (E:=E) (w:=w) (μ:=μ) (bl:=st.bl) (t:=t) h
      refine ⟨_,v,h1,RepV.at h2,?_⟩
      rw [ex,ey]
      refine run_then (x:=()) ?_ h3
      unfold eqGuard
      split <;> rfl
    · next m n e1 e2 =>
      split at h
      · next ht =>
        rw [e1] at hx;rw [e2] at hy
        have ex:a.eval x = .bool m:=hx
        have ey:a.eval y = .bool n:=hy
        have hu:=(hcx.ty t _ ht).1
        have hrun:(Op.equal t (.bool m) (.bool n)).run P w = .ok (m == n) w:=run_equal fun d=>by simp [Op.equalIn,run_underlying hu]
        have hg:∀ op:BinOp,(eqGuard op t x y (.bool m) (.bool n)).run P w = .ok () w:=by intro op;unfold eqGuard;split <;> rfl
        rw [ex,ey]
        split at h
        · exact ⟨_,_,h,rfl,run_then (hg _) (by simp [RunsTo,binOp,hrun])⟩
        · exact ⟨_,_,h,rfl,run_then (hg _) (by simp [RunsTo,binOp,hrun])⟩
        · cases h
      · cases h
    · next m e1 =>
      split at h
      · next ht =>
        obtain ⟨hn,h⟩:=cond_none h
        rw [e1] at hx
        have ey:y = .const .nilIface:=by
          unfold isNil at hn;split at hn <;> first | rfl | cases hn
        subst ey
        obtain ⟨⟨ms,hu⟩,_⟩:=hcx.ty t _ ht
        have hrun:(Op.equal t (a.eval x) .nilIface).run P w = .ok (!m) w:=by
          cases m with
          | true=>obtain ⟨t',u,e⟩:=hx;rw [e];exact run_equal fun d=>by simp [Op.equalIn,run_underlying hu]
          | false=>have e:a.eval x = .nilIface:=hx;rw [e];exact run_equal fun d=>by simp [Op.equalIn,run_underlying hu]
        have hg:∀ op:BinOp,(eqGuard op t x (.const .nilIface) (a.eval x) .nilIface).run P w = .ok () w:=by
          intro op
          cases m with
          | true=>obtain ⟨t',u,e⟩:=hx;rw [e];unfold eqGuard;cases op <;> rfl
          | false=>have e:a.eval x = .nilIface:=hx;rw [e];unfold eqGuard;cases op <;> simp
        rw [show a.eval (.const .nilIface) = .nilIface from rfl]
        have hb:∀ op,op = .eql∨op = .neq→binOp op t (a.eval x) .nilIface=(match op with | .eql=>do pure (.bool (← Op.equal t (a.eval x) .nilIface)) | _=>do pure (.bool (!(← Op.equal t (a.eval x) .nilIface)))):=by
          intro op hop
          cases m with
          | true=>obtain ⟨t',u,e⟩:=hx;rw [e];rcases hop with rfl | rfl <;> rfl
          | false=>have e:a.eval x = .nilIface:=hx;rw [e];rcases hop with rfl | rfl <;> rfl
        split at h
        · exact ⟨_,.bool _,h,rfl,run_then (hg _) (by rw [hb _ (Or.inl rfl)];simp [RunsTo,hrun])⟩
        · exact ⟨_,.bool _,h,rfl,run_then (hg _) (by rw [hb _ (Or.inr rfl)];simp [RunsTo,hrun])⟩
        · cases h
      · cases h
    · next m n e1 e2 =>
      split at h
      · next u ht =>
        obtain ⟨hc,h⟩:=cond_none h
        split at h
        · next c hs =>
          rw [e1] at hx;rw [e2] at hy
          obtain ⟨us,ex,hus⟩:=hx
          obtain ⟨vs,ey,hvs⟩:=hy
          obtain ⟨hc1,hc2⟩:=hcx.cmp t hc
          obtain ⟨⟨fs,hu,hf⟩,_⟩:=hcx.ty t _ ht
          have hfo:P.fieldsOf t=fs:=by simp [Program.fieldsOf,hu]
          have hrun:(Op.equal t (.agg us.toArray) (.agg vs.toArray)).run P w = .ok c w:=by
            refine run_equal fun d=>?_
            rw [run_equalIn_struct w _ t _ _ (by rw [hfo];exact hu) hc1,hfo]
            exact run_eqFields d u fs.toList 0 m n us vs us vs c hf hus hvs hs (fun j u hj=>by simpa using hj) (fun j u hj=>by simpa using hj)
          have hg:∀ op:BinOp,(eqGuard op t x y (.agg us.toArray) (.agg vs.toArray)).run P w = .ok () w:=by
            intro op
            unfold eqGuard
            cases op <;> first | rfl | simp [hc2]
          rw [ex,ey]
          split at h
          · exact ⟨_,.bool _,h,rfl,run_then (hg _) (by simp [RunsTo,binOp,hrun])⟩
          · exact ⟨_,.bool _,h,rfl,run_then (hg _) (by simp [RunsTo,binOp,hrun])⟩
          · cases h
        · cases h
      · cases h
    · cases h
end Go.Proofs.YtnohkcklakipoaaGreatDoor.Ev
