/- The abstract machine: its operations and its evaluator. -/
import Derived.Test.YtfkbofbdonmpfaaAm1
set_option linter.unusedSimpArgs false
set_option linter.unusedVariables false
set_option linter.unusedSectionVars false
set_option linter.unnecessarySimpa false
namespace Go.Am

variable {α : Type}
abbrev Env := T V

def gv (e : Env) (t : Nat) : V := (e.get t).getD undefV

def ev (e : Env) : Operand → V
  | .tmp t => gv e t
  | .const v => ofVal v
  | .global g => .p g 0
  | .func f => .f f []

def evs (e : Env) : List Operand → List V
  | [] => []
  | x :: l => ev e x :: evs e l

/-- The type's row. -/
def ti (x : X) (t : TypeId) (k : TI → Option α) : Option α := match x.tt.get t with
  | some i => k i
  | none => none

/-- Cells from 'o' on, 'n' of them. -/
def takeN (l : List V) (n : Nat) : Option (List V) := match n with
  | 0 => some []
  | n + 1 => match l with
    | [] => none
    | v :: l => match takeN l n with
      | some r => some (v :: r)
      | none => none

def sub (l : List V) (o n : Nat) : Option (List V) := takeN (l.drop o) n

def over : List V → List V → Option (List V)
  | l, [] => some l
  | [], _ :: _ => none
  | _ :: l, v :: vs => match over l vs with
    | some r => some (v :: r)
    | none => none

def overAt : List V → Nat → List V → Option (List V)
  | l, 0, vs => over l vs
  | [], _ + 1, [] => none
  | [], _ + 1, _ :: _ => none
  | x :: l, o + 1, vs => match overAt l o vs with
    | some r => some (x :: r)
    | none => none

def cellsOfV : V → List V
  | .a l => l
  | v => [v]

/-- A variable's value, of the cells. -/
def vOfCells (i : TI) (l : List V) : Option V := bif i.agg then some (.a l) else match l with
  | [v] => some v
  | _ => none

def oneV : V → Bool
  | .a _ | .t _ => false
  | _ => true

def loadB (i : TI) (g : Nat → Option B) (r o : Nat) : Option V := match g r with
  | some (.c l _ _) => match sub l o i.sz with
    | some vs => vOfCells i vs
    | none => none
  | _ => none

def storeB (h : H) (r o : Nat) (vs : List V) : Option H := match h.mem.get r with
  | some (.c l ty own) => bif own && vs.all oneV then match overAt l o vs with
    | some l' => T.seq (h.mem.put r (some (.c l' ty true))) fun m => some ⟨h.next, m⟩
    | none => none else none
  | _ => none

def newB (h : H) (b : B) (k : H → α) : α := fN (h.next + 1) fun n => T.seq (h.mem.put h.next (some b)) fun m => k ⟨n, m⟩

/-- Parts laid over cells. -/
def fillA (cells : List V) : List (Nat × V) → Option (List V)
  | [] => some cells
  | (o, v) :: ps => match overAt cells o (cellsOfV v) with
    | some cs => fillA cs ps
    | none => none

def fieldsAt (fs : List (Nat × Nat × Nat)) (n : Nat) : Option (Nat × Nat × Nat) := fs[n]?

def placesSt (fs : List (Nat × Nat × Nat)) : List (Nat × V) → Option (List (Nat × V))
  | [] => some []
  | (n, v) :: ps => match fs[n]? with
    | some (o, _, sz) => bif Nat.beq (cellsOfV v).length sz then match placesSt fs ps with
      | some r => some ((o, v) :: r)
      | none => none else none
    | none => none

def placesArr (sz : Nat) : List (Nat × V) → Option (List (Nat × V))
  | [] => some []
  | (n, v) :: ps => bif Nat.beq (cellsOfV v).length sz then match placesArr sz ps with
      | some r => some ((n * sz, v) :: r)
      | none => none else none

def evParts (e : Env) : List (Nat × Operand) → List (Nat × V)
  | [] => []
  | (n, x) :: l => (n, ev e x) :: evParts e l

def repl (n : Nat) (zs : List V) : List V := match n with
  | 0 => []
  | n + 1 => zs ++ repl n zs

def lenV : V → Option Nat
  | .ns => some 0
  | .se _ _ _ => some 0
  | .ze _ => some 0
  | .sl _ _ n _ _ => some n
  | .s l => some l.length
  | _ => none

/-- Two rows of cells held against each other. -/
def eqK : List Kd → List V → List V → Option Bool
  | [], [], [] => some true
  | .i :: ks, .i k m :: xs, .i k' n :: ys => if k = k' then match eqK ks xs ys with
    | some b => some (decide (m = n) && b)
    | none => none else none
  | .b :: ks, .b x :: xs, .b y :: ys => match eqK ks xs ys with
    | some b => some ((x == y) && b)
    | none => none
  | .s :: ks, .s x :: xs, .s y :: ys => match eqK ks xs ys with
    | some b => some ((x == y) && b)
    | none => none
  | _, _, _ => none

def eqF (i : TI) (x y : V) : Option Bool := match i.flat with
  | none => none
  | some ks => match i.agg, x, y with
    | true, .a l, .a l' => eqK ks l l'
    | true, _, _ => none
    | false, x, y => eqK ks [x] [y]

def eqOp (x : X) (i : TI) (u v : V) : Option Bool :=
  match i.k, u, v with
  | .ptr e, .p r o, .p r' o' => ti x e fun ie => bif Nat.beq ie.sz 0 then none else bif Nat.beq r r' then some (Nat.beq o o') else none
  | .ptr _, .np, .np => some true
  | .ptr _, .np, .p _ _ => some false
  | .ptr _, .p _ _, .np => some false
  | .sl _, .ns, .ns => some true
  | .sl _, .ns, .sl _ _ _ _ _ => some false
  | .sl _, .sl _ _ _ _ _, .ns => some false
  | .sl _, .ns, .se _ _ _ => some false
  | .sl _, .se _ _ _, .ns => some false
  | .sl _, .ns, .ze _ => some false
  | .sl _, .ze _, .ns => some false
  | .mp _ _, .nm, .nm => some true
  | .mp _ _, .nm, .m _ => some false
  | .mp _ _, .m _, .nm => some false
  | .fn, .nf, .nf => some true
  | .fn, .nf, .f _ _ => some false
  | .fn, .f _ _, .nf => some false
  | .ifc _, .ni, .ic _ _ => some false
  | .ifc _, .ic _ _, .ni => some false
  | _, _, _ => eqF i u v

def ibin (op : BinOp) (k : IntKind) (x y : Int) : Option V :=
  match op with
  | .add => some (.i k (k.wrap (x + y)))
  | .sub => some (.i k (k.wrap (x - y)))
  | .mul => some (.i k (k.wrap (x * y)))
  | .quo => if y = 0 then none else some (.i k (k.wrap (x.tdiv y)))
  | .rem => if y = 0 then none else some (.i k (x.tmod y))
  | .and => some (.i k (k.wrap (BitVec.ofInt k.bits x &&& BitVec.ofInt k.bits y).toNat))
  | .or => some (.i k (k.wrap (BitVec.ofInt k.bits x ||| BitVec.ofInt k.bits y).toNat))
  | .xor => some (.i k (k.wrap (BitVec.ofInt k.bits x ^^^ BitVec.ofInt k.bits y).toNat))
  | .andNot => some (.i k (k.wrap (BitVec.ofInt k.bits x &&& ~~~(BitVec.ofInt k.bits y)).toNat))
  | .eql => some (.b (decide (x = y)))
  | .neq => some (.b (!decide (x = y)))
  | .lss => some (.b (decide (x < y)))
  | .leq => some (.b (decide (x ≤ y)))
  | .gtr => some (.b (decide (y < x)))
  | .geq => some (.b (decide (y ≤ x)))
  | _ => none

def shft (op : BinOp) (k : IntKind) (x : Int) (y : Int) : Option V :=
  if y < 0 then none else
  match op with
  | .shl => some (.i k (k.wrap (x * 2 ^ min y.toNat k.bits)))
  | .shr => some (.i k (x.fdiv (2 ^ min y.toNat k.bits)))
  | _ => none

def lessB : List UInt8 → List UInt8 → Bool
  | _, [] => false
  | [], _ :: _ => true
  | a :: x, b :: y => a < b || (a == b && lessB x y)

def sbin (op : BinOp) (x y : List UInt8) : Option V :=
  match op with
  | .add => bif Nat.ble (x.length + y.length) 1099511627776 then some (.s (x ++ y)) else none
  | .eql => some (.b (x == y))
  | .neq => some (.b (!(x == y)))
  | .lss => some (.b (lessB x y))
  | .leq => some (.b (lessB x y || x == y))
  | .gtr => some (.b (!(lessB x y || x == y)))
  | .geq => some (.b (!lessB x y))
  | _ => none

def bin (x : X) (op : BinOp) (t : TypeId) (u v : V) : Option V :=
  match u, v with
  | .i k m, .i k' n => match op with
    | .shl => shft .shl k m n
    | .shr => shft .shr k m n
    | op => if k = k' then ibin op k m n else none
  | .s m, .s n => sbin op m n
  | u, v => match op with
    | .eql => ti x t fun i => match eqOp x i u v with
      | some r => some (.b r)
      | none => none
    | .neq => ti x t fun i => match eqOp x i u v with
      | some r => some (.b (!r))
      | none => none
    | _ => none

def un (op : UnOp) (v : V) : Option V :=
  match op, v with
  | .neg, .i k n => some (.i k (k.wrap (0 - n)))
  | .xor, .i k n => ibin .xor k (if k.signed then -1 else k.max) n
  | .not, .b x => some (.b (!x))
  | _, _ => none

def asNat (v : V) : Option Nat := match v with
  | .i _ (.ofNat n) => some n
  | _ => none

def bound (v : Option V) (dflt lim : Nat) : Option Nat := match v with
  | none => some dflt
  | some (.i _ (.ofNat n)) => bif Nat.ble n lim then some n else none
  | some _ => none

def goS (r o len cap : Nat) (el : Bool) (sz : Nat) (lo hi mx : Option V) : Option V :=
  match bound mx cap cap with
  | none => none
  | some m => match bound hi len m with
    | none => none
    | some h => match bound lo 0 h with
      | none => none
      | some l => match mx, hi with
        | some _, none => none
        | some _, some _ => some (.sl r (bif Nat.beq m l then o else o + l * sz) (h - l) (m - l) false)
        | none, _ => bif Nat.beq m l then (bif Nat.beq h l then (bif el then some (.se r o (o + l * sz)) else some (.sl r o 0 0 false)) else none) else bif Nat.blt l m then some (.sl r (o + l * sz) (h - l) (m - l) el) else none

def goE (v : V) (lo hi mx : Option V) : Option V :=
  match bound mx 0 0 with
  | none => none
  | some _ => match bound hi 0 0 with
    | none => none
    | some _ => match bound lo 0 0 with
      | none => none
      | some _ => match mx, hi with
        | some _, none => none
        | some _, some _ => match v with
          | .se _ _ _ => none
          | v => some v
        | none, _ => some v

/-- s[lo:hi:mx] of a slice, an array's address, a string. -/
def slc (x : X) (t : TypeId) (v : V) (lo hi mx : Option V) : Option V :=
  ti x t fun i =>
  match i.k, v with
  | .str, .s l => match mx with
    | some _ => none
    | none => match bound hi l.length l.length with
      | none => none
      | some h => match bound lo 0 h with
        | none => none
        | some k => some (.s ((l.drop k).take (h - k)))
  | .sl e, .sl r o len cap el => ti x e fun j => goS r o len cap el j.sz lo hi mx
  | .sl e, .ns => ti x e fun _ => goE .ns lo hi mx
  | .sl e, .se r o' o => ti x e fun _ => goE (.se r o' o) lo hi mx
  | .sl e, .ze r => ti x e fun _ => goE (.ze r) lo hi mx
  | .arr n e, .p r o => ti x e fun j => goS r o n n false j.sz lo hi mx
  | _, _ => none

def mkF (e : Env) (fn : Fn) (first cs : Array Operand) : Option V := match fn with
  | .func f => match first.toList with
    | [] => some (.f f (evs e cs.toList))
    | _ => none
  | _ => none

def lenP (i : TI) (v : V) : Option V := match i.k, v with
  | .str, .s l => some (.i .i64 l.length)
  | .arr n _, _ => some (.i .i64 n)
  | .sl _, .ns => some (.i .i64 0)
  | .sl _, .se _ _ _ => some (.i .i64 0)
  | .sl _, .ze _ => some (.i .i64 0)
  | .sl _, .sl _ _ n _ _ => some (.i .i64 n)
  | .mp _ _, .nm => some (.i .i64 0)
  | _, _ => none

def capP (i : TI) (v : V) : Option V := match i.k, v with
  | .arr n _, _ => some (.i .i64 n)
  | .sl _, .ns => some (.i .i64 0)
  | .sl _, .ze _ => some (.i .i64 0)
  | .sl _, .sl _ _ _ n false => some (.i .i64 n)
  | _, _ => none

def minP (u v : V) : Option V := match u, v with
  | .i k m, .i _ n => some (.i k (if n < m then n else m))
  | _, _ => none

def maxP (u v : V) : Option V := match u, v with
  | .i k m, .i _ n => some (.i k (if m < n then n else m))
  | _, _ => none

def builtinP (x : X) (e : Env) (c : Call) : Option V := match c.callee with
  | .builtin b => match b with
    | .len => match c.args.toList, c.argTypes.toList with
      | [u], [t] => ti x t fun i => lenP i (ev e u)
      | _, _ => none
    | .cap => match c.args.toList, c.argTypes.toList with
      | [u], [t] => ti x t fun i => capP i (ev e u)
      | _, _ => none
    | .min => match c.args.toList with
      | [u, v] => minP (ev e u) (ev e v)
      | _ => none
    | .max => match c.args.toList with
      | [u, v] => maxP (ev e u) (ev e v)
      | _ => none
    | _ => none
  | _ => none

/-- The operations that look at no memory. -/
def opP (x : X) (e : Env) (o : Oper) : Option V :=
  match o.op with
  | .move u => some (ev e u)
  | .assign u => some (ev e u)
  | .pick c u v => match ev e c with
    | .b true => some (ev e u)
    | .b false => some (ev e v)
    | _ => none
  | .build t ps => ti x t fun i => match i.k with
    | .st fs => match placesSt fs (evParts e ps.toList) with
      | some l => match fillA i.zero l with
        | some cs => some (.a cs)
        | none => none
      | none => none
    | .arr _ el => ti x el fun j => match placesArr j.sz (evParts e ps.toList) with
      | some l => match fillA i.zero l with
        | some cs => some (.a cs)
        | none => none
      | none => none
    | _ => none
  | .nilCheck u => match ev e u with
    | .p r k => some (.p r k)
    | .f fn cs => some (.f fn cs)
    | .ic t v => some (.ic t v)
    | _ => none
  | .binOp op t u v _ => bin x op t (ev e u) (ev e v)
  | .unOp op _ u => un op (ev e u)
  | .makeInterface t u => ti x t fun i => match i.k with
    | .ifc _ => none
    | _ => some (.ic t (ev e u))
  | .makeFunc fn first cs => mkF e fn first cs
  | .slice t u lo hi mx => slc x t (ev e u) (lo.map (ev e)) (hi.map (ev e)) (mx.map (ev e))
  | .fieldAddr s u f => ti x s fun i => match i.k with
    | .st fs => match fs[f]? with
      | some (off, _, sz) => bif Nat.beq sz 0 then none else match ev e u with
        | .p r o => some (.p r (o + off))
        | _ => none
      | none => none
    | _ => none
  | .field t u f => ti x t fun i => match i.k with
    | .st fs => match fs[f]? with
      | some (off, ft, sz) => bif Nat.beq sz 0 then none else ti x ft fun j => match ev e u with
        | .a l => match sub l off j.sz with
          | some cs => vOfCells j cs
          | none => none
        | _ => none
      | none => none
    | _ => none
  | .indexAddr t u ix => ti x t fun i => match ev e ix with
    | .i _ (.ofNat n) => match i.k, ev e u with
      | .arr len el, .p r o => bif Nat.blt n len then ti x el fun j => some (.p r (o + n * j.sz)) else none
      | .sl el, .sl r o len _ _ => bif Nat.blt n len then ti x el fun j => some (.p r (o + n * j.sz)) else none
      | _, _ => none
    | _ => none
  | .index t u ix => ti x t fun i => match ev e ix with
    | .i _ (.ofNat n) => match i.k, ev e u with
      | .arr len el, .a cs => bif Nat.blt n len then ti x el fun j => match sub cs (n * j.sz) j.sz with
          | some vs => vOfCells j vs
          | none => none else none
      | .str, .s l => match l[n]? with
        | some c => some (.i .u8 c.toNat)
        | none => none
      | _, _ => none
    | _ => none
  | .extract u ix => match ev e u with
    | .t l => l[ix]?
    | _ => none
  | .convert s d u => ti x s fun _ => ti x d fun j => match j.k, ev e u with
    | .int k, .i _ n => some (.i k (k.wrap n))
    | .str, .s l => some (.s l)
    | _, _ => none
  | .call c => builtinP x e c
  | _ => none

def bytesOf : List V → Option (List UInt8)
  | [] => some []
  | .i .u8 n :: l => match bytesOf l with
    | some r => some (UInt8.ofNat n.toNat :: r)
    | none => none
  | _ :: _ => none

def findKey (i : TI) (k : V) : List (V × V × Nat) → Nat → Option (Option (Nat × V))
  | [], _ => match eqF i k k with
    | some _ => some none
    | none => none
  | (k', v, _) :: es, n => match eqF i k k' with
    | some true => some (some (n, v))
    | some false => findKey i k es (n + 1)
    | none => none

def entries (g : Nat → Option B) (v : V) : Option (List (V × V × Nat)) := match v with
  | .nm => some []
  | .m r => match g r with
    | some (.mp es _) => some es
    | _ => none
  | _ => none

def builtinR (x : X) (e : Env) (g : Nat → Option B) (c : Call) : Option V := match c.callee with
  | .builtin b => match b with
    | .len => match c.args.toList, c.argTypes.toList with
      | [u], [t] => ti x t fun i => match i.k with
        | .mp _ _ => match entries g (ev e u) with
          | some es => some (.i .i64 es.length)
          | none => none
        | _ => none
      | _, _ => none
    | _ => none
  | _ => none

/-- The operations that look at memory and leave it. -/
def opR (x : X) (e : Env) (g : Nat → Option B) (o : Oper) : Option V :=
  match o.op with
  | .load t u => ti x t fun i => match ev e u with
    | .p r k => loadB i g r k
    | _ => none
  | .lookup t m ix ok => ti x t fun i => match i.k with
    | .mp kt et => ti x kt fun kti => ti x et fun eti => match entries g (ev e m) with
      | some es => match findKey kti (ev e ix) es 0 with
        | some (some (_, v)) => some (bif ok then .t [v, .b true] else v)
        | some none => some (bif ok then .t [eti.zv, .b false] else eti.zv)
        | none => none
      | none => none
    | _ => none
  | .convert s d u => ti x s fun i => ti x d fun j => match i.k, j.k, ev e u with
    | .sl el, .str, .ns => ti x el fun q => match q.k with
      | .int .u8 => some (.s [])
      | _ => none
    | .sl el, .str, .se _ _ _ => ti x el fun q => match q.k with
      | .int .u8 => some (.s [])
      | _ => none
    | .sl el, .str, .ze _ => ti x el fun q => match q.k with
      | .int .u8 => some (.s [])
      | _ => none
    | .sl el, .str, .sl r o n _ _ => ti x el fun q => match q.k, g r with
      | .int .u8, some (.c l _ _) => match sub l o n with
        | some vs => match bytesOf vs with
          | some bs => some (.s bs)
          | none => none
        | none => none
      | _, _ => none
    | .sl _, .sl el, .sl r o n c b => ti x el fun q => match q.k, g r with
      | .int .u8, some (.c _ _ own) => bif own && Nat.beq s d then some (.sl r o n c b) else none
      | _, _ => none
    | _, _, _ => none
  | .call c => builtinR x e g c
  | _ => none

/-- The operations that make one block: the block, and the value that leads to it. -/
def opN (x : X) (e : Env) (r : Nat) (o : Oper) : Option (B × V) :=
  match o.op with
  | .alloc t => ti x t fun i => some (B.c i.zero t true, V.p r 0)
  | .box t u => some (B.c (cellsOfV (ev e u)) t true, V.p r 0)
  | .buildSlice t n ps => ti x t fun i => match i.k with
    | .sl el => ti x el fun j => bif Nat.ble (n * j.sz) 16777216 then match placesArr j.sz (evParts e ps.toList) with
      | some l => match fillA (repl n j.zero) l with
        | some cs => some (B.c cs el true, V.sl r 0 n n false)
        | none => none
      | none => none else none
    | _ => none
  | .makeSlice t u v => ti x t fun i => match i.k, ev e u, ev e v with
    | .sl el, .i _ (.ofNat n), .i _ (.ofNat c) => ti x el fun j => bif Nat.ble n c && Nat.ble (c * j.by_) 1099511627776 && Nat.ble c 1099511627776 then some (B.c (repl c j.zero) el true, V.sl r 0 n c false) else none
    | _, _, _ => none
  | .makeMap t none => ti x t fun i => match i.k with
    | .mp _ _ => some (B.mp [] 0, V.m r)
    | _ => none
  | .convert s d u => ti x s fun i => ti x d fun j => match i.k, j.k, ev e u with
    | .str, .sl el, .s l => ti x el fun q => match q.k with
      | .int .u8 => bif Nat.beq q.sz 1 then some (B.c (l.map fun c => V.i .u8 c.toNat) el true, V.sl r 0 l.length l.length true) else none
      | _ => none
    | _, _, _ => none
  | .range t u => ti x t fun i => match i.k, ev e u with
    | .str, .s l => some (B.it l 0, V.p r 0)
    | _, _ => none
  | _ => none


def fcells (h : H) (j : TI) (n : Nat) (v : V) : Option (List V) := match v with
  | .ns => bif Nat.beq n 0 then some [] else none
  | .se _ _ _ => bif Nat.beq n 0 then some [] else none
  | .ze _ => bif Nat.beq n 0 then some [] else none
  | .s l => some ((l.take n).map fun c => V.i .u8 c.toNat)
  | .sl r o _ _ _ => match h.mem.get r with
    | some (.c l _ _) => sub l o (n * j.sz)
    | _ => none
  | _ => none

def most : Nat := 1099511627776

/-- append of 'n' elements with the cells 'cs'. -/
def appA (h : H) (el : TypeId) (j : TI) (s : V) (n : Nat) (cs : List V) : Option (V × H) :=
  bif Nat.beq n 0 then match s with
    | .ns | .se _ _ _ | .ze _ => some (s, h)
    | .sl _ _ len cap _ => bif Nat.ble len cap then some (s, h) else none
    | _ => none
  else match s with
  | .ns | .ze _ => bif Nat.ble (n * j.by_) most && Nat.ble n most then newB h (.c cs el true) fun h' => some (.sl h.next 0 n n true, h') else none
  | .se r _ o => match h.mem.get r with
    | some (.c l ty own) => bif own && Nat.beq l.length o && Nat.beq ty el && Nat.beq cs.length (n * j.sz) && cs.all oneV && Nat.ble (n * j.by_) most && Nat.ble n most then
        T.seq (h.mem.put r none) fun m => newB ⟨h.next, m⟩ (.c cs el true) fun h' => some (.sl h.next 0 n n true, h') else none
    | _ => none
  | .sl r o len cap e => bif Nat.ble (len + n) cap && Nat.ble (n * j.by_) most then match storeB h r (o + len * j.sz) cs with
      | some h' => some (.sl r o (len + n) cap e, h')
      | none => none
    else match h.mem.get r with
    | some (.c l ty own) => match sub l o (len * j.sz) with
      | some old => bif Nat.ble ((len + n) * j.by_) most && Nat.ble (len + n) most then
          bif e then bif own && Nat.ble len cap && Nat.beq l.length (o + cap * j.sz) && Nat.beq ty el && Nat.beq cs.length (n * j.sz) && cs.all oneV then
            T.seq (h.mem.put r none) fun m => newB ⟨h.next, m⟩ (.c (old ++ cs) el true) fun h' => some (.sl h.next 0 (len + n) (len + n) true, h') else none
          else newB h (.c (old ++ cs) el true) fun h' => some (.sl h.next 0 (len + n) (len + n) true, h')
        else none
      | none => none
    | _ => none
  | _ => none

def nthSet (es : List (V × V × Nat)) (n : Nat) (k v : V) : List (V × V × Nat) := match es, n with
  | [], _ => []
  | (_, _, b) :: es, 0 => (k, v, b) :: es
  | e :: es, n + 1 => e :: nthSet es n k v

def nthDel (es : List (V × V × Nat)) (n : Nat) : List (V × V × Nat) := match es, n with
  | [], _ => []
  | _ :: es, 0 => es
  | e :: es, n + 1 => e :: nthDel es n

def putB (h : H) (r : Nat) (b : B) : H := ⟨h.next, h.mem.put r (some b)⟩

def appendH (x : X) (h : H) (t t' : TypeId) (u w : V) : Option (V × H) := ti x t fun i => match i.k with
  | .sl el => ti x el fun j => ti x t' fun i' => match i'.k, w with
    | .int _, .i _ (.ofNat n) => bif Nat.ble n most && Nat.ble (n * j.by_) most then appA h el j u n (repl n j.zero) else none
    | .int _, _ => none
    | _, w => match lenV w with
      | some n => match fcells h j n w with
        | some cs => appA h el j u n cs
        | none => none
      | none => none
  | _ => none

def copyH (x : X) (h : H) (t : TypeId) (u w : V) : Option (V × H) := ti x t fun i => match i.k with
  | .sl el => ti x el fun j => match lenV u, lenV w with
    | some m, some n => match fcells h j (min n m) w with
      | some cs => match u with
        | .ns => some (.i .i64 0, h)
        | .se _ _ _ => some (.i .i64 0, h)
        | .ze _ => some (.i .i64 0, h)
        | .sl r o _ _ _ => bif Nat.beq (min n m) 0 then some (.i .i64 0, h) else match storeB h r o cs with
          | some h' => some (.i .i64 (min n m : Nat), h')
          | none => none
        | _ => none
      | none => none
    | _, _ => none
  | _ => none

def clearH (x : X) (h : H) (t : TypeId) (u : V) : Option (V × H) := ti x t fun i => match i.k, u with
  | .sl _, .ns => some (undefV, h)
  | .sl _, .se _ _ _ => some (undefV, h)
  | .sl _, .ze _ => some (undefV, h)
  | .sl el, .sl r o n _ _ => bif Nat.beq n 0 then some (undefV, h) else ti x el fun j => match storeB h r o (repl n j.zero) with
    | some h' => some (undefV, h')
    | none => none
  | _, _ => none

def deleteH (x : X) (h : H) (t : TypeId) (m k : V) : Option (V × H) := ti x t fun i => match i.k with
  | .mp kt _ => ti x kt fun kti => match m with
    | .m r => match h.mem.get r with
      | some (.mp es c) => match findKey kti k es 0 with
        | some (some (n, _)) => some (undefV, putB h r (.mp (nthDel es n) c))
        | some none => some (undefV, h)
        | none => none
      | _ => none
    | _ => none
  | _ => none

def builtinH (x : X) (e : Env) (h : H) (c : Call) : Option (V × H) := match c.callee with
  | .builtin b => match b with
    | .append => match c.args.toList, c.argTypes.toList with
      | [u, w], [t, t'] => appendH x h t t' (ev e u) (ev e w)
      | _, _ => none
    | .copy => match c.args.toList, c.argTypes.toList with
      | [u, w], t :: _ => copyH x h t (ev e u) (ev e w)
      | _, _ => none
    | .clear => match c.args.toList, c.argTypes.toList with
      | [u], [t] => clearH x h t (ev e u)
      | _, _ => none
    | .delete => match c.args.toList, c.argTypes.toList with
      | [m, k], t :: _ => deleteH x h t (ev e m) (ev e k)
      | _, _ => none
    | _ => none
  | _ => none

def nextH (h : H) (u : V) (b : Bool) : Option (V × H) := bif b then match u with
    | .p r 0 => match h.mem.get r with
      | some (.it s pos) => bif Nat.blt pos s.length then
          let d := Utf8.decode ⟨⟨s⟩⟩ pos
          some (.t [.b true, .i .i64 pos, .i .i32 d.1], putB h r (.it s (pos + d.2)))
        else some (.t [.b false], h)
      | _ => none
    | _ => none else none

/-- The operations that write, calls aside. -/
def opH (x : X) (e : Env) (h : H) (o : Oper) : Option (V × H) :=
  match o.op with
  | .store t u w => ti x t fun i => match ev e u with
    | .p r k => bif Nat.beq (cellsOfV (ev e w)).length i.sz then match storeB h r k (cellsOfV (ev e w)) with
      | some h' => some (undefV, h')
      | none => none else none
    | _ => none
  | .mapUpdate t m k w => ti x t fun i => match i.k with
    | .mp kt _ => ti x kt fun kti => match ev e m with
      | .m r => match h.mem.get r with
        | some (.mp es c) => match findKey kti (ev e k) es 0 with
          | some (some (n, _)) => some (undefV, putB h r (.mp (nthSet es n (ev e k) (ev e w)) c))
          | some none => some (undefV, putB h r (.mp (es ++ [(ev e k, ev e w, c)]) (c + 1)))
          | none => none
        | _ => none
      | _ => none
    | _ => none
  | .next u b => nextH h (ev e u) b
  | .call c => builtinH x e h c
  | _ => none

inductive Cls where
  | p | r | n | h | call

/-- The kind of an operation. -/
def cls (x : X) (o : Oper) : Cls :=
  match o.op with
  | .load _ _ | .lookup _ _ _ _ => .r
  | .alloc _ | .box _ _ | .buildSlice _ _ _ | .makeSlice _ _ _ | .makeMap _ _ | .range _ _ => .n
  | .store _ _ _ | .mapUpdate _ _ _ _ | .next _ _ => .h
  | .convert s d _ => match x.tt.get s, x.tt.get d with
    | some i, some j => match i.k, j.k with
      | .sl _, .str => .r
      | .sl _, .sl _ => .r
      | .str, .sl _ => .n
      | _, _ => .p
    | _, _ => .p
  | .call c => match c.callee with
    | .builtin b => match b with
      | .len => match c.argTypes.toList with
        | [t] => match x.tt.get t with
          | some i => match i.k with
            | .mp _ _ => .r
            | _ => .p
          | none => .p
        | _ => .p
      | .append | .copy | .clear | .delete => .h
      | _ => .p
    | .value _ => .call
    | _ => .p
  | _ => .p

/-! ### What is looked at once and for all -/

def okVal : Nat → Value → Bool
  | 0, _ => false
  | d + 1, v => match v with
    | .bool _ | .int _ _ | .string _ | .pointer none | .slice none 0 0 | .map none | .nilFunc | .nilIface => true
    | .agg ⟨l⟩ => l.all (okVal d)
    | .tuple ⟨l⟩ => l.all (okVal d)
    | _ => false

/-- The constants that an operation may bear. -/
def opdOk : Operand → Bool
  | .tmp _ => true
  | .const v => okVal 8 v
  | .global _ => false
  | .func _ => true

def opdsOk (o : Oper) : Bool := o.op.operands.toList.all opdOk

def dstIn (nt : Nat) (o : Oper) : Bool := match o.dst with
  | none => true
  | some d => Nat.blt d nt

def tmpsOf : List Operand → List Nat → List Nat
  | [], acc => acc
  | .tmp t :: l, acc => t :: tmpsOf l acc
  | _ :: l, acc => tmpsOf l acc

/-- The tmps that an operation looks at, its guard's among them. -/
def looks (ops : List Oper) (o : Oper) : List Nat := tmpsOf o.op.operands.toList (match o.guard with
  | none => []
  | some (g, _) => match ops[g]? with
    | some q => match q.dst with
      | some d => [d]
      | none => []
    | none => [])

/-- What an operation touches: the tmp it writes, those it looks at, and whether it writes or calls. -/
structure Foot where
  w : Option Nat
  r : List Nat
  h : Bool

def heavyC (x : X) (o : Oper) : Bool := match cls x o with
  | .h | .call => true
  | _ => false

def foot (x : X) (ops : List Oper) (o : Oper) : Foot := ⟨o.dst, looks ops o, heavyC x o⟩

def touches (w : Option Nat) (f : Foot) : Bool := match w with
  | none => false
  | some d => f.r.any (Nat.beq d) || (match f.w with
    | some d' => Nat.beq d d'
    | none => false)

def clash (a b : Foot) : Bool := touches a.w b || touches b.w a || (a.h && b.h)

/-- What comes ahead of each operation, whatever the order: a bit an operation. -/
def preds : List Oper → List Nat → List Nat
  | [], acc => acc
  | o :: l, acc => preds l (acc ++ [o.after.toList.foldl (fun s e => match e.ground with
      | .textOnly _ => s
      | .gcOnly _ => s
      | _ => s ||| 2 ^ e.on ||| acc.getD e.on 0) 0])

def pairs1 (pj : Nat) (fj : Foot) : List Foot → Nat → Bool
  | [], _ => true
  | f :: l, i => (bif clash f fj then pj.testBit i else true) && pairs1 pj fj l (i + 1)

def pairsOk : List Nat → List Foot → List Foot → Bool
  | _, _, [] => true
  | [], _, _ :: _ => false
  | p :: ps, before, f :: l => pairs1 p f before 0 && pairsOk ps (before ++ [f]) l

def needs (md : Region.Mode) (o : Oper) : Nat := o.after.toList.foldl (fun s e => match e.ground, md with
  | .textOnly _, .text => s ||| 2 ^ e.on
  | .textOnly _, _ => s
  | .gcOnly _, .gc => s ||| 2 ^ e.on
  | .gcOnly _, _ => s
  | _, _ => s ||| 2 ^ e.on) 0

def pass (α : Type) : List Nat → Nat → Nat → (Nat → α) → α
  | [], _, d, k => k d
  | m :: ms, i, d, k => bif Nat.beq (Nat.land m d) m then fN (d ||| 2 ^ i) fun d => pass α ms (i + 1) d k else pass α ms (i + 1) d k

/-- Whatever was done: there is always one that may go next, until all are done. -/
def settle (ms : List Nat) : Nat → Nat → Bool
  | 0, _ => false
  | k + 1, d => bif Nat.beq d (2 ^ ms.length - 1) then true else pass Bool ms 0 d fun d => settle ms k d

def departing (ops : List Oper) : Bool := ops.any fun o => o.after.toList.any fun e => match e.ground with
  | .textOnly _ | .gcOnly _ => true
  | _ => false

def settles (ops : List Oper) (md : Region.Mode) : Bool := settle (ops.map (needs md)) (ops.length + 1) 0

def regOk (x : X) (nt : Nat) (ops : List Oper) (draw : Bool) : Bool :=
  (ops.all fun o => opdsOk o && dstIn nt o) && (bif draw then
    pairsOk (preds ops []) [] (ops.map (foot x ops)) && (bif departing ops then settles ops .text && settles ops .gc else settles ops .any) else true)

def codeOk (x : X) (nt : Nat) : Code → Bool
  | .skip | .exit _ | .ret => true
  | .region _ ops d => regOk x nt ops.toList d
  | .seq a b => codeOk x nt a && codeOk x nt b
  | .cond c a b => opdOk c && codeOk x nt a && codeOk x nt b
  | .block _ c => codeOk x nt c
  | .loop c => codeOk x nt c
  | _ => false

def fnOk (x : X) (fn : Func) : Bool := !(fn.name == "runtime.NumGoroutine") && (match fn.body with
  | none => false
  | some c => codeOk x fn.ntmps c)

def yieldA (e : Env) (ops : List Oper) (j : Nat) : Option Bool := match ops[j]? with
  | some o => match o.dst with
    | some d => match gv e d with
      | .b w => some w
      | _ => none
    | none => none
  | none => none

def wantA (e : Env) (ops : List Oper) (o : Oper) : Bool := match o.guard with
  | none => true
  | some (j, w) => match yieldA e ops j with
    | some w' => w == w'
    | none => false

def putD (e : Env) (d : Option Tmp) (v : V) : Env := match d with
  | some d => e.put d (some v)
  | none => e

/-- One operation that runs. -/
def op1 (x : X) (call : FuncId → List V → H → Option (V × H)) (e : Env) (h : H) (o : Oper) : Option (V × H) :=
  match cls x o with
  | .p => match opP x e o with
    | some v => some (v, h)
    | none => none
  | .r => match opR x e h.mem.get o with
    | some v => some (v, h)
    | none => none
  | .n => match opN x e h.next o with
    | some (b, v) => newB h b fun h' => some (v, h')
    | none => none
  | .h => opH x e h o
  | .call => match o.op with
    | .call c => match c.callee with
      | .value f => match ev e f with
        | .f fn caps => call fn (evs e c.args.toList ++ caps) h
        | _ => none
      | _ => none
    | _ => none

/-- The operations of a region, in the order of the text. -/
def seqR (x : X) (call : FuncId → List V → H → Option (V × H)) (ops : List Oper) : List Oper → Env → H → Option (Env × H)
  | [], e, h => some (e, h)
  | o :: l, e, h => bif wantA e ops o then match op1 x call e h o with
      | some (v, h') => fV v fun v => T.seq (putD e o.dst v) fun e' => seqR x call ops l e' h'
      | none => none
    else T.seq (putD e o.dst undefV) fun e' => seqR x call ops l e' h

structure Rec where
  ix : Nat
  o : Oper
  e : Env
  v : V

/-- The same, with a record of what was read, and of the heap behind each write or call. -/
def drawR (x : X) (call : FuncId → List V → H → Option (V × H)) (ops : List Oper) : List Oper → Nat → Env → H → T B → List Rec → List (Nat × H) → Option (Env × H × T B × List Rec × List (Nat × H))
  | [], _, e, h, en, rs, hs => some (e, h, en, rs, hs)
  | o :: l, ix, e, h, en, rs, hs => bif wantA e ops o then match op1 x call e h o with
      | some (v, h') => fV v fun v => T.seq (putD e o.dst v) fun e' => match cls x o with
        | .r => drawR x call ops l (ix + 1) e' h' en (⟨ix, o, e, v⟩ :: rs) hs
        | .h | .call => drawR x call ops l (ix + 1) e' h' en rs ((ix, h') :: hs)
        | .n => T.seq (en.put h.next (h'.mem.get h.next)) fun en => drawR x call ops l (ix + 1) e' h' en rs hs
        | .p => drawR x call ops l (ix + 1) e' h' en rs hs
      | none => none
    else T.seq (putD e o.dst undefV) fun e' => drawR x call ops l (ix + 1) e' h en rs hs

mutual
def sameV : V → V → Bool
  | .b x, .b y => x == y
  | .i k m, .i k' n => k == k' && m == n
  | .s x, .s y => x == y
  | .np, .np | .ns, .ns | .nm, .nm | .nf, .nf | .ni, .ni => true
  | .p r o, .p r' o' => Nat.beq r r' && Nat.beq o o'
  | .sl r o n c e, .sl r' o' n' c' e' => Nat.beq r r' && Nat.beq o o' && Nat.beq n n' && Nat.beq c c' && e == e'
  | .ze r, .ze r' => Nat.beq r r'
  | .se r o p, .se r' o' p' => Nat.beq r r' && Nat.beq o o' && Nat.beq p p'
  | .m r, .m r' => Nat.beq r r'
  | .f g cs, .f g' cs' => Nat.beq g g' && sameVs cs cs'
  | .ic t v, .ic t' v' => Nat.beq t t' && sameV v v'
  | .a l, .a l' => sameVs l l'
  | .t l, .t l' => sameVs l l'
  | _, _ => false
def sameVs : List V → List V → Bool
  | [], [] => true
  | v :: l, v' :: l' => sameV v v' && sameVs l l'
  | _, _ => false
end

/-- A read stands whatever write it comes ahead of or behind, as far as the order is open. 'hs': the writes, the last one first; 'nx': the one behind. -/
def stands (x : X) (ps : List Nat) (en : T B) (h0 : H) (r : Rec) : Option Nat → List (Nat × H) → Bool
  | nx, [] => okAt nx h0
  | nx, (i, h) :: hs => (bif (ps.getD i 0).testBit r.ix then true else okAt nx h) && stands x ps en h0 r (some i) hs
where
  okAt (nx : Option Nat) (h : H) : Bool := match nx with
    | some i => bif (ps.getD r.ix 0).testBit i then true else again h
    | none => again h
  again (h : H) : Bool := match opR x r.e (fun k => bif Nat.blt k h.next then h.mem.get k else en.get k) r.o with
    | some v => sameV v r.v
    | none => false

inductive Ex where
  | n | x (id : Nat) | r

def region (x : X) (call : FuncId → List V → H → Option (V × H)) (ops : List Oper) (draw : Bool) (e : Env) (h : H) : Option (Ex × Env × H) :=
  bif draw then match drawR x call ops ops 0 e h .l [] [] with
    | some (e', h', en, rs, hs) =>
      let ps := preds ops []
      bif rs.all fun r => stands x ps en h r none hs then some (.n, e', h') else none
    | none => none
  else match seqR x call ops ops e h with
    | some (e', h') => some (.n, e', h')
    | none => none

def loopN (body : Env → H → Option (Ex × Env × H)) : Nat → Env → H → Option (Ex × Env × H)
  | 0, _, _ => none
  | k + 1, e, h => match body e h with
    | some (.n, e', h') => loopN body k e' h'
    | some (.x id, e', h') => some (.x id, e', h')
    | some (.r, e', h') => some (.r, e', h')
    | none => none

def code (x : X) (call : FuncId → List V → H → Option (V × H)) (k : Nat) : Code → Env → H → Option (Ex × Env × H)
  | .skip, e, h => some (.n, e, h)
  | .region _ ops draw, e, h => region x call ops.toList draw e h
  | .seq a b, e, h => match code x call k a e h with
    | some (.n, e', h') => code x call k b e' h'
    | some (.x id, e', h') => some (.x id, e', h')
    | some (.r, e', h') => some (.r, e', h')
    | none => none
  | .cond c a b, e, h => match ev e c with
    | .b true => code x call k a e h
    | .b false => code x call k b e h
    | _ => none
  | .block id c, e, h => match code x call k c e h with
    | some (.n, e', h') => some (.n, e', h')
    | some (.x id', e', h') => bif Nat.beq id' id then some (.n, e', h') else some (.x id', e', h')
    | some (.r, e', h') => some (.r, e', h')
    | none => none
  | .loop c, e, h => loopN (code x call k c) k e h
  | .exit id, e, h => some (.x id, e, h)
  | .ret, e, h => some (.r, e, h)
  | _, _, _ => none

def env0 : List V → Nat → Env → Env
  | [], _, e => e
  | v :: l, i, e => T.seq (e.put i (some v)) fun e => env0 l (i + 1) e

def res1 (x : X) (e : Env) (h : H) : ResultVar → Option V
  | .tmp t => some (gv e t)
  | .cell a t => ti x t fun i => match gv e a with
    | .p r o => loadB i h.mem.get r o
    | _ => none

def resL (x : X) (e : Env) (h : H) : List ResultVar → Option (List V)
  | [] => some []
  | r :: l => match res1 x e h r, resL x e h l with
    | some v, some vs => some (v :: vs)
    | _, _ => none

def resV : List V → V
  | [v] => v
  | l => .t l

def sem (x : X) (k : Nat) : Nat → FuncId → List V → H → Option (V × H)
  | 0, _, _, _ => none
  | n + 1, f, args, h => match x.ft.get f with
    | none => none
    | some fn => bif fnOk x fn then match fn.body with
      | none => none
      | some c => match code x (sem x k n) k c (env0 args 0 .l) h with
        | some (.n, e, h') | some (.r, e, h') => match resL x e h' fn.results.toList with
          | some vs => some (resV vs, h')
          | none => none
        | _ => none
      else none

end Go.Am
