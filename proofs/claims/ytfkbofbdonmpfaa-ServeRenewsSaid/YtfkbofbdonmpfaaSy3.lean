/- The machine with names for integers: its operations and its evaluator. -/
import Derived.Test.YtfkbofbdonmpfaaSy2
set_option linter.unusedSimpArgs false
set_option linter.unusedVariables false
set_option linter.unusedSectionVars false
set_option linter.unnecessarySimpa false
namespace Go.Am

/-! ### Strings with names -/

def isSym : V → Bool
  | .f fn _ => !(Nat.blt fn nameB)
  | _ => false

def strV : V → Option (List V)
  | .s l => some (l.map fun c => .i .u8 c.toNat)
  | .f fn caps => bif Nat.blt fn nameB then none else some caps
  | _ => none

def concBytes : List V → Option (List UInt8)
  | [] => some []
  | .i _ n :: l => bif conc n then match concBytes l with
    | some r => some (UInt8.ofNat n.toNat :: r)
    | none => none else none
  | _ :: _ => none

def mkS (caps : List V) : V := match concBytes caps with
  | some l => .s l
  | none => .f nameB caps

def liftC (o : Option V) : M V := match o with
  | some v => bif clean v then pureM v else failM
  | none => failM

def smallByte (m : Int) : Bool := match m with
  | .ofNat n => Nat.blt n 256
  | .negSucc _ => false

def byteM (v : V) : M V := match v with
  | .i .u8 m => bif smallByte m then pureM (.i .u8 m) else bindM (defM (.by_ m)) fun z => pureM (.i .u8 z)
  | _ => failM

def bytesM : List V → M (List V)
  | [] => pureM []
  | v :: l => bindM (byteM v) fun u => bindM (bytesM l) fun us => pureM (u :: us)

def eqI (m n : Int) : M Bool := bif conc m && conc n then pureM (decide (m = n)) else askM (.eq m n)

def eqIs : List V → List V → M Bool
  | [], [] => pureM true
  | .i _ m :: xs, .i _ n :: ys => bindM (eqI m n) fun b => bif b then eqIs xs ys else pureM false
  | _, _ => failM

def eqS (u v : V) : M Bool := match u, v with
  | .s l, .s l' => pureM (l == l')
  | u, v => match strV u, strV v with
    | some xs, some ys => bif Nat.beq xs.length ys.length then bindM (bytesM xs) fun xs => bindM (bytesM ys) fun ys => eqIs xs ys else pureM false
    | _, _ => failM

def okK : List Kd → List V → List V → Bool
  | [], [], [] => true
  | .i :: ks, .i k _ :: xs, .i k' _ :: ys => (k == k') && okK ks xs ys
  | .b :: ks, .b _ :: xs, .b _ :: ys => okK ks xs ys
  | .s :: ks, x :: xs, y :: ys => (strV x).isSome && (strV y).isSome && okK ks xs ys
  | _, _, _ => false

def eqKM : List Kd → List V → List V → M Bool
  | [], [], [] => pureM true
  | .i :: ks, .i k m :: xs, .i k' n :: ys => bif k == k' then bindM (eqI m n) fun b => bif b then eqKM ks xs ys else bif okK ks xs ys then pureM false else failM else failM
  | .b :: ks, .b x :: xs, .b y :: ys => bif x == y then eqKM ks xs ys else bif okK ks xs ys then pureM false else failM
  | .s :: ks, x :: xs, y :: ys => bindM (eqS x y) fun b => bif b then eqKM ks xs ys else bif okK ks xs ys then pureM false else failM
  | _, _, _ => failM

def eqM (x : X) (t : TypeId) (u v : V) : M Bool := match x.tt.get t with
  | none => failM
  | some i => match i.flat, i.agg, u, v with
    | some ks, true, .a l, .a l' => eqKM ks l l'
    | _, _, _, _ => failM

def ibM (op : BinOp) (k k' : IntKind) (m n : Int) : M V := match op with
  | .shl => bindM (defM (.sh .shl k m n)) fun z => pureM (.i k z)
  | .shr => bindM (defM (.sh .shr k m n)) fun z => pureM (.i k z)
  | .eql => bif k == k' then bindM (askM (.eq m n)) fun b => pureM (.b b) else failM
  | .neq => bif k == k' then bindM (askM (.eq m n)) fun b => pureM (.b (!b)) else failM
  | .lss => bif k == k' then bindM (askM (.lt m n)) fun b => pureM (.b b) else failM
  | .leq => bif k == k' then bindM (askM (.le m n)) fun b => pureM (.b b) else failM
  | .gtr => bif k == k' then bindM (askM (.lt n m)) fun b => pureM (.b b) else failM
  | .geq => bif k == k' then bindM (askM (.le n m)) fun b => pureM (.b b) else failM
  | op => bif k == k' then bindM (defM (.ib op k m n)) fun z => pureM (.i k z) else failM

def sbM (op : BinOp) (u v : V) : M V := match op with
  | .add => match strV u, strV v with
    | some xs, some ys => bif Nat.ble (xs.length + ys.length) 1099511627776 then pureM (mkS (xs ++ ys)) else failM
    | _, _ => failM
  | .eql => bindM (eqS u v) fun b => pureM (.b b)
  | .neq => bindM (eqS u v) fun b => pureM (.b (!b))
  | _ => failM

def binM (x : X) (op : BinOp) (t : TypeId) (u v : V) : M V :=
  bif clean u && clean v then liftC (bin x op t u v) else match u, v with
  | .i k m, .i k' n => ibM op k k' m n
  | u, v => bif (strV u).isSome && (strV v).isSome then sbM op u v else match op with
    | .eql => bindM (eqM x t u v) fun b => pureM (.b b)
    | .neq => bindM (eqM x t u v) fun b => pureM (.b (!b))
    | _ => failM

def unM (op : UnOp) (v : V) : M V := bif clean v then liftC (un op v) else match v with
  | .i k n => bindM (defM (.un op k n)) fun z => pureM (.i k z)
  | _ => failM

def convP (x : X) (s d : TypeId) (v : V) : Option V := ti x s fun _ => ti x d fun j => match j.k, v with
    | .int k, .i _ n => some (.i k (k.wrap n))
    | .str, .s l => some (.s l)
    | _, _ => none

def convM (x : X) (s d : TypeId) (v : V) : M V := bif clean v then liftC (convP x s d v) else match x.tt.get s, x.tt.get d with
  | some _, some j => match j.k, v with
    | .int k, .i _ n => bindM (defM (.wr k n)) fun z => pureM (.i k z)
    | .str, w => bif isSym w then pureM w else failM
    | _, _ => failM
  | _, _ => failM

def cleanO : Option V → Bool
  | none => true
  | some v => clean v

def slcY (x : X) (t : TypeId) (v : V) (lo hi mx : Option V) : Option V :=
  bif cleanO lo && cleanO hi && cleanO mx then match v with
  | .f fn caps => bif Nat.blt fn nameB then none else ti x t fun i => match i.k, mx with
    | .str, none => match bound hi caps.length caps.length with
      | none => none
      | some h => match bound lo 0 h with
        | none => none
        | some k => some (mkS ((caps.drop k).take (h - k)))
    | _, _ => none
  | v => slc x t v lo hi mx
  else none

def idxP (x : X) (t : TypeId) (v ix : V) : Option V := ti x t fun i => match ix with
    | .i _ (.ofNat n) => match i.k, v with
      | .arr len el, .a cs => bif Nat.blt n len then ti x el fun j => match sub cs (n * j.sz) j.sz with
          | some vs => vOfCells j vs
          | none => none else none
      | .str, .s l => match l[n]? with
        | some c => some (.i .u8 c.toNat)
        | none => none
      | _, _ => none
    | _ => none

def idxM (x : X) (t : TypeId) (v ix : V) : M V := bif clean ix then match v with
    | .f fn caps => bif Nat.blt fn nameB then failM else match x.tt.get t, ix with
      | some i, .i _ (.ofNat n) => match i.k, caps[n]? with
        | .str, some c => byteM c
        | _, _ => failM
      | _, _ => failM
    | v => liftM (idxP x t v ix)
  else failM

def mmM (mn : Bool) (u v : V) : M V := bif clean u && clean v then liftC (bif mn then minP u v else maxP u v) else match u, v with
  | .i k m, .i _ n => bindM (askM (bif mn then .lt n m else .lt m n)) fun b => pureM (.i k (bif b then n else m))
  | _, _ => failM

def callPM (x : X) (e : Env) (c : Call) : M V := match c.callee with
  | .builtin b => match b, c.args.toList, c.argTypes.toList with
    | .min, [u, w], _ => mmM true (ev e u) (ev e w)
    | .max, [u, w], _ => mmM false (ev e u) (ev e w)
    | .len, [u], [t] => match ev e u with
      | .f fn caps => bif Nat.blt fn nameB then failM else match x.tt.get t with
        | some i => match i.k with
          | .str => liftC (some (.i .i64 caps.length))
          | _ => failM
        | none => failM
      | v => match x.tt.get t with
        | some i => liftC (lenP i v)
        | none => failM
    | .cap, [u], [t] => match ev e u with
      | .f _ _ => failM
      | v => match x.tt.get t with
        | some i => liftC (capP i v)
        | none => failM
    | _, _, _ => failM
  | _ => failM

def opPY (x : X) (e : Env) (o : Oper) : M V := match o.op with
  | .binOp op t u v _ => binM x op t (ev e u) (ev e v)
  | .unOp op _ u => unM op (ev e u)
  | .convert s d u => convM x s d (ev e u)
  | .slice t u lo hi mx => liftM (slcY x t (ev e u) (lo.map (ev e)) (hi.map (ev e)) (mx.map (ev e)))
  | .index t u ix => idxM x t (ev e u) (ev e ix)
  | .indexAddr _ _ ix => bif clean (ev e ix) then liftM (opP x e o) else failM
  | .nilCheck u => bif isSym (ev e u) then failM else liftM (opP x e o)
  | .call c => callPM x e c
  | _ => liftM (opP x e o)

/-! ### Reads -/

def keysClean : List (V × V × Nat) → Bool
  | [] => true
  | (k, _, _) :: l => clean k && keysClean l

def mapClean (g : Nat → Option B) (v : V) : Bool := match v with
  | .m r => match g r with
    | some (.mp es _) => keysClean es
    | _ => true
  | _ => true

def isU8 : V → Bool
  | .i .u8 _ => true
  | _ => false

def convR (x : X) (g : Nat → Option B) (s d : TypeId) (v : V) : Option V := ti x s fun i => ti x d fun j => match i.k, j.k, v with
    | .sl el, .str, .ns => ti x el fun q => match q.k with
      | .int .u8 => some (.s [])
      | _ => none
    | .sl el, .str, .se _ _ _ => ti x el fun q => match q.k with
      | .int .u8 => some (.s [])
      | _ => none
    | .sl el, .str, .ze _ => ti x el fun q => match q.k with
      | .int .u8 => some (.s [])
      | _ => none
    | .sl el, .str, .sl r o n _ _ => ti x el fun q => match q.k, g r with
      | .int .u8, some (.c l _ _) => match sub l o n with
        | some vs => bif vs.all isU8 then some (mkS vs) else none
        | none => none
      | _, _ => none
    | .sl _, .sl el, .sl r o n c b => ti x el fun q => match q.k, g r with
      | .int .u8, some (.c _ _ own) => bif own && Nat.beq s d then some (.sl r o n c b) else none
      | _, _ => none
    | _, _, _ => none

/-- A look into an empty map. -/
def lookE (x : X) (g : Nat → Option B) (t : TypeId) (m k : V) (ok : Bool) : Option V := ti x t fun i => match i.k with
  | .mp kt et => ti x kt fun kti => ti x et fun eti => match entries g m, kti.flat, kti.agg, k with
    | some [], some ks, true, .a l => bif okK ks l l then some (bif ok then .t [eti.zv, .b false] else eti.zv) else none
    | _, _, _, _ => none
  | _ => none

def opRY (x : X) (e : Env) (g : Nat → Option B) (o : Oper) : Option V := match o.op with
  | .load _ _ => opR x e g o
  | .lookup t m ix ok => bif clean (ev e ix) && mapClean g (ev e m) then opR x e g o else lookE x g t (ev e m) (ev e ix) ok
  | .convert s d u => convR x g s d (ev e u)
  | .call _ => match opR x e g o with
    | some v => bif clean v then some v else none
    | none => none
  | _ => none

/-! ### New blocks -/

def opNY (x : X) (e : Env) (r : Nat) (o : Oper) : M (B × V) := match o.op with
  | .makeSlice _ u v => bif clean (ev e u) && clean (ev e v) then liftM (opN x e r o) else failM
  | .convert s d u => match ev e u with
    | .f fn caps => bif Nat.blt fn nameB then failM else match x.tt.get s, x.tt.get d with
      | some i, some j => match i.k, j.k with
        | .str, .sl el => match x.tt.get el with
          | some q => match q.k with
            | .int .u8 => bif Nat.beq q.sz 1 then bindM (bytesM caps) fun us => pureM (B.c us el true, V.sl r 0 us.length us.length true) else failM
            | _ => failM
          | none => failM
        | _, _ => failM
      | _, _ => failM
    | _ => liftM (opN x e r o)
  | _ => liftM (opN x e r o)

/-! ### Writes -/

def liftH (o : Option (V × H)) : M (V × H) := match o with
  | some (v, h) => bif clean v then pureM (v, h) else failM
  | none => failM

def appM (x : X) (h : H) (t t' : TypeId) (u w : V) : M (V × H) := match w with
  | .f fn caps => bif Nat.blt fn nameB then failM else match x.tt.get t, x.tt.get t' with
    | some i, some i' => match i.k, i'.k with
      | _, .int _ => failM
      | .sl el, _ => match x.tt.get el with
        | some j => bindM (bytesM caps) fun us => liftM (appA h el j u us.length us)
        | none => failM
      | _, _ => failM
    | _, _ => failM
  | .i k n => bif conc n then liftM (appendH x h t t' u (.i k n)) else failM
  | w => liftM (appendH x h t t' u w)

def opHY (x : X) (e : Env) (h : H) (o : Oper) : M (V × H) := match o.op with
  | .store _ _ _ => liftM (opH x e h o)
  | .mapUpdate _ m k _ => bif clean (ev e k) && mapClean h.mem.get (ev e m) then liftM (opH x e h o) else failM
  | .next u b => liftH (nextH h (ev e u) b)
  | .call c => match c.callee with
    | .builtin b => match b, c.args.toList, c.argTypes.toList with
      | .append, [u, w], [t, t'] => appM x h t t' (ev e u) (ev e w)
      | .copy, [u, w], t :: _ => bif isSym (ev e u) || isSym (ev e w) then failM else liftH (copyH x h t (ev e u) (ev e w))
      | .clear, [u], [t] => liftM (clearH x h t (ev e u))
      | .delete, [m, k], t :: _ => bif clean (ev e k) && mapClean h.mem.get (ev e m) then liftM (deleteH x h t (ev e m) (ev e k)) else failM
      | _, _, _ => failM
    | _ => failM
  | _ => failM

/-! ### The evaluator -/

def op1Y (x : X) (call : FuncId → List V → H → M (V × H)) (e : Env) (h : H) (o : Oper) : M (V × H) :=
  match cls x o with
  | .p => bindM (opPY x e o) fun v => pureM (v, h)
  | .r => match opRY x e h.mem.get o with
    | some v => pureM (v, h)
    | none => failM
  | .n => bindM (opNY x e h.next o) fun p => newB h p.1 fun h' => pureM (p.2, h')
  | .h => opHY x e h o
  | .call => match o.op with
    | .call c => match c.callee with
      | .value f => match ev e f with
        | .f fn caps => bif Nat.blt fn nameB then call fn (evs e c.args.toList ++ caps) h else failM
        | _ => failM
      | _ => failM
    | _ => failM

def seqRY (x : X) (call : FuncId → List V → H → M (V × H)) (ops : List Oper) : List Oper → Env → H → M (Env × H)
  | [], e, h => pureM (e, h)
  | o :: l, e, h => bif wantA e ops o then bindM (op1Y x call e h o) fun p => fV p.1 fun v => T.seq (putD e o.dst v) fun e' => seqRY x call ops l e' p.2
    else T.seq (putD e o.dst undefV) fun e' => seqRY x call ops l e' h

def drawRY (x : X) (call : FuncId → List V → H → M (V × H)) (ops : List Oper) : List Oper → Nat → Env → H → T B → List Rec → List (Nat × H) → M (Env × H × T B × List Rec × List (Nat × H))
  | [], _, e, h, en, rs, hs => pureM (e, h, en, rs, hs)
  | o :: l, ix, e, h, en, rs, hs => bif wantA e ops o then bindM (op1Y x call e h o) fun p => fV p.1 fun v => T.seq (putD e o.dst v) fun e' => match cls x o with
        | .r => drawRY x call ops l (ix + 1) e' p.2 en (⟨ix, o, e, v⟩ :: rs) hs
        | .h | .call => drawRY x call ops l (ix + 1) e' p.2 en rs ((ix, p.2) :: hs)
        | .n => T.seq (en.put h.next (p.2.mem.get h.next)) fun en => drawRY x call ops l (ix + 1) e' p.2 en rs hs
        | .p => drawRY x call ops l (ix + 1) e' p.2 en rs hs
    else T.seq (putD e o.dst undefV) fun e' => drawRY x call ops l (ix + 1) e' h en rs hs

def againY (x : X) (en : T B) (r : Rec) (h : H) : Bool := match opRY x r.e (fun k => bif Nat.blt k h.next then h.mem.get k else en.get k) r.o with
    | some v => sameV v r.v
    | none => false

def okAtY (x : X) (ps : List Nat) (en : T B) (r : Rec) (nx : Option Nat) (h : H) : Bool := match nx with
    | some i => bif (ps.getD r.ix 0).testBit i then true else againY x en r h
    | none => againY x en r h

def standsY (x : X) (ps : List Nat) (en : T B) (h0 : H) (r : Rec) : Option Nat → List (Nat × H) → Bool
  | nx, [] => okAtY x ps en r nx h0
  | nx, (i, h) :: hs => (bif (ps.getD i 0).testBit r.ix then true else okAtY x ps en r nx h) && standsY x ps en h0 r (some i) hs

def regionY (x : X) (call : FuncId → List V → H → M (V × H)) (ops : List Oper) (draw : Bool) (e : Env) (h : H) : M (Ex × Env × H) :=
  bif draw then bindM (drawRY x call ops ops 0 e h .l [] []) fun p =>
      bif p.2.2.2.1.all fun r => standsY x (preds ops []) p.2.2.1 h r none p.2.2.2.2 then pureM (.n, p.1, p.2.1) else failM
  else bindM (seqRY x call ops ops e h) fun p => pureM (.n, p.1, p.2)

def loopNY (body : Env → H → M (Ex × Env × H)) : Nat → Env → H → M (Ex × Env × H)
  | 0, _, _ => failM
  | k + 1, e, h => bindM (body e h) fun p => match p.1 with
    | .n => loopNY body k p.2.1 p.2.2
    | .x id => pureM (.x id, p.2.1, p.2.2)
    | .r => pureM (.r, p.2.1, p.2.2)

def codeY (x : X) (call : FuncId → List V → H → M (V × H)) (k : Nat) : Code → Env → H → M (Ex × Env × H)
  | .skip, e, h => pureM (.n, e, h)
  | .region _ ops draw, e, h => regionY x call ops.toList draw e h
  | .seq a b, e, h => bindM (codeY x call k a e h) fun p => match p.1 with
    | .n => codeY x call k b p.2.1 p.2.2
    | .x id => pureM (.x id, p.2.1, p.2.2)
    | .r => pureM (.r, p.2.1, p.2.2)
  | .cond c a b, e, h => match ev e c with
    | .b true => codeY x call k a e h
    | .b false => codeY x call k b e h
    | _ => failM
  | .block id c, e, h => bindM (codeY x call k c e h) fun p => match p.1 with
    | .n => pureM (.n, p.2.1, p.2.2)
    | .x id' => bif Nat.beq id' id then pureM (.n, p.2.1, p.2.2) else pureM (.x id', p.2.1, p.2.2)
    | .r => pureM (.r, p.2.1, p.2.2)
  | .loop c, e, h => loopNY (codeY x call k c) k e h
  | .exit id, e, h => pureM (.x id, e, h)
  | .ret, e, h => pureM (.r, e, h)
  | _, _, _ => failM

/-! ### What is looked at once and for all -/

def opdClean : Operand → Bool
  | .tmp _ => true
  | .const v => clean (ofVal v)
  | .global _ => true
  | .func f => Nat.blt f nameB

def opClean (o : Oper) : Bool := o.op.operands.toList.all opdClean && (match o.op with
  | .makeFunc (.func f) _ _ => Nat.blt f nameB
  | _ => true)

def codeClean : Code → Bool
  | .skip | .exit _ | .ret => true
  | .region _ ops _ => ops.toList.all opClean
  | .seq a b => codeClean a && codeClean b
  | .cond c a b => opdClean c && codeClean a && codeClean b
  | .block _ c => codeClean c
  | .loop c => codeClean c
  | _ => true

def fnClean (fn : Func) : Bool := match fn.body with
  | none => true
  | some c => codeClean c

def tAll {α : Type} (p : α → Bool) : T α → Bool
  | .l => true
  | .n a v b => tAll p a && tAll p b && (match v with
    | some v => p v
    | none => true)

def xClean (x : X) : Bool := tAll (fun i => cleans i.zero && clean i.zv) x.tt

def semY (x : X) (k : Nat) : Nat → FuncId → List V → H → M (V × H)
  | 0, _, _, _ => failM
  | n + 1, f, args, h => match x.ft.get f with
    | none => failM
    | some fn => bif fnOk x fn && fnClean fn then match fn.body with
      | none => failM
      | some c => bindM (codeY x (semY x k n) k c (env0 args 0 .l) h) fun p => match p.1 with
        | .x _ => failM
        | _ => match resL x p.2.1 p.2.2 fn.results.toList with
          | some vs => pureM (resV vs, p.2.2)
          | none => failM
      else failM

/-- A whole run: every road ends in true. -/
def ends (t : Tr ((V × H) × Sy)) : Tr Unit := t.bind fun p => match p.1.1 with
  | .b true => .ret ()
  | _ => .fail

def runY (P : Program) (k n : Nat) (f : FuncId) (args : List V) (mem : List B) (nx : Nat) (o : Orc) : Tr Unit :=
  let x := mkX P
  bif xClean x then slim (ends (semY x k n f args (laid mem P.globals.size .l) ⟨nx, o, [], []⟩)) [] [] else .fail
where
  laid : List B → Nat → T B → H
    | [], n, m => ⟨n, m⟩
    | b :: l, n, m => T.seq (m.put n (some b)) fun m => fN (n + 1) fun n => laid l n m

end Go.Am
