/- The abstract machine: values, heap, a deterministic evaluator over the loaded program's code. No theorem of the program stands here. -/
import Derived.Calls
set_option linter.unusedSimpArgs false
set_option linter.unusedVariables false
set_option linter.unusedSectionVars false
set_option linter.unnecessarySimpa false
namespace Go.Am

/-- Values: blocks of memory are named by numbers of the machine's own. -/
inductive V where
  | b (x : Bool)
  | i (k : IntKind) (n : Int)
  | s (l : List UInt8)
  | np
  | p (r o : Nat)
  | ns
  | sl (r o len cap : Nat) (el : Bool)
  | se (r o' o : Nat)
  | ze (r : Nat)
  | nm
  | m (r : Nat)
  | nf
  | f (fn : FuncId) (caps : List V)
  | ni
  | ic (t : TypeId) (v : V)
  | a (l : List V)
  | t (l : List V)
  deriving Inhabited

/-- A map from numbers. -/
inductive T (α : Type) where
  | l
  | n (a : T α) (v : Option α) (b : T α)

namespace T
variable {α : Type}
def get : T α → Nat → Option α
  | .l, _ => none
  | .n a v b, i => match i with
    | 0 => v
    | k + 1 => bif Nat.beq (k % 2) 0 then a.get (k / 2) else b.get (k / 2)

def seq {β : Type} (t : T α) (k : T α → β) : β := match t with
  | .l => k .l
  | .n a v b => k (.n a v b)

def single : Nat → Nat → Option α → T α
  | 0, _, _ => .l
  | d + 1, i, v => match i with
    | 0 => .n .l v .l
    | k + 1 => bif Nat.beq (k % 2) 0 then seq (single d (k / 2) v) fun a => .n a none .l else seq (single d (k / 2) v) fun b => .n .l none b

def put : T α → Nat → Option α → T α
  | .l, i, v => single (i + 1) i v
  | .n a x b, i, v => match i with
    | 0 => .n a v b
    | k + 1 => bif Nat.beq (k % 2) 0 then seq (a.put (k / 2) v) fun a => .n a x b else seq (b.put (k / 2) v) fun b => .n a x b
end T

/-- Blocks of memory. -/
inductive B where
  | c (l : List V) (ty : TypeId) (own : Bool)
  | mp (es : List (V × V × Nat)) (clock : Nat)
  | it (s : List UInt8) (pos : Nat)

structure H where
  next : Nat
  mem : T B

/-- What the machine asks of a type. -/
inductive K where
  | int (k : IntKind) | bool | str | ptr (e : Nat) | sl (e : Nat) | arr (n e : Nat) | st (fs : List (Nat × Nat × Nat)) | mp (k e : Nat) | fn | ifc (empty : Bool) | other

/-- A cell's kind, where it can be held against another at once. -/
inductive Kd where
  | i | b | s

structure TI where
  k : K
  sz : Nat
  by_ : Nat
  agg : Bool
  flat : Option (List Kd)
  zero : List V
  zv : V

structure X where
  tt : T TI
  ft : T Func

/-- Forcing, for the kernel's sake: each is the plain application. -/
def fN {β : Type} (n : Nat) (k : Nat → β) : β := match n with
  | 0 => k 0
  | m + 1 => k (m + 1)
def fI {β : Type} (n : Int) (k : Int → β) : β := match n with
  | .ofNat m => fN m fun m => k (.ofNat m)
  | .negSucc m => fN m fun m => k (.negSucc m)
def fB {β : Type} (x : Bool) (k : Bool → β) : β := match x with
  | true => k true
  | false => k false
def fV {β : Type} (v : V) (k : V → β) : β := match v with
  | .b x => fB x fun x => k (.b x)
  | .i kd n => fI n fun n => k (.i kd n)
  | .p r o => fN r fun r => fN o fun o => k (.p r o)
  | .sl r o len cap el => fN r fun r => fN o fun o => fN len fun len => fN cap fun cap => fB el fun el => k (.sl r o len cap el)
  | .se r o' o => fN r fun r => fN o' fun o' => fN o fun o => k (.se r o' o)
  | .ze r => fN r fun r => k (.ze r)
  | v => k v

def undefV : V := .t []

mutual
def ofVal : Value → V
  | .bool x => .b x
  | .int k n => .i k n
  | .string s => .s s.data.toList
  | .pointer none => .np
  | .slice none 0 0 => .ns
  | .map none => .nm
  | .nilFunc => .nf
  | .nilIface => .ni
  | .agg ⟨l⟩ => .a (ofVals l)
  | .tuple ⟨l⟩ => .t (ofVals l)
  | _ => .m 0
def ofVals : List Value → List V
  | [] => []
  | v :: l => ofVal v :: ofVals l
end

end Go.Am
