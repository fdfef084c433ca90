/- The abstract machine's tables, made of a program's. -/
import Derived.Test.YtfkbofbdonmpfaaAm2
set_option linter.unusedSimpArgs false
set_option linter.unusedVariables false
set_option linter.unusedSectionVars false
set_option linter.unnecessarySimpa false
namespace Go.Am

def flatGo (P : Program) (rec : TypeId → Option (List Kd)) : List Field → Nat → Nat → Option (List Kd)
  | [], o, n => bif Nat.beq o n then some [] else none
  | f :: l, o, n => bif f.name != "_" && Nat.beq f.offset o then match rec f.type with
    | some ks => bif Nat.beq ks.length (P.cellsOf f.type) then match flatGo P rec l (o + P.cellsOf f.type) n with
      | some r => some (ks ++ r)
      | none => none else none
    | none => none else none

def replK (n : Nat) (ks : List Kd) : List Kd := match n with
  | 0 => []
  | n + 1 => ks ++ replK n ks

/-- A type whose equality goes cell by cell: the cells' kinds. -/
def flatT (P : Program) : Nat → TypeId → Option (List Kd)
  | 0, _ => none
  | d + 1, t => match P.underlying t with
    | some .bool => bif Nat.beq (P.cellsOf t) 1 then some [.b] else none
    | some (.int _) => bif Nat.beq (P.cellsOf t) 1 then some [.i] else none
    | some .string => bif Nat.beq (P.cellsOf t) 1 then some [.s] else none
    | some (.array n e) => match flatT P d e with
      | some ks => bif Nat.beq ks.length (P.cellsOf e) && Nat.beq (P.cellsOf t) (n * P.cellsOf e) && Nat.ble n 64 then some (replK n ks) else none
      | none => none
    | some (.struct fs) => bif P.stoodInHeld t then none else flatGo P (flatT P d) fs.toList 0 (P.cellsOf t)
    | _ => none

def kOf (P : Program) : TypeDesc → K
  | .int k => .int k
  | .bool => .bool
  | .string => .str
  | .pointer e => .ptr e
  | .slice e => .sl e
  | .array n e => .arr n e
  | .struct fs => .st (fs.toList.map fun f => (f.offset, f.type, P.cellsOf f.type))
  | .map k e => .mp k e
  | .func _ _ _ => .fn
  | .interface ms => .ifc ms.isEmpty
  | _ => .other

def aggD : TypeDesc → Bool
  | .struct _ | .array _ _ => true
  | _ => false

def fieldsOk (P : Program) : TypeDesc → Bool
  | .struct fs => fs.toList.all fun f => (P.info? f.type).isSome
  | _ => true

def tiOf (P : Program) (t : TypeId) : Option TI :=
  match P.info? t, P.underlying t with
  | some i, some d => match i.zero with
    | some z => bif okVal 8 z && Nat.beq (cellsOfV (ofVal z)).length i.size && fieldsOk P d then some ⟨kOf P d, i.size, i.bytes, aggD d, flatT P 12 t, cellsOfV (ofVal z), ofVal z⟩ else none
    | none => none
  | _, _ => none

/-- A tree of the values of a function at all numbers below a power of two: 'i' is the number that stands here, 's' the step. -/
def treeOf {α : Type} (f : Nat → Option α) : Nat → Nat → Nat → T α
  | 0, _, _ => .l
  | d + 1, i, s => .n (treeOf f d (i + s) (2 * s)) (f i) (treeOf f d (i + 2 * s) (2 * s))

def putL {α : Type} (f : Nat → Option α) : Nat → Nat → T α → T α
  | 0, _, t => t
  | k + 1, i, t => match f i with
    | some v => T.seq (t.put i (some v)) fun t => putL f k (i + 1) t
    | none => putL f k (i + 1) t

def mkX (P : Program) : X := { tt := putL (tiOf P) P.types.size 0 .l, ft := putL (fun f => P.funcs[f]?) P.funcs.size 0 .l }

def run (P : Program) (k n : Nat) (f : FuncId) (args : List V) : Option V := (sem (mkX P) k n f args ⟨P.globals.size, .l⟩).map (·.1)

def isTrue : Option V → Bool
  | some (.b true) => true
  | _ => false

end Go.Am
