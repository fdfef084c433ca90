/-
  No cell of these rows narrows 'for every input' (looked for: loops, veiled, ifaces, maps, wideKeys, modest, calm, conditions, laid).
  DERIVED. THE GIVEN ROWS OF THIS SEAT. 12 by the template 'for every input the law returns true; each argument reads behind the call as it read before'; 0 by the template 'total and deterministic' (their statements: YthmnfjaogoennaaTotals.lean).
  GIVEN WITH THE SEED: the statements are not yours to turn. If you find one false, say at which input.
  Laid BY PROGRAM, IN A SANDBOX (cutbox-rows.mjs): the forced cells as the released guide's own fill.sh prints them over the translation 49400333598632a7… (all of the seat's roots in one cut). By AI agents, Wed Nov 11 2026. No macro, syntax, notation, axiom, sorry.
-/
import Derived.Test.YthmnfjaogoennaaChecked
import GoSem.Claim
import GoSem.ClaimJoined
import GoSem.ClaimMapViews
import Derived.JoinedTies
import Derived.KernelRfl
namespace Go.Proofs.Ythmnfjaogoennaa
/- THE CELL 'sum', in the pinned program and in every row, IS THE sha256 OF THE DUMP (.gsa) THAT YthmnfjaogoennaaProg.lean LOADS. Nothing in Lean hashes anything: it is a label: what it is worth is what the hold of that sum in a sandbox is worth. -/
noncomputable def Try.pinned : Pinned := { name := "ythmnfjaogoennaa", sum := "49400333598632a79c978de19fbd471a216f17d80e3b326b245a8912b5d37af0", checked := Try.checked }
namespace Rows
def none {H : Type} : Left H := { results := [], args := [] }

/-- 'gatehouselaw2.SumOrder': WHATEVER THE INPUT: true; the input reads as it did. -/
def sumOrderSpec : ChangeSpec := { name := "sumOrder", fn := fun _ => fun
  | [d1, d2, d3] => { results := [.lit (.bool true)], args := [d1, d2, d3] }
  | _ => none }
def sumOrderRow : OpenClaim := { program := "ythmnfjaogoennaa", sum := "49400333598632a79c978de19fbd471a216f17d80e3b326b245a8912b5d37af0", func := "gatehouse/gatehouselaw2.SumOrder", spec := "sumOrder", apart := false }
def SumOrderSaid : Prop := sumOrderRow.holds Try.pinned (OpenSpec.ofChange sumOrderSpec)

/-- ITS FALSE NEIGHBOUR: 'it returns false'. Refute it at one input. -/
def sumOrderWrong : ChangeSpec := { name := "sumOrder", fn := fun _ => fun
  | [d1, d2, d3] => { results := [.lit (.bool false)], args := [d1, d2, d3] }
  | _ => none }
def SumOrderWrongFalsely : Prop := sumOrderRow.holds Try.pinned (OpenSpec.ofChange sumOrderWrong)

/-- 'gatehouselaw2.SumAdds': WHATEVER THE INPUT: true; the input reads as it did. -/
def sumAddsSpec : ChangeSpec := { name := "sumAdds", fn := fun _ => fun
  | [d1, d2, d3] => { results := [.lit (.bool true)], args := [d1, d2, d3] }
  | _ => none }
def sumAddsRow : OpenClaim := { program := "ythmnfjaogoennaa", sum := "49400333598632a79c978de19fbd471a216f17d80e3b326b245a8912b5d37af0", func := "gatehouse/gatehouselaw2.SumAdds", spec := "sumAdds", apart := false }
def SumAddsSaid : Prop := sumAddsRow.holds Try.pinned (OpenSpec.ofChange sumAddsSpec)

/-- ITS FALSE NEIGHBOUR: 'it returns false'. Refute it at one input. -/
def sumAddsWrong : ChangeSpec := { name := "sumAdds", fn := fun _ => fun
  | [d1, d2, d3] => { results := [.lit (.bool false)], args := [d1, d2, d3] }
  | _ => none }
def SumAddsWrongFalsely : Prop := sumAddsRow.holds Try.pinned (OpenSpec.ofChange sumAddsWrong)

/-- 'gatehouselaw2.SumSeals': WHATEVER THE INPUT: true; the input reads as it did. -/
def sumSealsSpec : ChangeSpec := { name := "sumSeals", fn := fun _ => fun
  | [d1, d2, d3] => { results := [.lit (.bool true)], args := [d1, d2, d3] }
  | _ => none }
def sumSealsRow : OpenClaim := { program := "ythmnfjaogoennaa", sum := "49400333598632a79c978de19fbd471a216f17d80e3b326b245a8912b5d37af0", func := "gatehouse/gatehouselaw2.SumSeals", spec := "sumSeals", apart := false }
def SumSealsSaid : Prop := sumSealsRow.holds Try.pinned (OpenSpec.ofChange sumSealsSpec)

/-- ITS FALSE NEIGHBOUR: 'it returns false'. Refute it at one input. -/
def sumSealsWrong : ChangeSpec := { name := "sumSeals", fn := fun _ => fun
  | [d1, d2, d3] => { results := [.lit (.bool false)], args := [d1, d2, d3] }
  | _ => none }
def SumSealsWrongFalsely : Prop := sumSealsRow.holds Try.pinned (OpenSpec.ofChange sumSealsWrong)

/-- 'gatehouselaw2.SumPairs': WHATEVER THE INPUT: true; the input reads as it did. -/
def sumPairsSpec : ChangeSpec := { name := "sumPairs", fn := fun _ => fun
  | [d1, d2, d3] => { results := [.lit (.bool true)], args := [d1, d2, d3] }
  | _ => none }
def sumPairsRow : OpenClaim := { program := "ythmnfjaogoennaa", sum := "49400333598632a79c978de19fbd471a216f17d80e3b326b245a8912b5d37af0", func := "gatehouse/gatehouselaw2.SumPairs", spec := "sumPairs", apart := false }
def SumPairsSaid : Prop := sumPairsRow.holds Try.pinned (OpenSpec.ofChange sumPairsSpec)

/-- ITS FALSE NEIGHBOUR: 'it returns false'. Refute it at one input. -/
def sumPairsWrong : ChangeSpec := { name := "sumPairs", fn := fun _ => fun
  | [d1, d2, d3] => { results := [.lit (.bool false)], args := [d1, d2, d3] }
  | _ => none }
def SumPairsWrongFalsely : Prop := sumPairsRow.holds Try.pinned (OpenSpec.ofChange sumPairsWrong)

/-- 'gatehouselaw2.SumTurns': WHATEVER THE INPUT: true; the input reads as it did. -/
def sumTurnsSpec : ChangeSpec := { name := "sumTurns", fn := fun _ => fun
  | [d1, d2, d3] => { results := [.lit (.bool true)], args := [d1, d2, d3] }
  | _ => none }
def sumTurnsRow : OpenClaim := { program := "ythmnfjaogoennaa", sum := "49400333598632a79c978de19fbd471a216f17d80e3b326b245a8912b5d37af0", func := "gatehouse/gatehouselaw2.SumTurns", spec := "sumTurns", apart := false }
def SumTurnsSaid : Prop := sumTurnsRow.holds Try.pinned (OpenSpec.ofChange sumTurnsSpec)

/-- ITS FALSE NEIGHBOUR: 'it returns false'. Refute it at one input. -/
def sumTurnsWrong : ChangeSpec := { name := "sumTurns", fn := fun _ => fun
  | [d1, d2, d3] => { results := [.lit (.bool false)], args := [d1, d2, d3] }
  | _ => none }
def SumTurnsWrongFalsely : Prop := sumTurnsRow.holds Try.pinned (OpenSpec.ofChange sumTurnsWrong)

/-- 'gatehouselaw2.SumKnown': WHATEVER THE INPUT: true; the input reads as it did. -/
def sumKnownSpec : ChangeSpec := { name := "sumKnown", fn := fun _ => fun
  | [] => { results := [.lit (.bool true)], args := [] }
  | _ => none }
def sumKnownRow : OpenClaim := { program := "ythmnfjaogoennaa", sum := "49400333598632a79c978de19fbd471a216f17d80e3b326b245a8912b5d37af0", func := "gatehouse/gatehouselaw2.SumKnown", spec := "sumKnown", apart := false }
def SumKnownSaid : Prop := sumKnownRow.holds Try.pinned (OpenSpec.ofChange sumKnownSpec)

/-- ITS FALSE NEIGHBOUR: 'it returns false'. Refute it at one input. -/
def sumKnownWrong : ChangeSpec := { name := "sumKnown", fn := fun _ => fun
  | [] => { results := [.lit (.bool false)], args := [] }
  | _ => none }
def SumKnownWrongFalsely : Prop := sumKnownRow.holds Try.pinned (OpenSpec.ofChange sumKnownWrong)

/-- 'gatehouselaw2.SumSays': WHATEVER THE INPUT: true; the input reads as it did. -/
def sumSaysSpec : ChangeSpec := { name := "sumSays", fn := fun _ => fun
  | [d1, d2, d3, d4, d5] => { results := [.lit (.bool true)], args := [d1, d2, d3, d4, d5] }
  | _ => none }
def sumSaysRow : OpenClaim := { program := "ythmnfjaogoennaa", sum := "49400333598632a79c978de19fbd471a216f17d80e3b326b245a8912b5d37af0", func := "gatehouse/gatehouselaw2.SumSays", spec := "sumSays", apart := false }
def SumSaysSaid : Prop := sumSaysRow.holds Try.pinned (OpenSpec.ofChange sumSaysSpec)

/-- ITS FALSE NEIGHBOUR: 'it returns false'. Refute it at one input. -/
def sumSaysWrong : ChangeSpec := { name := "sumSays", fn := fun _ => fun
  | [d1, d2, d3, d4, d5] => { results := [.lit (.bool false)], args := [d1, d2, d3, d4, d5] }
  | _ => none }
def SumSaysWrongFalsely : Prop := sumSaysRow.holds Try.pinned (OpenSpec.ofChange sumSaysWrong)

/-- 'gatehouselaw11.NearWaits': WHATEVER THE INPUT: true; the input reads as it did. -/
def nearWaitsSpec : ChangeSpec := { name := "nearWaits", fn := fun _ => fun
  | [d1, d2] => { results := [.lit (.bool true)], args := [d1, d2] }
  | _ => none }
def nearWaitsRow : OpenClaim := { program := "ythmnfjaogoennaa", sum := "49400333598632a79c978de19fbd471a216f17d80e3b326b245a8912b5d37af0", func := "gatehouse/gatehouselaw11.NearWaits", spec := "nearWaits", unfollowed := true, recurses := true, apart := false }
def NearWaitsSaid : Prop := nearWaitsRow.holds Try.pinned (OpenSpec.ofChange nearWaitsSpec)

/-- ITS FALSE NEIGHBOUR: 'it returns false'. Refute it at one input. -/
def nearWaitsWrong : ChangeSpec := { name := "nearWaits", fn := fun _ => fun
  | [d1, d2] => { results := [.lit (.bool false)], args := [d1, d2] }
  | _ => none }
def NearWaitsWrongFalsely : Prop := nearWaitsRow.holds Try.pinned (OpenSpec.ofChange nearWaitsWrong)

/-- 'gatehouselaw11.NearMost': WHATEVER THE INPUT: true; the input reads as it did. -/
def nearMostSpec : ChangeSpec := { name := "nearMost", fn := fun _ => fun
  | [d1, d2] => { results := [.lit (.bool true)], args := [d1, d2] }
  | _ => none }
def nearMostRow : OpenClaim := { program := "ythmnfjaogoennaa", sum := "49400333598632a79c978de19fbd471a216f17d80e3b326b245a8912b5d37af0", func := "gatehouse/gatehouselaw11.NearMost", spec := "nearMost", unfollowed := true, recurses := true, apart := false }
def NearMostSaid : Prop := nearMostRow.holds Try.pinned (OpenSpec.ofChange nearMostSpec)

/-- ITS FALSE NEIGHBOUR: 'it returns false'. Refute it at one input. -/
def nearMostWrong : ChangeSpec := { name := "nearMost", fn := fun _ => fun
  | [d1, d2] => { results := [.lit (.bool false)], args := [d1, d2] }
  | _ => none }
def NearMostWrongFalsely : Prop := nearMostRow.holds Try.pinned (OpenSpec.ofChange nearMostWrong)

/-- 'gatehouselaw11.NearAges': WHATEVER THE INPUT: true; the input reads as it did. -/
def nearAgesSpec : ChangeSpec := { name := "nearAges", fn := fun _ => fun
  | [d1, d2, d3, d4] => { results := [.lit (.bool true)], args := [d1, d2, d3, d4] }
  | _ => none }
def nearAgesRow : OpenClaim := { program := "ythmnfjaogoennaa", sum := "49400333598632a79c978de19fbd471a216f17d80e3b326b245a8912b5d37af0", func := "gatehouse/gatehouselaw11.NearAges", spec := "nearAges", unfollowed := true, recurses := true, apart := false }
def NearAgesSaid : Prop := nearAgesRow.holds Try.pinned (OpenSpec.ofChange nearAgesSpec)

/-- ITS FALSE NEIGHBOUR: 'it returns false'. Refute it at one input. -/
def nearAgesWrong : ChangeSpec := { name := "nearAges", fn := fun _ => fun
  | [d1, d2, d3, d4] => { results := [.lit (.bool false)], args := [d1, d2, d3, d4] }
  | _ => none }
def NearAgesWrongFalsely : Prop := nearAgesRow.holds Try.pinned (OpenSpec.ofChange nearAgesWrong)

/-- 'gatehouselaw11.NearKnown': WHATEVER THE INPUT: true; the input reads as it did. -/
def nearKnownSpec : ChangeSpec := { name := "nearKnown", fn := fun _ => fun
  | [] => { results := [.lit (.bool true)], args := [] }
  | _ => none }
def nearKnownRow : OpenClaim := { program := "ythmnfjaogoennaa", sum := "49400333598632a79c978de19fbd471a216f17d80e3b326b245a8912b5d37af0", func := "gatehouse/gatehouselaw11.NearKnown", spec := "nearKnown", unfollowed := true, recurses := true, apart := false }
def NearKnownSaid : Prop := nearKnownRow.holds Try.pinned (OpenSpec.ofChange nearKnownSpec)

/-- ITS FALSE NEIGHBOUR: 'it returns false'. Refute it at one input. -/
def nearKnownWrong : ChangeSpec := { name := "nearKnown", fn := fun _ => fun
  | [] => { results := [.lit (.bool false)], args := [] }
  | _ => none }
def NearKnownWrongFalsely : Prop := nearKnownRow.holds Try.pinned (OpenSpec.ofChange nearKnownWrong)

/-- 'gatehouselaw11.NearAsks': WHATEVER THE INPUT: true; the input reads as it did. -/
def nearAsksSpec : ChangeSpec := { name := "nearAsks", fn := fun _ => fun
  | [d] => { results := [.lit (.bool true)], args := [d] }
  | _ => none }
def nearAsksRow : OpenClaim := { program := "ythmnfjaogoennaa", sum := "49400333598632a79c978de19fbd471a216f17d80e3b326b245a8912b5d37af0", func := "gatehouse/gatehouselaw11.NearAsks", spec := "nearAsks", unfollowed := true, recurses := true, apart := false }
def NearAsksSaid : Prop := nearAsksRow.holds Try.pinned (OpenSpec.ofChange nearAsksSpec)

/-- ITS FALSE NEIGHBOUR: 'it returns false'. Refute it at one input. -/
def nearAsksWrong : ChangeSpec := { name := "nearAsks", fn := fun _ => fun
  | [d] => { results := [.lit (.bool false)], args := [d] }
  | _ => none }
def NearAsksWrongFalsely : Prop := nearAsksRow.holds Try.pinned (OpenSpec.ofChange nearAsksWrong)

/- THE SECOND FORM. 'bulk': how many values and letters a reading holds, each counted each time it is reached (what is shared counts as often as it is met; a slice's spare places count too). A statement '..UptoSaid' is the law's where the arguments, and the package variables that the reading takes, are together of bulk at most 1048576: NARROWER than '..Said'. Prove '..Said' where nothing that the law and all that it calls make is longer than what came in: it says more and counts as full. Else prove '..UptoSaid'. A law counts once. -/
mutual
def uptoBulk {H : Type} : DataW H → Nat
  | .lit (.string bytes) => bytes.length + 1
  | .lit _ => 1
  | .nil => 1
  | .ptr d => uptoBulk d + 1
  | .slice elems spare => uptoBulkAll elems + uptoBulkAll spare + 1
  | .agg parts => uptoBulkAll parts + 1
  | .iface _ d => uptoBulk d + 1
  | .map entries => uptoBulkEntries entries + 1
  | .held _ => 1
def uptoBulkAll {H : Type} : List (DataW H) → Nat
  | [] => 0
  | d :: r => uptoBulk d + uptoBulkAll r
def uptoBulkEntries {H : Type} : List (Lit × DataW H) → Nat
  | [] => 0
  | x :: r => uptoBulkEntry x + uptoBulkEntries r
def uptoBulkEntry {H : Type} : Lit × DataW H → Nat
  | (.string bytes, d) => bytes.length + uptoBulk d + 1
  | (_, d) => uptoBulk d + 1
 end
def uptoSmall : (H : Type) → List (DataW H) → Bool := fun _ ds => decide (uptoBulkAll ds ≤ 1048576)
def OpenSpec.upto (s : _root_.Go.ChangeSpec) : _root_.Go.OpenSpec := { _root_.Go.OpenSpec.ofChange s with cond := some uptoSmall }

/-- 'gatehouselaw2.SumOrder', WHERE WHAT IT READS IS OF BULK AT MOST 1048576: true; the input reads as it did. -/
def sumOrderUptoRow : OpenClaim := { program := "ythmnfjaogoennaa", sum := "49400333598632a79c978de19fbd471a216f17d80e3b326b245a8912b5d37af0", func := "gatehouse/gatehouselaw2.SumOrder", spec := "sumOrder", apart := false, narrowed := true }
def SumOrderUptoSaid : Prop := sumOrderUptoRow.holds Try.pinned (OpenSpec.upto sumOrderSpec)

/-- 'gatehouselaw2.SumAdds', WHERE WHAT IT READS IS OF BULK AT MOST 1048576: true; the input reads as it did. -/
def sumAddsUptoRow : OpenClaim := { program := "ythmnfjaogoennaa", sum := "49400333598632a79c978de19fbd471a216f17d80e3b326b245a8912b5d37af0", func := "gatehouse/gatehouselaw2.SumAdds", spec := "sumAdds", apart := false, narrowed := true }
def SumAddsUptoSaid : Prop := sumAddsUptoRow.holds Try.pinned (OpenSpec.upto sumAddsSpec)

/-- 'gatehouselaw2.SumSeals', WHERE WHAT IT READS IS OF BULK AT MOST 1048576: true; the input reads as it did. -/
def sumSealsUptoRow : OpenClaim := { program := "ythmnfjaogoennaa", sum := "49400333598632a79c978de19fbd471a216f17d80e3b326b245a8912b5d37af0", func := "gatehouse/gatehouselaw2.SumSeals", spec := "sumSeals", apart := false, narrowed := true }
def SumSealsUptoSaid : Prop := sumSealsUptoRow.holds Try.pinned (OpenSpec.upto sumSealsSpec)

/-- 'gatehouselaw2.SumPairs', WHERE WHAT IT READS IS OF BULK AT MOST 1048576: true; the input reads as it did. -/
def sumPairsUptoRow : OpenClaim := { program := "ythmnfjaogoennaa", sum := "49400333598632a79c978de19fbd471a216f17d80e3b326b245a8912b5d37af0", func := "gatehouse/gatehouselaw2.SumPairs", spec := "sumPairs", apart := false, narrowed := true }
def SumPairsUptoSaid : Prop := sumPairsUptoRow.holds Try.pinned (OpenSpec.upto sumPairsSpec)

/-- 'gatehouselaw2.SumTurns', WHERE WHAT IT READS IS OF BULK AT MOST 1048576: true; the input reads as it did. -/
def sumTurnsUptoRow : OpenClaim := { program := "ythmnfjaogoennaa", sum := "49400333598632a79c978de19fbd471a216f17d80e3b326b245a8912b5d37af0", func := "gatehouse/gatehouselaw2.SumTurns", spec := "sumTurns", apart := false, narrowed := true }
def SumTurnsUptoSaid : Prop := sumTurnsUptoRow.holds Try.pinned (OpenSpec.upto sumTurnsSpec)

/-- 'gatehouselaw2.SumKnown', WHERE WHAT IT READS IS OF BULK AT MOST 1048576: true; the input reads as it did. -/
def sumKnownUptoRow : OpenClaim := { program := "ythmnfjaogoennaa", sum := "49400333598632a79c978de19fbd471a216f17d80e3b326b245a8912b5d37af0", func := "gatehouse/gatehouselaw2.SumKnown", spec := "sumKnown", apart := false, narrowed := true }
def SumKnownUptoSaid : Prop := sumKnownUptoRow.holds Try.pinned (OpenSpec.upto sumKnownSpec)

/-- 'gatehouselaw2.SumSays', WHERE WHAT IT READS IS OF BULK AT MOST 1048576: true; the input reads as it did. -/
def sumSaysUptoRow : OpenClaim := { program := "ythmnfjaogoennaa", sum := "49400333598632a79c978de19fbd471a216f17d80e3b326b245a8912b5d37af0", func := "gatehouse/gatehouselaw2.SumSays", spec := "sumSays", apart := false, narrowed := true }
def SumSaysUptoSaid : Prop := sumSaysUptoRow.holds Try.pinned (OpenSpec.upto sumSaysSpec)

/-- 'gatehouselaw11.NearWaits', WHERE WHAT IT READS IS OF BULK AT MOST 1048576: true; the input reads as it did. -/
def nearWaitsUptoRow : OpenClaim := { program := "ythmnfjaogoennaa", sum := "49400333598632a79c978de19fbd471a216f17d80e3b326b245a8912b5d37af0", func := "gatehouse/gatehouselaw11.NearWaits", spec := "nearWaits", unfollowed := true, recurses := true, apart := false, narrowed := true }
def NearWaitsUptoSaid : Prop := nearWaitsUptoRow.holds Try.pinned (OpenSpec.upto nearWaitsSpec)

/-- 'gatehouselaw11.NearMost', WHERE WHAT IT READS IS OF BULK AT MOST 1048576: true; the input reads as it did. -/
def nearMostUptoRow : OpenClaim := { program := "ythmnfjaogoennaa", sum := "49400333598632a79c978de19fbd471a216f17d80e3b326b245a8912b5d37af0", func := "gatehouse/gatehouselaw11.NearMost", spec := "nearMost", unfollowed := true, recurses := true, apart := false, narrowed := true }
def NearMostUptoSaid : Prop := nearMostUptoRow.holds Try.pinned (OpenSpec.upto nearMostSpec)

/-- 'gatehouselaw11.NearAges', WHERE WHAT IT READS IS OF BULK AT MOST 1048576: true; the input reads as it did. -/
def nearAgesUptoRow : OpenClaim := { program := "ythmnfjaogoennaa", sum := "49400333598632a79c978de19fbd471a216f17d80e3b326b245a8912b5d37af0", func := "gatehouse/gatehouselaw11.NearAges", spec := "nearAges", unfollowed := true, recurses := true, apart := false, narrowed := true }
def NearAgesUptoSaid : Prop := nearAgesUptoRow.holds Try.pinned (OpenSpec.upto nearAgesSpec)

/-- 'gatehouselaw11.NearKnown', WHERE WHAT IT READS IS OF BULK AT MOST 1048576: true; the input reads as it did. -/
def nearKnownUptoRow : OpenClaim := { program := "ythmnfjaogoennaa", sum := "49400333598632a79c978de19fbd471a216f17d80e3b326b245a8912b5d37af0", func := "gatehouse/gatehouselaw11.NearKnown", spec := "nearKnown", unfollowed := true, recurses := true, apart := false, narrowed := true }
def NearKnownUptoSaid : Prop := nearKnownUptoRow.holds Try.pinned (OpenSpec.upto nearKnownSpec)

/-- 'gatehouselaw11.NearAsks', WHERE WHAT IT READS IS OF BULK AT MOST 1048576: true; the input reads as it did. -/
def nearAsksUptoRow : OpenClaim := { program := "ythmnfjaogoennaa", sum := "49400333598632a79c978de19fbd471a216f17d80e3b326b245a8912b5d37af0", func := "gatehouse/gatehouselaw11.NearAsks", spec := "nearAsks", unfollowed := true, recurses := true, apart := false, narrowed := true }
def NearAsksUptoSaid : Prop := nearAsksUptoRow.holds Try.pinned (OpenSpec.upto nearAsksSpec)

end Rows
end Go.Proofs.Ythmnfjaogoennaa
