/-
  No cell of these rows narrows 'for every input' (looked for: loops, veiled, ifaces, maps, wideKeys, modest, calm, conditions, laid).
  DERIVED. THE GIVEN ROWS OF THIS SEAT. 20 by the template 'for every input the law returns true; each argument reads behind the call as it read before'; 0 by the template 'total and deterministic' (their statements: YtfkbofbdonmpfaaTotals.lean).
  GIVEN WITH THE SEED: the statements are not yours to turn. If you find one false, say at which input.
  Laid BY PROGRAM, IN A SANDBOX (cutbox-rows.mjs): the forced cells as the released guide's own fill.sh prints them over the translation dcd551eb3060354a… (all of the seat's roots in one cut). By AI agents, Wed Nov 11 2026. No macro, syntax, notation, axiom, sorry.
-/
import Derived.Test.YtfkbofbdonmpfaaChecked
import GoSem.Claim
import GoSem.ClaimJoined
import GoSem.ClaimMapViews
import Derived.JoinedTies
import Derived.KernelRfl
namespace Go.Proofs.Ytfkbofbdonmpfaa
/- THE CELL 'sum', in the pinned program and in every row, IS THE sha256 OF THE DUMP (.gsa) THAT YtfkbofbdonmpfaaProg.lean LOADS. Nothing in Lean hashes anything: it is a label: what it is worth is what the hold of that sum in a sandbox is worth. -/
noncomputable def Try.pinned : Pinned := { name := "ytfkbofbdonmpfaa", sum := "dcd551eb3060354a03ab41058fd39bf20a833186f4eccd1fd666c94a0fbc78ee", checked := Try.checked }
namespace Rows
def none {H : Type} : Left H := { results := [], args := [] }

/-- 'gatehouselaw17.PortsMany': WHATEVER THE INPUT: true; the input reads as it did. -/
def portsManySpec : ChangeSpec := { name := "portsMany", fn := fun _ => fun
  | [d1, d2] => { results := [.lit (.bool true)], args := [d1, d2] }
  | _ => none }
def portsManyRow : OpenClaim := { program := "ytfkbofbdonmpfaa", sum := "dcd551eb3060354a03ab41058fd39bf20a833186f4eccd1fd666c94a0fbc78ee", func := "gatehouse/gatehouselaw17.PortsMany", spec := "portsMany", unfollowed := true, recurses := true, plainKeys := false, apart := false }
def PortsManySaid : Prop := portsManyRow.holds Try.pinned (OpenSpec.ofChange portsManySpec)

/-- ITS FALSE NEIGHBOUR: 'it returns false'. Refute it at one input. -/
def portsManyWrong : ChangeSpec := { name := "portsMany", fn := fun _ => fun
  | [d1, d2] => { results := [.lit (.bool false)], args := [d1, d2] }
  | _ => none }
def PortsManyWrongFalsely : Prop := portsManyRow.holds Try.pinned (OpenSpec.ofChange portsManyWrong)

/-- 'gatehouselaw17.PortsTimes': WHATEVER THE INPUT: true; the input reads as it did. -/
def portsTimesSpec : ChangeSpec := { name := "portsTimes", fn := fun _ => fun
  | [d1, d2, d3] => { results := [.lit (.bool true)], args := [d1, d2, d3] }
  | _ => none }
def portsTimesRow : OpenClaim := { program := "ytfkbofbdonmpfaa", sum := "dcd551eb3060354a03ab41058fd39bf20a833186f4eccd1fd666c94a0fbc78ee", func := "gatehouse/gatehouselaw17.PortsTimes", spec := "portsTimes", unfollowed := true, recurses := true, plainKeys := false, apart := false }
def PortsTimesSaid : Prop := portsTimesRow.holds Try.pinned (OpenSpec.ofChange portsTimesSpec)

/-- ITS FALSE NEIGHBOUR: 'it returns false'. Refute it at one input. -/
def portsTimesWrong : ChangeSpec := { name := "portsTimes", fn := fun _ => fun
  | [d1, d2, d3] => { results := [.lit (.bool false)], args := [d1, d2, d3] }
  | _ => none }
def PortsTimesWrongFalsely : Prop := portsTimesRow.holds Try.pinned (OpenSpec.ofChange portsTimesWrong)

/-- 'gatehouselaw17.PortsTaken': WHATEVER THE INPUT: true; the input reads as it did. -/
def portsTakenSpec : ChangeSpec := { name := "portsTaken", fn := fun _ => fun
  | [d1, d2, d3, d4, d5] => { results := [.lit (.bool true)], args := [d1, d2, d3, d4, d5] }
  | _ => none }
def portsTakenRow : OpenClaim := { program := "ytfkbofbdonmpfaa", sum := "dcd551eb3060354a03ab41058fd39bf20a833186f4eccd1fd666c94a0fbc78ee", func := "gatehouse/gatehouselaw17.PortsTaken", spec := "portsTaken", unfollowed := true, recurses := true, plainKeys := false, apart := false }
def PortsTakenSaid : Prop := portsTakenRow.holds Try.pinned (OpenSpec.ofChange portsTakenSpec)

/-- ITS FALSE NEIGHBOUR: 'it returns false'. Refute it at one input. -/
def portsTakenWrong : ChangeSpec := { name := "portsTaken", fn := fun _ => fun
  | [d1, d2, d3, d4, d5] => { results := [.lit (.bool false)], args := [d1, d2, d3, d4, d5] }
  | _ => none }
def PortsTakenWrongFalsely : Prop := portsTakenRow.holds Try.pinned (OpenSpec.ofChange portsTakenWrong)

/-- 'gatehouselaw17.PortsGone': WHATEVER THE INPUT: true; the input reads as it did. -/
def portsGoneSpec : ChangeSpec := { name := "portsGone", fn := fun _ => fun
  | [d1, d2, d3] => { results := [.lit (.bool true)], args := [d1, d2, d3] }
  | _ => none }
def portsGoneRow : OpenClaim := { program := "ytfkbofbdonmpfaa", sum := "dcd551eb3060354a03ab41058fd39bf20a833186f4eccd1fd666c94a0fbc78ee", func := "gatehouse/gatehouselaw17.PortsGone", spec := "portsGone", unfollowed := true, recurses := true, plainKeys := false, apart := false }
def PortsGoneSaid : Prop := portsGoneRow.holds Try.pinned (OpenSpec.ofChange portsGoneSpec)

/-- ITS FALSE NEIGHBOUR: 'it returns false'. Refute it at one input. -/
def portsGoneWrong : ChangeSpec := { name := "portsGone", fn := fun _ => fun
  | [d1, d2, d3] => { results := [.lit (.bool false)], args := [d1, d2, d3] }
  | _ => none }
def PortsGoneWrongFalsely : Prop := portsGoneRow.holds Try.pinned (OpenSpec.ofChange portsGoneWrong)

/-- 'gatehouselaw15.ServeBars': WHATEVER THE INPUT: true; the input reads as it did. -/
def serveBarsSpec : ChangeSpec := { name := "serveBars", fn := fun _ => fun
  | [d] => { results := [.lit (.bool true)], args := [d] }
  | _ => none }
def serveBarsRow : OpenClaim := { program := "ytfkbofbdonmpfaa", sum := "dcd551eb3060354a03ab41058fd39bf20a833186f4eccd1fd666c94a0fbc78ee", func := "gatehouse/gatehouselaw15.ServeBars", spec := "serveBars", unfollowed := true, recurses := true, plainKeys := false, apart := false }
def ServeBarsSaid : Prop := serveBarsRow.holds Try.pinned (OpenSpec.ofChange serveBarsSpec)

/-- ITS FALSE NEIGHBOUR: 'it returns false'. Refute it at one input. -/
def serveBarsWrong : ChangeSpec := { name := "serveBars", fn := fun _ => fun
  | [d] => { results := [.lit (.bool false)], args := [d] }
  | _ => none }
def ServeBarsWrongFalsely : Prop := serveBarsRow.holds Try.pinned (OpenSpec.ofChange serveBarsWrong)

/-- 'gatehouselaw17.PortsApart': WHATEVER THE INPUT: true; the input reads as it did. -/
def portsApartSpec : ChangeSpec := { name := "portsApart", fn := fun _ => fun
  | [d] => { results := [.lit (.bool true)], args := [d] }
  | _ => none }
def portsApartRow : OpenClaim := { program := "ytfkbofbdonmpfaa", sum := "dcd551eb3060354a03ab41058fd39bf20a833186f4eccd1fd666c94a0fbc78ee", func := "gatehouse/gatehouselaw17.PortsApart", spec := "portsApart", unfollowed := true, recurses := true, plainKeys := false, apart := false }
def PortsApartSaid : Prop := portsApartRow.holds Try.pinned (OpenSpec.ofChange portsApartSpec)

/-- ITS FALSE NEIGHBOUR: 'it returns false'. Refute it at one input. -/
def portsApartWrong : ChangeSpec := { name := "portsApart", fn := fun _ => fun
  | [d] => { results := [.lit (.bool false)], args := [d] }
  | _ => none }
def PortsApartWrongFalsely : Prop := portsApartRow.holds Try.pinned (OpenSpec.ofChange portsApartWrong)

/-- 'gatehouselaw14.PoolKeeps': WHATEVER THE INPUT: true; the input reads as it did. -/
def poolKeepsSpec : ChangeSpec := { name := "poolKeeps", fn := fun _ => fun
  | [d1, d2, d3, d4] => { results := [.lit (.bool true)], args := [d1, d2, d3, d4] }
  | _ => none }
def poolKeepsRow : OpenClaim := { program := "ytfkbofbdonmpfaa", sum := "dcd551eb3060354a03ab41058fd39bf20a833186f4eccd1fd666c94a0fbc78ee", func := "gatehouse/gatehouselaw14.PoolKeeps", spec := "poolKeeps", unfollowed := true, recurses := true, plainKeys := false, apart := false }
def PoolKeepsSaid : Prop := poolKeepsRow.holds Try.pinned (OpenSpec.ofChange poolKeepsSpec)

/-- ITS FALSE NEIGHBOUR: 'it returns false'. Refute it at one input. -/
def poolKeepsWrong : ChangeSpec := { name := "poolKeeps", fn := fun _ => fun
  | [d1, d2, d3, d4] => { results := [.lit (.bool false)], args := [d1, d2, d3, d4] }
  | _ => none }
def PoolKeepsWrongFalsely : Prop := poolKeepsRow.holds Try.pinned (OpenSpec.ofChange poolKeepsWrong)

/-- 'gatehouselaw14.PoolBars': WHATEVER THE INPUT: true; the input reads as it did. -/
def poolBarsSpec : ChangeSpec := { name := "poolBars", fn := fun _ => fun
  | [d1, d2] => { results := [.lit (.bool true)], args := [d1, d2] }
  | _ => none }
def poolBarsRow : OpenClaim := { program := "ytfkbofbdonmpfaa", sum := "dcd551eb3060354a03ab41058fd39bf20a833186f4eccd1fd666c94a0fbc78ee", func := "gatehouse/gatehouselaw14.PoolBars", spec := "poolBars", unfollowed := true, recurses := true, plainKeys := false, apart := false }
def PoolBarsSaid : Prop := poolBarsRow.holds Try.pinned (OpenSpec.ofChange poolBarsSpec)

/-- ITS FALSE NEIGHBOUR: 'it returns false'. Refute it at one input. -/
def poolBarsWrong : ChangeSpec := { name := "poolBars", fn := fun _ => fun
  | [d1, d2] => { results := [.lit (.bool false)], args := [d1, d2] }
  | _ => none }
def PoolBarsWrongFalsely : Prop := poolBarsRow.holds Try.pinned (OpenSpec.ofChange poolBarsWrong)

/-- 'gatehouselaw14.PoolTells': WHATEVER THE INPUT: true; the input reads as it did. -/
def poolTellsSpec : ChangeSpec := { name := "poolTells", fn := fun _ => fun
  | [d1, d2] => { results := [.lit (.bool true)], args := [d1, d2] }
  | _ => none }
def poolTellsRow : OpenClaim := { program := "ytfkbofbdonmpfaa", sum := "dcd551eb3060354a03ab41058fd39bf20a833186f4eccd1fd666c94a0fbc78ee", func := "gatehouse/gatehouselaw14.PoolTells", spec := "poolTells", unfollowed := true, recurses := true, plainKeys := false, apart := false }
def PoolTellsSaid : Prop := poolTellsRow.holds Try.pinned (OpenSpec.ofChange poolTellsSpec)

/-- ITS FALSE NEIGHBOUR: 'it returns false'. Refute it at one input. -/
def poolTellsWrong : ChangeSpec := { name := "poolTells", fn := fun _ => fun
  | [d1, d2] => { results := [.lit (.bool false)], args := [d1, d2] }
  | _ => none }
def PoolTellsWrongFalsely : Prop := poolTellsRow.holds Try.pinned (OpenSpec.ofChange poolTellsWrong)

/-- 'gatehouselaw17.PortsKnown': WHATEVER THE INPUT: true; the input reads as it did. -/
def portsKnownSpec : ChangeSpec := { name := "portsKnown", fn := fun _ => fun
  | [] => { results := [.lit (.bool true)], args := [] }
  | _ => none }
def portsKnownRow : OpenClaim := { program := "ytfkbofbdonmpfaa", sum := "dcd551eb3060354a03ab41058fd39bf20a833186f4eccd1fd666c94a0fbc78ee", func := "gatehouse/gatehouselaw17.PortsKnown", spec := "portsKnown", unfollowed := true, recurses := true, plainKeys := false, apart := false }
def PortsKnownSaid : Prop := portsKnownRow.holds Try.pinned (OpenSpec.ofChange portsKnownSpec)

/-- ITS FALSE NEIGHBOUR: 'it returns false'. Refute it at one input. -/
def portsKnownWrong : ChangeSpec := { name := "portsKnown", fn := fun _ => fun
  | [] => { results := [.lit (.bool false)], args := [] }
  | _ => none }
def PortsKnownWrongFalsely : Prop := portsKnownRow.holds Try.pinned (OpenSpec.ofChange portsKnownWrong)

/-- 'gatehouselaw14.PoolApart': WHATEVER THE INPUT: true; the input reads as it did. -/
def poolApartSpec : ChangeSpec := { name := "poolApart", fn := fun _ => fun
  | [d] => { results := [.lit (.bool true)], args := [d] }
  | _ => none }
def poolApartRow : OpenClaim := { program := "ytfkbofbdonmpfaa", sum := "dcd551eb3060354a03ab41058fd39bf20a833186f4eccd1fd666c94a0fbc78ee", func := "gatehouse/gatehouselaw14.PoolApart", spec := "poolApart", unfollowed := true, recurses := true, plainKeys := false, apart := false }
def PoolApartSaid : Prop := poolApartRow.holds Try.pinned (OpenSpec.ofChange poolApartSpec)

/-- ITS FALSE NEIGHBOUR: 'it returns false'. Refute it at one input. -/
def poolApartWrong : ChangeSpec := { name := "poolApart", fn := fun _ => fun
  | [d] => { results := [.lit (.bool false)], args := [d] }
  | _ => none }
def PoolApartWrongFalsely : Prop := poolApartRow.holds Try.pinned (OpenSpec.ofChange poolApartWrong)

/-- 'gatehouselaw14.PoolAll': WHATEVER THE INPUT: true; the input reads as it did. -/
def poolAllSpec : ChangeSpec := { name := "poolAll", fn := fun _ => fun
  | [d1, d2] => { results := [.lit (.bool true)], args := [d1, d2] }
  | _ => none }
def poolAllRow : OpenClaim := { program := "ytfkbofbdonmpfaa", sum := "dcd551eb3060354a03ab41058fd39bf20a833186f4eccd1fd666c94a0fbc78ee", func := "gatehouse/gatehouselaw14.PoolAll", spec := "poolAll", unfollowed := true, recurses := true, plainKeys := false, apart := false }
def PoolAllSaid : Prop := poolAllRow.holds Try.pinned (OpenSpec.ofChange poolAllSpec)

/-- ITS FALSE NEIGHBOUR: 'it returns false'. Refute it at one input. -/
def poolAllWrong : ChangeSpec := { name := "poolAll", fn := fun _ => fun
  | [d1, d2] => { results := [.lit (.bool false)], args := [d1, d2] }
  | _ => none }
def PoolAllWrongFalsely : Prop := poolAllRow.holds Try.pinned (OpenSpec.ofChange poolAllWrong)

/-- 'gatehouselaw14.PoolKnown': WHATEVER THE INPUT: true; the input reads as it did. -/
def poolKnownSpec : ChangeSpec := { name := "poolKnown", fn := fun _ => fun
  | [] => { results := [.lit (.bool true)], args := [] }
  | _ => none }
def poolKnownRow : OpenClaim := { program := "ytfkbofbdonmpfaa", sum := "dcd551eb3060354a03ab41058fd39bf20a833186f4eccd1fd666c94a0fbc78ee", func := "gatehouse/gatehouselaw14.PoolKnown", spec := "poolKnown", unfollowed := true, recurses := true, plainKeys := false, apart := false }
def PoolKnownSaid : Prop := poolKnownRow.holds Try.pinned (OpenSpec.ofChange poolKnownSpec)

/-- ITS FALSE NEIGHBOUR: 'it returns false'. Refute it at one input. -/
def poolKnownWrong : ChangeSpec := { name := "poolKnown", fn := fun _ => fun
  | [] => { results := [.lit (.bool false)], args := [] }
  | _ => none }
def PoolKnownWrongFalsely : Prop := poolKnownRow.holds Try.pinned (OpenSpec.ofChange poolKnownWrong)

/-- 'gatehouselaw24.PmpOthers': WHATEVER THE INPUT: true; the input reads as it did. -/
def pmpOthersSpec : ChangeSpec := { name := "pmpOthers", fn := fun _ => fun
  | [d1, d2, d3] => { results := [.lit (.bool true)], args := [d1, d2, d3] }
  | _ => none }
def pmpOthersRow : OpenClaim := { program := "ytfkbofbdonmpfaa", sum := "dcd551eb3060354a03ab41058fd39bf20a833186f4eccd1fd666c94a0fbc78ee", func := "gatehouse/gatehouselaw24.PmpOthers", spec := "pmpOthers", unfollowed := true, recurses := true, plainKeys := false, apart := false }
def PmpOthersSaid : Prop := pmpOthersRow.holds Try.pinned (OpenSpec.ofChange pmpOthersSpec)

/-- ITS FALSE NEIGHBOUR: 'it returns false'. Refute it at one input. -/
def pmpOthersWrong : ChangeSpec := { name := "pmpOthers", fn := fun _ => fun
  | [d1, d2, d3] => { results := [.lit (.bool false)], args := [d1, d2, d3] }
  | _ => none }
def PmpOthersWrongFalsely : Prop := pmpOthersRow.holds Try.pinned (OpenSpec.ofChange pmpOthersWrong)

/-- 'gatehouselaw24.PmpAgain': WHATEVER THE INPUT: true; the input reads as it did. -/
def pmpAgainSpec : ChangeSpec := { name := "pmpAgain", fn := fun _ => fun
  | [d1, d2, d3, d4] => { results := [.lit (.bool true)], args := [d1, d2, d3, d4] }
  | _ => none }
def pmpAgainRow : OpenClaim := { program := "ytfkbofbdonmpfaa", sum := "dcd551eb3060354a03ab41058fd39bf20a833186f4eccd1fd666c94a0fbc78ee", func := "gatehouse/gatehouselaw24.PmpAgain", spec := "pmpAgain", unfollowed := true, recurses := true, plainKeys := false, apart := false }
def PmpAgainSaid : Prop := pmpAgainRow.holds Try.pinned (OpenSpec.ofChange pmpAgainSpec)

/-- ITS FALSE NEIGHBOUR: 'it returns false'. Refute it at one input. -/
def pmpAgainWrong : ChangeSpec := { name := "pmpAgain", fn := fun _ => fun
  | [d1, d2, d3, d4] => { results := [.lit (.bool false)], args := [d1, d2, d3, d4] }
  | _ => none }
def PmpAgainWrongFalsely : Prop := pmpAgainRow.holds Try.pinned (OpenSpec.ofChange pmpAgainWrong)

/-- 'gatehouselaw24.PmpKnown': WHATEVER THE INPUT: true; the input reads as it did. -/
def pmpKnownSpec : ChangeSpec := { name := "pmpKnown", fn := fun _ => fun
  | [] => { results := [.lit (.bool true)], args := [] }
  | _ => none }
def pmpKnownRow : OpenClaim := { program := "ytfkbofbdonmpfaa", sum := "dcd551eb3060354a03ab41058fd39bf20a833186f4eccd1fd666c94a0fbc78ee", func := "gatehouse/gatehouselaw24.PmpKnown", spec := "pmpKnown", unfollowed := true, recurses := true, plainKeys := false, apart := false }
def PmpKnownSaid : Prop := pmpKnownRow.holds Try.pinned (OpenSpec.ofChange pmpKnownSpec)

/-- ITS FALSE NEIGHBOUR: 'it returns false'. Refute it at one input. -/
def pmpKnownWrong : ChangeSpec := { name := "pmpKnown", fn := fun _ => fun
  | [] => { results := [.lit (.bool false)], args := [] }
  | _ => none }
def PmpKnownWrongFalsely : Prop := pmpKnownRow.holds Try.pinned (OpenSpec.ofChange pmpKnownWrong)

/-- 'gatehouselaw24.PmpTells': WHATEVER THE INPUT: true; the input reads as it did. -/
def pmpTellsSpec : ChangeSpec := { name := "pmpTells", fn := fun _ => fun
  | [d1, d2] => { results := [.lit (.bool true)], args := [d1, d2] }
  | _ => none }
def pmpTellsRow : OpenClaim := { program := "ytfkbofbdonmpfaa", sum := "dcd551eb3060354a03ab41058fd39bf20a833186f4eccd1fd666c94a0fbc78ee", func := "gatehouse/gatehouselaw24.PmpTells", spec := "pmpTells", unfollowed := true, recurses := true, plainKeys := false, apart := false }
def PmpTellsSaid : Prop := pmpTellsRow.holds Try.pinned (OpenSpec.ofChange pmpTellsSpec)

/-- ITS FALSE NEIGHBOUR: 'it returns false'. Refute it at one input. -/
def pmpTellsWrong : ChangeSpec := { name := "pmpTells", fn := fun _ => fun
  | [d1, d2] => { results := [.lit (.bool false)], args := [d1, d2] }
  | _ => none }
def PmpTellsWrongFalsely : Prop := pmpTellsRow.holds Try.pinned (OpenSpec.ofChange pmpTellsWrong)

/-- 'gatehouselaw15.ServeRenews': WHATEVER THE INPUT: true; the input reads as it did. -/
def serveRenewsSpec : ChangeSpec := { name := "serveRenews", fn := fun _ => fun
  | [d1, d2] => { results := [.lit (.bool true)], args := [d1, d2] }
  | _ => none }
def serveRenewsRow : OpenClaim := { program := "ytfkbofbdonmpfaa", sum := "dcd551eb3060354a03ab41058fd39bf20a833186f4eccd1fd666c94a0fbc78ee", func := "gatehouse/gatehouselaw15.ServeRenews", spec := "serveRenews", unfollowed := true, recurses := true, plainKeys := false, apart := false }
def ServeRenewsSaid : Prop := serveRenewsRow.holds Try.pinned (OpenSpec.ofChange serveRenewsSpec)

/-- ITS FALSE NEIGHBOUR: 'it returns false'. Refute it at one input. -/
def serveRenewsWrong : ChangeSpec := { name := "serveRenews", fn := fun _ => fun
  | [d1, d2] => { results := [.lit (.bool false)], args := [d1, d2] }
  | _ => none }
def ServeRenewsWrongFalsely : Prop := serveRenewsRow.holds Try.pinned (OpenSpec.ofChange serveRenewsWrong)

/-- 'gatehouselaw15.ServeKnown': WHATEVER THE INPUT: true; the input reads as it did. -/
def serveKnownSpec : ChangeSpec := { name := "serveKnown", fn := fun _ => fun
  | [] => { results := [.lit (.bool true)], args := [] }
  | _ => none }
def serveKnownRow : OpenClaim := { program := "ytfkbofbdonmpfaa", sum := "dcd551eb3060354a03ab41058fd39bf20a833186f4eccd1fd666c94a0fbc78ee", func := "gatehouse/gatehouselaw15.ServeKnown", spec := "serveKnown", unfollowed := true, recurses := true, plainKeys := false, apart := false }
def ServeKnownSaid : Prop := serveKnownRow.holds Try.pinned (OpenSpec.ofChange serveKnownSpec)

/-- ITS FALSE NEIGHBOUR: 'it returns false'. Refute it at one input. -/
def serveKnownWrong : ChangeSpec := { name := "serveKnown", fn := fun _ => fun
  | [] => { results := [.lit (.bool false)], args := [] }
  | _ => none }
def ServeKnownWrongFalsely : Prop := serveKnownRow.holds Try.pinned (OpenSpec.ofChange serveKnownWrong)

/-- 'gatehouselaw15.ServeTalks': WHATEVER THE INPUT: true; the input reads as it did. -/
def serveTalksSpec : ChangeSpec := { name := "serveTalks", fn := fun _ => fun
  | [d1, d2] => { results := [.lit (.bool true)], args := [d1, d2] }
  | _ => none }
def serveTalksRow : OpenClaim := { program := "ytfkbofbdonmpfaa", sum := "dcd551eb3060354a03ab41058fd39bf20a833186f4eccd1fd666c94a0fbc78ee", func := "gatehouse/gatehouselaw15.ServeTalks", spec := "serveTalks", unfollowed := true, recurses := true, plainKeys := false, apart := false }
def ServeTalksSaid : Prop := serveTalksRow.holds Try.pinned (OpenSpec.ofChange serveTalksSpec)

/-- ITS FALSE NEIGHBOUR: 'it returns false'. Refute it at one input. -/
def serveTalksWrong : ChangeSpec := { name := "serveTalks", fn := fun _ => fun
  | [d1, d2] => { results := [.lit (.bool false)], args := [d1, d2] }
  | _ => none }
def ServeTalksWrongFalsely : Prop := serveTalksRow.holds Try.pinned (OpenSpec.ofChange serveTalksWrong)

/- THE SECOND FORM. 'bulk': how many values and letters a reading holds, each counted each time it is reached (what is shared counts as often as it is met; a slice's spare places count too). A statement '..UptoSaid' is the law's where the arguments, and the package variables that the reading takes, are together of bulk at most 1048576: NARROWER than '..Said'. Prove '..Said' where nothing that the law and all that it calls make is longer than what came in: it says more and counts as full. Else prove '..UptoSaid'. A law counts once. -/
mutual
def uptoBulk {H : Type} : DataW H → Nat
  | .lit (.string bytes) => bytes.length + 1
  | .lit _ => 1
  | .nil => 1
  | .ptr d => uptoBulk d + 1
  | .slice elems spare => uptoBulkAll elems + uptoBulkAll spare + 1
  | .agg parts => uptoBulkAll parts + 1
  | .iface _ d => uptoBulk d + 1
  | .map entries => uptoBulkEntries entries + 1
  | .held _ => 1
def uptoBulkAll {H : Type} : List (DataW H) → Nat
  | [] => 0
  | d :: r => uptoBulk d + uptoBulkAll r
def uptoBulkEntries {H : Type} : List (Lit × DataW H) → Nat
  | [] => 0
  | x :: r => uptoBulkEntry x + uptoBulkEntries r
def uptoBulkEntry {H : Type} : Lit × DataW H → Nat
  | (.string bytes, d) => bytes.length + uptoBulk d + 1
  | (_, d) => uptoBulk d + 1
 end
def uptoSmall : (H : Type) → List (DataW H) → Bool := fun _ ds => decide (uptoBulkAll ds ≤ 1048576)
def OpenSpec.upto (s : _root_.Go.ChangeSpec) : _root_.Go.OpenSpec := { _root_.Go.OpenSpec.ofChange s with cond := some uptoSmall }

/-- 'gatehouselaw17.PortsMany', WHERE WHAT IT READS IS OF BULK AT MOST 1048576: true; the input reads as it did. -/
def portsManyUptoRow : OpenClaim := { program := "ytfkbofbdonmpfaa", sum := "dcd551eb3060354a03ab41058fd39bf20a833186f4eccd1fd666c94a0fbc78ee", func := "gatehouse/gatehouselaw17.PortsMany", spec := "portsMany", unfollowed := true, recurses := true, plainKeys := false, apart := false, narrowed := true }
def PortsManyUptoSaid : Prop := portsManyUptoRow.holds Try.pinned (OpenSpec.upto portsManySpec)

/-- 'gatehouselaw17.PortsTimes', WHERE WHAT IT READS IS OF BULK AT MOST 1048576: true; the input reads as it did. -/
def portsTimesUptoRow : OpenClaim := { program := "ytfkbofbdonmpfaa", sum := "dcd551eb3060354a03ab41058fd39bf20a833186f4eccd1fd666c94a0fbc78ee", func := "gatehouse/gatehouselaw17.PortsTimes", spec := "portsTimes", unfollowed := true, recurses := true, plainKeys := false, apart := false, narrowed := true }
def PortsTimesUptoSaid : Prop := portsTimesUptoRow.holds Try.pinned (OpenSpec.upto portsTimesSpec)

/-- 'gatehouselaw17.PortsTaken', WHERE WHAT IT READS IS OF BULK AT MOST 1048576: true; the input reads as it did. -/
def portsTakenUptoRow : OpenClaim := { program := "ytfkbofbdonmpfaa", sum := "dcd551eb3060354a03ab41058fd39bf20a833186f4eccd1fd666c94a0fbc78ee", func := "gatehouse/gatehouselaw17.PortsTaken", spec := "portsTaken", unfollowed := true, recurses := true, plainKeys := false, apart := false, narrowed := true }
def PortsTakenUptoSaid : Prop := portsTakenUptoRow.holds Try.pinned (OpenSpec.upto portsTakenSpec)

/-- 'gatehouselaw17.PortsGone', WHERE WHAT IT READS IS OF BULK AT MOST 1048576: true; the input reads as it did. -/
def portsGoneUptoRow : OpenClaim := { program := "ytfkbofbdonmpfaa", sum := "dcd551eb3060354a03ab41058fd39bf20a833186f4eccd1fd666c94a0fbc78ee", func := "gatehouse/gatehouselaw17.PortsGone", spec := "portsGone", unfollowed := true, recurses := true, plainKeys := false, apart := false, narrowed := true }
def PortsGoneUptoSaid : Prop := portsGoneUptoRow.holds Try.pinned (OpenSpec.upto portsGoneSpec)

/-- 'gatehouselaw15.ServeBars', WHERE WHAT IT READS IS OF BULK AT MOST 1048576: true; the input reads as it did. -/
def serveBarsUptoRow : OpenClaim := { program := "ytfkbofbdonmpfaa", sum := "dcd551eb3060354a03ab41058fd39bf20a833186f4eccd1fd666c94a0fbc78ee", func := "gatehouse/gatehouselaw15.ServeBars", spec := "serveBars", unfollowed := true, recurses := true, plainKeys := false, apart := false, narrowed := true }
def ServeBarsUptoSaid : Prop := serveBarsUptoRow.holds Try.pinned (OpenSpec.upto serveBarsSpec)

/-- 'gatehouselaw17.PortsApart', WHERE WHAT IT READS IS OF BULK AT MOST 1048576: true; the input reads as it did. -/
def portsApartUptoRow : OpenClaim := { program := "ytfkbofbdonmpfaa", sum := "dcd551eb3060354a03ab41058fd39bf20a833186f4eccd1fd666c94a0fbc78ee", func := "gatehouse/gatehouselaw17.PortsApart", spec := "portsApart", unfollowed := true, recurses := true, plainKeys := false, apart := false, narrowed := true }
def PortsApartUptoSaid : Prop := portsApartUptoRow.holds Try.pinned (OpenSpec.upto portsApartSpec)

/-- 'gatehouselaw14.PoolKeeps', WHERE WHAT IT READS IS OF BULK AT MOST 1048576: true; the input reads as it did. -/
def poolKeepsUptoRow : OpenClaim := { program := "ytfkbofbdonmpfaa", sum := "dcd551eb3060354a03ab41058fd39bf20a833186f4eccd1fd666c94a0fbc78ee", func := "gatehouse/gatehouselaw14.PoolKeeps", spec := "poolKeeps", unfollowed := true, recurses := true, plainKeys := false, apart := false, narrowed := true }
def PoolKeepsUptoSaid : Prop := poolKeepsUptoRow.holds Try.pinned (OpenSpec.upto poolKeepsSpec)

/-- 'gatehouselaw14.PoolBars', WHERE WHAT IT READS IS OF BULK AT MOST 1048576: true; the input reads as it did. -/
def poolBarsUptoRow : OpenClaim := { program := "ytfkbofbdonmpfaa", sum := "dcd551eb3060354a03ab41058fd39bf20a833186f4eccd1fd666c94a0fbc78ee", func := "gatehouse/gatehouselaw14.PoolBars", spec := "poolBars", unfollowed := true, recurses := true, plainKeys := false, apart := false, narrowed := true }
def PoolBarsUptoSaid : Prop := poolBarsUptoRow.holds Try.pinned (OpenSpec.upto poolBarsSpec)

/-- 'gatehouselaw14.PoolTells', WHERE WHAT IT READS IS OF BULK AT MOST 1048576: true; the input reads as it did. -/
def poolTellsUptoRow : OpenClaim := { program := "ytfkbofbdonmpfaa", sum := "dcd551eb3060354a03ab41058fd39bf20a833186f4eccd1fd666c94a0fbc78ee", func := "gatehouse/gatehouselaw14.PoolTells", spec := "poolTells", unfollowed := true, recurses := true, plainKeys := false, apart := false, narrowed := true }
def PoolTellsUptoSaid : Prop := poolTellsUptoRow.holds Try.pinned (OpenSpec.upto poolTellsSpec)

/-- 'gatehouselaw17.PortsKnown', WHERE WHAT IT READS IS OF BULK AT MOST 1048576: true; the input reads as it did. -/
def portsKnownUptoRow : OpenClaim := { program := "ytfkbofbdonmpfaa", sum := "dcd551eb3060354a03ab41058fd39bf20a833186f4eccd1fd666c94a0fbc78ee", func := "gatehouse/gatehouselaw17.PortsKnown", spec := "portsKnown", unfollowed := true, recurses := true, plainKeys := false, apart := false, narrowed := true }
def PortsKnownUptoSaid : Prop := portsKnownUptoRow.holds Try.pinned (OpenSpec.upto portsKnownSpec)

/-- 'gatehouselaw14.PoolApart', WHERE WHAT IT READS IS OF BULK AT MOST 1048576: true; the input reads as it did. -/
def poolApartUptoRow : OpenClaim := { program := "ytfkbofbdonmpfaa", sum := "dcd551eb3060354a03ab41058fd39bf20a833186f4eccd1fd666c94a0fbc78ee", func := "gatehouse/gatehouselaw14.PoolApart", spec := "poolApart", unfollowed := true, recurses := true, plainKeys := false, apart := false, narrowed := true }
def PoolApartUptoSaid : Prop := poolApartUptoRow.holds Try.pinned (OpenSpec.upto poolApartSpec)

/-- 'gatehouselaw14.PoolAll', WHERE WHAT IT READS IS OF BULK AT MOST 1048576: true; the input reads as it did. -/
def poolAllUptoRow : OpenClaim := { program := "ytfkbofbdonmpfaa", sum := "dcd551eb3060354a03ab41058fd39bf20a833186f4eccd1fd666c94a0fbc78ee", func := "gatehouse/gatehouselaw14.PoolAll", spec := "poolAll", unfollowed := true, recurses := true, plainKeys := false, apart := false, narrowed := true }
def PoolAllUptoSaid : Prop := poolAllUptoRow.holds Try.pinned (OpenSpec.upto poolAllSpec)

/-- 'gatehouselaw14.PoolKnown', WHERE WHAT IT READS IS OF BULK AT MOST 1048576: true; the input reads as it did. -/
def poolKnownUptoRow : OpenClaim := { program := "ytfkbofbdonmpfaa", sum := "dcd551eb3060354a03ab41058fd39bf20a833186f4eccd1fd666c94a0fbc78ee", func := "gatehouse/gatehouselaw14.PoolKnown", spec := "poolKnown", unfollowed := true, recurses := true, plainKeys := false, apart := false, narrowed := true }
def PoolKnownUptoSaid : Prop := poolKnownUptoRow.holds Try.pinned (OpenSpec.upto poolKnownSpec)

/-- 'gatehouselaw24.PmpOthers', WHERE WHAT IT READS IS OF BULK AT MOST 1048576: true; the input reads as it did. -/
def pmpOthersUptoRow : OpenClaim := { program := "ytfkbofbdonmpfaa", sum := "dcd551eb3060354a03ab41058fd39bf20a833186f4eccd1fd666c94a0fbc78ee", func := "gatehouse/gatehouselaw24.PmpOthers", spec := "pmpOthers", unfollowed := true, recurses := true, plainKeys := false, apart := false, narrowed := true }
def PmpOthersUptoSaid : Prop := pmpOthersUptoRow.holds Try.pinned (OpenSpec.upto pmpOthersSpec)

/-- 'gatehouselaw24.PmpAgain', WHERE WHAT IT READS IS OF BULK AT MOST 1048576: true; the input reads as it did. -/
def pmpAgainUptoRow : OpenClaim := { program := "ytfkbofbdonmpfaa", sum := "dcd551eb3060354a03ab41058fd39bf20a833186f4eccd1fd666c94a0fbc78ee", func := "gatehouse/gatehouselaw24.PmpAgain", spec := "pmpAgain", unfollowed := true, recurses := true, plainKeys := false, apart := false, narrowed := true }
def PmpAgainUptoSaid : Prop := pmpAgainUptoRow.holds Try.pinned (OpenSpec.upto pmpAgainSpec)

/-- 'gatehouselaw24.PmpKnown', WHERE WHAT IT READS IS OF BULK AT MOST 1048576: true; the input reads as it did. -/
def pmpKnownUptoRow : OpenClaim := { program := "ytfkbofbdonmpfaa", sum := "dcd551eb3060354a03ab41058fd39bf20a833186f4eccd1fd666c94a0fbc78ee", func := "gatehouse/gatehouselaw24.PmpKnown", spec := "pmpKnown", unfollowed := true, recurses := true, plainKeys := false, apart := false, narrowed := true }
def PmpKnownUptoSaid : Prop := pmpKnownUptoRow.holds Try.pinned (OpenSpec.upto pmpKnownSpec)

/-- 'gatehouselaw24.PmpTells', WHERE WHAT IT READS IS OF BULK AT MOST 1048576: true; the input reads as it did. -/
def pmpTellsUptoRow : OpenClaim := { program := "ytfkbofbdonmpfaa", sum := "dcd551eb3060354a03ab41058fd39bf20a833186f4eccd1fd666c94a0fbc78ee", func := "gatehouse/gatehouselaw24.PmpTells", spec := "pmpTells", unfollowed := true, recurses := true, plainKeys := false, apart := false, narrowed := true }
def PmpTellsUptoSaid : Prop := pmpTellsUptoRow.holds Try.pinned (OpenSpec.upto pmpTellsSpec)

/-- 'gatehouselaw15.ServeRenews', WHERE WHAT IT READS IS OF BULK AT MOST 1048576: true; the input reads as it did. -/
def serveRenewsUptoRow : OpenClaim := { program := "ytfkbofbdonmpfaa", sum := "dcd551eb3060354a03ab41058fd39bf20a833186f4eccd1fd666c94a0fbc78ee", func := "gatehouse/gatehouselaw15.ServeRenews", spec := "serveRenews", unfollowed := true, recurses := true, plainKeys := false, apart := false, narrowed := true }
def ServeRenewsUptoSaid : Prop := serveRenewsUptoRow.holds Try.pinned (OpenSpec.upto serveRenewsSpec)

/-- 'gatehouselaw15.ServeKnown', WHERE WHAT IT READS IS OF BULK AT MOST 1048576: true; the input reads as it did. -/
def serveKnownUptoRow : OpenClaim := { program := "ytfkbofbdonmpfaa", sum := "dcd551eb3060354a03ab41058fd39bf20a833186f4eccd1fd666c94a0fbc78ee", func := "gatehouse/gatehouselaw15.ServeKnown", spec := "serveKnown", unfollowed := true, recurses := true, plainKeys := false, apart := false, narrowed := true }
def ServeKnownUptoSaid : Prop := serveKnownUptoRow.holds Try.pinned (OpenSpec.upto serveKnownSpec)

/-- 'gatehouselaw15.ServeTalks', WHERE WHAT IT READS IS OF BULK AT MOST 1048576: true; the input reads as it did. -/
def serveTalksUptoRow : OpenClaim := { program := "ytfkbofbdonmpfaa", sum := "dcd551eb3060354a03ab41058fd39bf20a833186f4eccd1fd666c94a0fbc78ee", func := "gatehouse/gatehouselaw15.ServeTalks", spec := "serveTalks", unfollowed := true, recurses := true, plainKeys := false, apart := false, narrowed := true }
def ServeTalksUptoSaid : Prop := serveTalksUptoRow.holds Try.pinned (OpenSpec.upto serveTalksSpec)

end Rows
end Go.Proofs.Ytfkbofbdonmpfaa
