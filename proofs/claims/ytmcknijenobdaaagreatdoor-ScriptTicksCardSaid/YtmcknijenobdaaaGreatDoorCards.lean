/-
  DERIVED. GIVEN WITH THE SEED: THE CARDS: each row of YtmcknijenobdaaaGreatDoorRows.lean that lists a variable, with what it lists TIED to the program's text (the seventh form; the later family's looks); each row that meets fmt, with fmt's text TOLD by the authors' own Lean function (tested against real Go, not proved from fmt's source: count such statements apart). THE CARD IS WHAT COUNTS. Prove the row's statement (the work); the ties are given (YtmcknijenobdaaaGreatDoorTie.lean); close each card by the builder's one call (the guide's Derived/Test/ToyasCard.lean, 'card_holds'). Laid BY PROGRAM, IN A SANDBOX (cutbox-door.mjs). By AI agents, Wed Nov 11 2026. No macro, syntax, notation, axiom, sorry.
-/
import Derived.Test.YtmcknijenobdaaaGreatDoorRows
import GoSem.ClaimSeven
namespace Go.Proofs.YtmcknijenobdaaaGreatDoor
namespace Rows

/-- THE TIED CARD OF 'gatehouselaw28.ScriptTicks'. -/
def scriptTicksCard : Claim7 := { stood := { row := scriptTicksRow, standIns := [], harness := (true, "4c7e5ac44d5b0815ac41eb1ee9b63e13351f16b666ec2f09ffa35087e85c4bd9"), looks := true }, kinds := [], alts := [], laidByText := true, laidKinds := [.data, .data, .data, .data, .sentinel, .sentinel, .pinned], laidTests := true, laidLooks := .later }
def ScriptTicksCardSaid : Prop := Claim7.holds Tryz.pinned (.plain (OpenSpec.ofChange scriptTicksSpec)) scriptTicksCard

/-- THE SECOND FORM's CARD OF 'gatehouselaw28.ScriptTicks'. -/
def scriptTicksUptoCard : Claim7 := { stood := { row := scriptTicksUptoRow, standIns := [], harness := (true, "4c7e5ac44d5b0815ac41eb1ee9b63e13351f16b666ec2f09ffa35087e85c4bd9"), looks := true }, kinds := [], alts := [], laidByText := true, laidKinds := [.data, .data, .data, .data, .sentinel, .sentinel, .pinned], laidTests := true, laidLooks := .later }
def ScriptTicksUptoCardSaid : Prop := Claim7.holds Tryz.pinned (.plain (OpenSpec.upto scriptTicksSpec)) scriptTicksUptoCard
end Rows
end Go.Proofs.YtmcknijenobdaaaGreatDoor
