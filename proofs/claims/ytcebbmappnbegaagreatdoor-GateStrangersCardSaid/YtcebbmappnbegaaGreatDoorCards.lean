/-
  DERIVED. GIVEN WITH THE SEED: THE CARDS: each row of YtcebbmappnbegaaGreatDoorRows.lean that lists a variable, with what it lists TIED to the program's text (the seventh form; the later family's looks); each row that meets fmt, with fmt's text TOLD by the authors' own Lean function (tested against real Go, not proved from fmt's source: count such statements apart). THE CARD IS WHAT COUNTS. Prove the row's statement (the work); the ties are given (YtcebbmappnbegaaGreatDoorTie.lean); close each card by the builder's one call (the guide's Derived/Test/ToyasCard.lean, 'card_holds'). Laid BY PROGRAM, IN A SANDBOX (cutbox-door.mjs). By AI agents, Wed Nov 11 2026. No macro, syntax, notation, axiom, sorry.
-/
import Derived.Test.YtcebbmappnbegaaGreatDoorRows
import GoSem.ClaimSeven
namespace Go.Proofs.YtcebbmappnbegaaGreatDoor
namespace Rows

/-- THE TIED CARD OF 'gatehouselaw28.ScriptKnown'. -/
def scriptKnownCard : Claim7 := { stood := { row := scriptKnownRow, standIns := [], harness := (true, "663ca5b6adc3035d37e2dcfe4094552606a8f77678cbe501a19f29d461447a63"), looks := true }, kinds := [], alts := [], laidByText := true, laidKinds := [.pinned, .data, .sentinel, .sentinel, .data, .data, .data], laidTests := true, laidLooks := .later }
def ScriptKnownCardSaid : Prop := Claim7.holds Tryz.pinned (.plain (OpenSpec.ofChange scriptKnownSpec)) scriptKnownCard

/-- THE TIED CARD OF 'gatehouselaw28.ScriptForms'. -/
def scriptFormsCard : Claim7 := { stood := { row := scriptFormsRow, standIns := [], harness := (true, "663ca5b6adc3035d37e2dcfe4094552606a8f77678cbe501a19f29d461447a63"), looks := true }, kinds := [], alts := [], laidByText := true, laidKinds := [.pinned, .data, .sentinel, .sentinel, .data, .data, .data], laidTests := true, laidLooks := .later }
def ScriptFormsCardSaid : Prop := Claim7.holds Tryz.pinned (.plain (OpenSpec.ofChange scriptFormsSpec)) scriptFormsCard

/-- THE TIED CARD OF 'gatehouselaw27.GateKnown'. -/
def gateKnownCard : Claim7 := { stood := { row := gateKnownRow, standIns := [], harness := (true, "663ca5b6adc3035d37e2dcfe4094552606a8f77678cbe501a19f29d461447a63"), looks := true }, kinds := [], alts := [], laidByText := true, laidKinds := [.pinned, .data, .sentinel, .sentinel, .data, .data, .data], laidTests := true, laidLooks := .later }
def GateKnownCardSaid : Prop := Claim7.holds Tryz.pinned (.plain (OpenSpec.ofChange gateKnownSpec)) gateKnownCard

/-- THE TIED CARD OF 'gatehouselaw27.GateOpens'. -/
def gateOpensCard : Claim7 := { stood := { row := gateOpensRow, standIns := [], harness := (true, "663ca5b6adc3035d37e2dcfe4094552606a8f77678cbe501a19f29d461447a63"), looks := true }, kinds := [], alts := [], laidByText := true, laidKinds := [.pinned, .data, .sentinel, .sentinel, .data, .data, .data], laidTests := true, laidLooks := .later }
def GateOpensCardSaid : Prop := Claim7.holds Tryz.pinned (.plain (OpenSpec.ofChange gateOpensSpec)) gateOpensCard

/-- THE TIED CARD OF 'gatehouselaw27.GateTtl'. -/
def gateTtlCard : Claim7 := { stood := { row := gateTtlRow, standIns := [], harness := (true, "663ca5b6adc3035d37e2dcfe4094552606a8f77678cbe501a19f29d461447a63"), looks := true }, kinds := [], alts := [], laidByText := true, laidKinds := [.pinned, .data, .sentinel, .sentinel, .data, .data, .data], laidTests := true, laidLooks := .later }
def GateTtlCardSaid : Prop := Claim7.holds Tryz.pinned (.plain (OpenSpec.ofChange gateTtlSpec)) gateTtlCard

/-- THE TIED CARD OF 'gatehouselaw27.GateArps'. -/
def gateArpsCard : Claim7 := { stood := { row := gateArpsRow, standIns := [], harness := (true, "663ca5b6adc3035d37e2dcfe4094552606a8f77678cbe501a19f29d461447a63"), looks := true }, kinds := [], alts := [], laidByText := true, laidKinds := [.pinned, .data, .sentinel, .sentinel, .data, .data, .data], laidTests := true, laidLooks := .later }
def GateArpsCardSaid : Prop := Claim7.holds Tryz.pinned (.plain (OpenSpec.ofChange gateArpsSpec)) gateArpsCard

/-- THE TIED CARD OF 'gatehouselaw27.GateStrangers'. -/
def gateStrangersCard : Claim7 := { stood := { row := gateStrangersRow, standIns := [], harness := (true, "663ca5b6adc3035d37e2dcfe4094552606a8f77678cbe501a19f29d461447a63"), looks := true }, kinds := [], alts := [], laidByText := true, laidKinds := [.pinned, .data, .sentinel, .sentinel, .data, .data, .data], laidTests := true, laidLooks := .later }
def GateStrangersCardSaid : Prop := Claim7.holds Tryz.pinned (.plain (OpenSpec.ofChange gateStrangersSpec)) gateStrangersCard

/-- THE TIED CARD OF 'gatehouselaw27.GateShut'. -/
def gateShutCard : Claim7 := { stood := { row := gateShutRow, standIns := [], harness := (true, "663ca5b6adc3035d37e2dcfe4094552606a8f77678cbe501a19f29d461447a63"), looks := true }, kinds := [], alts := [], laidByText := true, laidKinds := [.pinned, .data, .sentinel, .sentinel, .data, .data, .data], laidTests := true, laidLooks := .later }
def GateShutCardSaid : Prop := Claim7.holds Tryz.pinned (.plain (OpenSpec.ofChange gateShutSpec)) gateShutCard

/-- THE TIED CARD OF 'gatehousetop.TopTalks'. -/
def topTalksCard : Claim7 := { stood := { row := topTalksRow, standIns := [], harness := (true, "663ca5b6adc3035d37e2dcfe4094552606a8f77678cbe501a19f29d461447a63"), looks := true }, kinds := [], alts := [], laidByText := true, laidKinds := [.pinned, .data, .sentinel, .sentinel, .data, .data, .data], laidTests := true, laidLooks := .later }
def TopTalksCardSaid : Prop := Claim7.holds Tryz.pinned (.plain (OpenSpec.ofChange topTalksSpec)) topTalksCard

/-- THE TIED CARD OF 'gatehousetop.TopPings'. -/
def topPingsCard : Claim7 := { stood := { row := topPingsRow, standIns := [], harness := (true, "663ca5b6adc3035d37e2dcfe4094552606a8f77678cbe501a19f29d461447a63"), looks := true }, kinds := [], alts := [], laidByText := true, laidKinds := [.pinned, .data, .sentinel, .sentinel, .data, .data, .data], laidTests := true, laidLooks := .later }
def TopPingsCardSaid : Prop := Claim7.holds Tryz.pinned (.plain (OpenSpec.ofChange topPingsSpec)) topPingsCard

/-- THE TIED CARD OF 'gatehousetop.TopFaults'. -/
def topFaultsCard : Claim7 := { stood := { row := topFaultsRow, standIns := [], harness := (true, "663ca5b6adc3035d37e2dcfe4094552606a8f77678cbe501a19f29d461447a63"), looks := true }, kinds := [], alts := [], laidByText := true, laidKinds := [.pinned, .data, .sentinel, .sentinel, .data, .data, .data], laidTests := true, laidLooks := .later }
def TopFaultsCardSaid : Prop := Claim7.holds Tryz.pinned (.plain (OpenSpec.ofChange topFaultsSpec)) topFaultsCard

/-- THE TIED CARD OF 'gatehousetop.TopHair'. -/
def topHairCard : Claim7 := { stood := { row := topHairRow, standIns := [], harness := (true, "663ca5b6adc3035d37e2dcfe4094552606a8f77678cbe501a19f29d461447a63"), looks := true }, kinds := [], alts := [], laidByText := true, laidKinds := [.pinned, .data, .sentinel, .sentinel, .data, .data, .data], laidTests := true, laidLooks := .later }
def TopHairCardSaid : Prop := Claim7.holds Tryz.pinned (.plain (OpenSpec.ofChange topHairSpec)) topHairCard

/-- THE SECOND FORM's CARD OF 'gatehouselaw28.ScriptKnown'. -/
def scriptKnownUptoCard : Claim7 := { stood := { row := scriptKnownUptoRow, standIns := [], harness := (true, "663ca5b6adc3035d37e2dcfe4094552606a8f77678cbe501a19f29d461447a63"), looks := true }, kinds := [], alts := [], laidByText := true, laidKinds := [.pinned, .data, .sentinel, .sentinel, .data, .data, .data], laidTests := true, laidLooks := .later }
def ScriptKnownUptoCardSaid : Prop := Claim7.holds Tryz.pinned (.plain (OpenSpec.upto scriptKnownSpec)) scriptKnownUptoCard

/-- THE SECOND FORM's CARD OF 'gatehouselaw28.ScriptForms'. -/
def scriptFormsUptoCard : Claim7 := { stood := { row := scriptFormsUptoRow, standIns := [], harness := (true, "663ca5b6adc3035d37e2dcfe4094552606a8f77678cbe501a19f29d461447a63"), looks := true }, kinds := [], alts := [], laidByText := true, laidKinds := [.pinned, .data, .sentinel, .sentinel, .data, .data, .data], laidTests := true, laidLooks := .later }
def ScriptFormsUptoCardSaid : Prop := Claim7.holds Tryz.pinned (.plain (OpenSpec.upto scriptFormsSpec)) scriptFormsUptoCard

/-- THE SECOND FORM's CARD OF 'gatehouselaw27.GateKnown'. -/
def gateKnownUptoCard : Claim7 := { stood := { row := gateKnownUptoRow, standIns := [], harness := (true, "663ca5b6adc3035d37e2dcfe4094552606a8f77678cbe501a19f29d461447a63"), looks := true }, kinds := [], alts := [], laidByText := true, laidKinds := [.pinned, .data, .sentinel, .sentinel, .data, .data, .data], laidTests := true, laidLooks := .later }
def GateKnownUptoCardSaid : Prop := Claim7.holds Tryz.pinned (.plain (OpenSpec.upto gateKnownSpec)) gateKnownUptoCard

/-- THE SECOND FORM's CARD OF 'gatehouselaw27.GateOpens'. -/
def gateOpensUptoCard : Claim7 := { stood := { row := gateOpensUptoRow, standIns := [], harness := (true, "663ca5b6adc3035d37e2dcfe4094552606a8f77678cbe501a19f29d461447a63"), looks := true }, kinds := [], alts := [], laidByText := true, laidKinds := [.pinned, .data, .sentinel, .sentinel, .data, .data, .data], laidTests := true, laidLooks := .later }
def GateOpensUptoCardSaid : Prop := Claim7.holds Tryz.pinned (.plain (OpenSpec.upto gateOpensSpec)) gateOpensUptoCard

/-- THE SECOND FORM's CARD OF 'gatehouselaw27.GateTtl'. -/
def gateTtlUptoCard : Claim7 := { stood := { row := gateTtlUptoRow, standIns := [], harness := (true, "663ca5b6adc3035d37e2dcfe4094552606a8f77678cbe501a19f29d461447a63"), looks := true }, kinds := [], alts := [], laidByText := true, laidKinds := [.pinned, .data, .sentinel, .sentinel, .data, .data, .data], laidTests := true, laidLooks := .later }
def GateTtlUptoCardSaid : Prop := Claim7.holds Tryz.pinned (.plain (OpenSpec.upto gateTtlSpec)) gateTtlUptoCard

/-- THE SECOND FORM's CARD OF 'gatehouselaw27.GateArps'. -/
def gateArpsUptoCard : Claim7 := { stood := { row := gateArpsUptoRow, standIns := [], harness := (true, "663ca5b6adc3035d37e2dcfe4094552606a8f77678cbe501a19f29d461447a63"), looks := true }, kinds := [], alts := [], laidByText := true, laidKinds := [.pinned, .data, .sentinel, .sentinel, .data, .data, .data], laidTests := true, laidLooks := .later }
def GateArpsUptoCardSaid : Prop := Claim7.holds Tryz.pinned (.plain (OpenSpec.upto gateArpsSpec)) gateArpsUptoCard

/-- THE SECOND FORM's CARD OF 'gatehouselaw27.GateStrangers'. -/
def gateStrangersUptoCard : Claim7 := { stood := { row := gateStrangersUptoRow, standIns := [], harness := (true, "663ca5b6adc3035d37e2dcfe4094552606a8f77678cbe501a19f29d461447a63"), looks := true }, kinds := [], alts := [], laidByText := true, laidKinds := [.pinned, .data, .sentinel, .sentinel, .data, .data, .data], laidTests := true, laidLooks := .later }
def GateStrangersUptoCardSaid : Prop := Claim7.holds Tryz.pinned (.plain (OpenSpec.upto gateStrangersSpec)) gateStrangersUptoCard

/-- THE SECOND FORM's CARD OF 'gatehouselaw27.GateShut'. -/
def gateShutUptoCard : Claim7 := { stood := { row := gateShutUptoRow, standIns := [], harness := (true, "663ca5b6adc3035d37e2dcfe4094552606a8f77678cbe501a19f29d461447a63"), looks := true }, kinds := [], alts := [], laidByText := true, laidKinds := [.pinned, .data, .sentinel, .sentinel, .data, .data, .data], laidTests := true, laidLooks := .later }
def GateShutUptoCardSaid : Prop := Claim7.holds Tryz.pinned (.plain (OpenSpec.upto gateShutSpec)) gateShutUptoCard

/-- THE SECOND FORM's CARD OF 'gatehousetop.TopTalks'. -/
def topTalksUptoCard : Claim7 := { stood := { row := topTalksUptoRow, standIns := [], harness := (true, "663ca5b6adc3035d37e2dcfe4094552606a8f77678cbe501a19f29d461447a63"), looks := true }, kinds := [], alts := [], laidByText := true, laidKinds := [.pinned, .data, .sentinel, .sentinel, .data, .data, .data], laidTests := true, laidLooks := .later }
def TopTalksUptoCardSaid : Prop := Claim7.holds Tryz.pinned (.plain (OpenSpec.upto topTalksSpec)) topTalksUptoCard

/-- THE SECOND FORM's CARD OF 'gatehousetop.TopPings'. -/
def topPingsUptoCard : Claim7 := { stood := { row := topPingsUptoRow, standIns := [], harness := (true, "663ca5b6adc3035d37e2dcfe4094552606a8f77678cbe501a19f29d461447a63"), looks := true }, kinds := [], alts := [], laidByText := true, laidKinds := [.pinned, .data, .sentinel, .sentinel, .data, .data, .data], laidTests := true, laidLooks := .later }
def TopPingsUptoCardSaid : Prop := Claim7.holds Tryz.pinned (.plain (OpenSpec.upto topPingsSpec)) topPingsUptoCard

/-- THE SECOND FORM's CARD OF 'gatehousetop.TopFaults'. -/
def topFaultsUptoCard : Claim7 := { stood := { row := topFaultsUptoRow, standIns := [], harness := (true, "663ca5b6adc3035d37e2dcfe4094552606a8f77678cbe501a19f29d461447a63"), looks := true }, kinds := [], alts := [], laidByText := true, laidKinds := [.pinned, .data, .sentinel, .sentinel, .data, .data, .data], laidTests := true, laidLooks := .later }
def TopFaultsUptoCardSaid : Prop := Claim7.holds Tryz.pinned (.plain (OpenSpec.upto topFaultsSpec)) topFaultsUptoCard

/-- THE SECOND FORM's CARD OF 'gatehousetop.TopHair'. -/
def topHairUptoCard : Claim7 := { stood := { row := topHairUptoRow, standIns := [], harness := (true, "663ca5b6adc3035d37e2dcfe4094552606a8f77678cbe501a19f29d461447a63"), looks := true }, kinds := [], alts := [], laidByText := true, laidKinds := [.pinned, .data, .sentinel, .sentinel, .data, .data, .data], laidTests := true, laidLooks := .later }
def TopHairUptoCardSaid : Prop := Claim7.holds Tryz.pinned (.plain (OpenSpec.upto topHairSpec)) topHairUptoCard
end Rows
end Go.Proofs.YtcebbmappnbegaaGreatDoor
