/-
  DERIVED. GIVEN WITH THE SEED: THE CARDS: each row of YtbkhielalbbopaaGreatDoorRows.lean that lists a variable, with what it lists TIED to the program's text (the seventh form; the later family's looks); each row that meets fmt, with fmt's text TOLD by the authors' own Lean function (tested against real Go, not proved from fmt's source: count such statements apart). THE CARD IS WHAT COUNTS. Prove the row's statement (the work); the ties are given (YtbkhielalbbopaaGreatDoorTie.lean); close each card by the builder's one call (the guide's Derived/Test/ToyasCard.lean, 'card_holds'). Laid BY PROGRAM, IN A SANDBOX (cutbox-door.mjs). By AI agents, Wed Nov 11 2026. No macro, syntax, notation, axiom, sorry.
-/
import Derived.Test.YtbkhielalbbopaaGreatDoorRows
import GoSem.ClaimSeven
namespace Go.Proofs.YtbkhielalbbopaaGreatDoor
namespace Rows

/-- THE TIED CARD OF 'gatehouselaw26.SoapReads'. -/
def soapReadsCard : Claim7 := { stood := { row := soapReadsRow, standIns := [], harness := (true, "ca332eb359dc1b10a69482e0be103e1c16d056a28564f46303def4fd668800a0"), looks := true }, kinds := [], alts := [], laidByText := true, laidKinds := [.data, .data, .data, .data, .sentinel, .sentinel, .pinned], laidTests := true, laidLooks := .later }
def SoapReadsCardSaid : Prop := Claim7.holds Tryz.pinned (.plain (OpenSpec.ofChange soapReadsSpec)) soapReadsCard

/-- THE TIED CARD OF 'gatehouselaw26.SoapKnown'. -/
def soapKnownCard : Claim7 := { stood := { row := soapKnownRow, standIns := [], harness := (true, "ca332eb359dc1b10a69482e0be103e1c16d056a28564f46303def4fd668800a0"), looks := true }, kinds := [], alts := [], laidByText := true, laidKinds := [.data, .data, .data, .data, .sentinel, .sentinel, .pinned], laidTests := true, laidLooks := .later }
def SoapKnownCardSaid : Prop := Claim7.holds Tryz.pinned (.plain (OpenSpec.ofChange soapKnownSpec)) soapKnownCard

/-- THE TIED CARD OF 'gatehouselaw26.SoapOwn'. -/
def soapOwnCard : Claim7 := { stood := { row := soapOwnRow, standIns := [], harness := (true, "ca332eb359dc1b10a69482e0be103e1c16d056a28564f46303def4fd668800a0"), looks := true }, kinds := [], alts := [], laidByText := true, laidKinds := [.data, .data, .data, .data, .sentinel, .sentinel, .pinned], laidTests := true, laidLooks := .later }
def SoapOwnCardSaid : Prop := Claim7.holds Tryz.pinned (.plain (OpenSpec.ofChange soapOwnSpec)) soapOwnCard

/-- THE TIED CARD OF 'gatehouselaw26.SoapWrites'. -/
def soapWritesCard : Claim7 := { stood := { row := soapWritesRow, standIns := [], harness := (true, "ca332eb359dc1b10a69482e0be103e1c16d056a28564f46303def4fd668800a0"), looks := true }, kinds := [], alts := [], laidByText := true, laidKinds := [.data, .data, .data, .data, .sentinel, .sentinel, .pinned], laidTests := true, laidLooks := .later }
def SoapWritesCardSaid : Prop := Claim7.holds Tryz.pinned (.plain (OpenSpec.ofChange soapWritesSpec)) soapWritesCard

/-- THE TIED CARD OF 'gatehouselaw26.SoapLists'. -/
def soapListsCard : Claim7 := { stood := { row := soapListsRow, standIns := [], harness := (true, "ca332eb359dc1b10a69482e0be103e1c16d056a28564f46303def4fd668800a0"), looks := true }, kinds := [], alts := [], laidByText := true, laidKinds := [.data, .data, .data, .data, .sentinel, .sentinel, .pinned], laidTests := true, laidLooks := .later }
def SoapListsCardSaid : Prop := Claim7.holds Tryz.pinned (.plain (OpenSpec.ofChange soapListsSpec)) soapListsCard

/-- THE SECOND FORM's CARD OF 'gatehouselaw26.SoapReads'. -/
def soapReadsUptoCard : Claim7 := { stood := { row := soapReadsUptoRow, standIns := [], harness := (true, "ca332eb359dc1b10a69482e0be103e1c16d056a28564f46303def4fd668800a0"), looks := true }, kinds := [], alts := [], laidByText := true, laidKinds := [.data, .data, .data, .data, .sentinel, .sentinel, .pinned], laidTests := true, laidLooks := .later }
def SoapReadsUptoCardSaid : Prop := Claim7.holds Tryz.pinned (.plain (OpenSpec.upto soapReadsSpec)) soapReadsUptoCard

/-- THE SECOND FORM's CARD OF 'gatehouselaw26.SoapKnown'. -/
def soapKnownUptoCard : Claim7 := { stood := { row := soapKnownUptoRow, standIns := [], harness := (true, "ca332eb359dc1b10a69482e0be103e1c16d056a28564f46303def4fd668800a0"), looks := true }, kinds := [], alts := [], laidByText := true, laidKinds := [.data, .data, .data, .data, .sentinel, .sentinel, .pinned], laidTests := true, laidLooks := .later }
def SoapKnownUptoCardSaid : Prop := Claim7.holds Tryz.pinned (.plain (OpenSpec.upto soapKnownSpec)) soapKnownUptoCard

/-- THE SECOND FORM's CARD OF 'gatehouselaw26.SoapOwn'. -/
def soapOwnUptoCard : Claim7 := { stood := { row := soapOwnUptoRow, standIns := [], harness := (true, "ca332eb359dc1b10a69482e0be103e1c16d056a28564f46303def4fd668800a0"), looks := true }, kinds := [], alts := [], laidByText := true, laidKinds := [.data, .data, .data, .data, .sentinel, .sentinel, .pinned], laidTests := true, laidLooks := .later }
def SoapOwnUptoCardSaid : Prop := Claim7.holds Tryz.pinned (.plain (OpenSpec.upto soapOwnSpec)) soapOwnUptoCard

/-- THE SECOND FORM's CARD OF 'gatehouselaw26.SoapWrites'. -/
def soapWritesUptoCard : Claim7 := { stood := { row := soapWritesUptoRow, standIns := [], harness := (true, "ca332eb359dc1b10a69482e0be103e1c16d056a28564f46303def4fd668800a0"), looks := true }, kinds := [], alts := [], laidByText := true, laidKinds := [.data, .data, .data, .data, .sentinel, .sentinel, .pinned], laidTests := true, laidLooks := .later }
def SoapWritesUptoCardSaid : Prop := Claim7.holds Tryz.pinned (.plain (OpenSpec.upto soapWritesSpec)) soapWritesUptoCard

/-- THE SECOND FORM's CARD OF 'gatehouselaw26.SoapLists'. -/
def soapListsUptoCard : Claim7 := { stood := { row := soapListsUptoRow, standIns := [], harness := (true, "ca332eb359dc1b10a69482e0be103e1c16d056a28564f46303def4fd668800a0"), looks := true }, kinds := [], alts := [], laidByText := true, laidKinds := [.data, .data, .data, .data, .sentinel, .sentinel, .pinned], laidTests := true, laidLooks := .later }
def SoapListsUptoCardSaid : Prop := Claim7.holds Tryz.pinned (.plain (OpenSpec.upto soapListsSpec)) soapListsUptoCard
end Rows
end Go.Proofs.YtbkhielalbbopaaGreatDoor
