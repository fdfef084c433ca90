/-
  DERIVED. GIVEN WITH THE SEED: THE CARDS: each row of YtbkhielalbbopaaDoorRows.lean that lists a variable, with what it lists TIED to the program's text (the seventh form; the later family's looks); each row that meets fmt, with fmt's text TOLD by the authors' own Lean function (tested against real Go, not proved from fmt's source: count such statements apart). THE CARD IS WHAT COUNTS. Prove the row's statement (the work); the ties are given (YtbkhielalbbopaaDoorTie.lean); close each card by the builder's one call (the guide's Derived/Test/ToyasCard.lean, 'card_holds'). Laid BY PROGRAM, IN A SANDBOX (cutbox-door.mjs). By AI agents, Wed Nov 11 2026. No macro, syntax, notation, axiom, sorry.
-/
import Derived.Test.YtbkhielalbbopaaDoorRows
import GoSem.ClaimSeven
namespace Go.Proofs.YtbkhielalbbopaaDoor
namespace Rows

/-- THE TIED CARD OF 'gatehouselaw25.XmlKnown'. -/
def xmlKnownCard : Claim7 := { stood := { row := xmlKnownRow, standIns := [], harness := (true, "327adbd85e3f3614c423e6d8def3aa6671582508278f47ae717d1714a0c01c39"), looks := true }, kinds := [], alts := [], laidByText := true, laidKinds := [.data, .data, .data, .data, .sentinel, .sentinel, .pinned], laidTests := true, laidLooks := .later }
def XmlKnownCardSaid : Prop := Claim7.holds Tryd.pinned (.plain (OpenSpec.ofChange xmlKnownSpec)) xmlKnownCard

/-- THE TIED CARD OF 'gatehouselaw25.XmlSigns'. -/
def xmlSignsCard : Claim7 := { stood := { row := xmlSignsRow, standIns := [], harness := (true, "327adbd85e3f3614c423e6d8def3aa6671582508278f47ae717d1714a0c01c39"), looks := true }, kinds := [], alts := [], laidByText := true, laidKinds := [.data, .data, .data, .data, .sentinel, .sentinel, .pinned], laidTests := true, laidLooks := .later }
def XmlSignsCardSaid : Prop := Claim7.holds Tryd.pinned (.plain (OpenSpec.ofChange xmlSignsSpec)) xmlSignsCard

/-- THE TIED CARD OF 'gatehouselaw25.XmlTexts'. -/
def xmlTextsCard : Claim7 := { stood := { row := xmlTextsRow, standIns := [], harness := (true, "327adbd85e3f3614c423e6d8def3aa6671582508278f47ae717d1714a0c01c39"), looks := true }, kinds := [], alts := [], laidByText := true, laidKinds := [.data, .data, .data, .data, .sentinel, .sentinel, .pinned], laidTests := true, laidLooks := .later }
def XmlTextsCardSaid : Prop := Claim7.holds Tryd.pinned (.plain (OpenSpec.ofChange xmlTextsSpec)) xmlTextsCard

/-- THE TIED CARD OF 'gatehouselaw25.XmlDeep'. -/
def xmlDeepCard : Claim7 := { stood := { row := xmlDeepRow, standIns := [], harness := (true, "327adbd85e3f3614c423e6d8def3aa6671582508278f47ae717d1714a0c01c39"), looks := true }, kinds := [], alts := [], laidByText := true, laidKinds := [.data, .data, .data, .data, .sentinel, .sentinel, .pinned], laidTests := true, laidLooks := .later }
def XmlDeepCardSaid : Prop := Claim7.holds Tryd.pinned (.plain (OpenSpec.ofChange xmlDeepSpec)) xmlDeepCard

/-- THE TIED CARD OF 'gatehouselaw25.XmlPlain'. -/
def xmlPlainCard : Claim7 := { stood := { row := xmlPlainRow, standIns := [], harness := (true, "327adbd85e3f3614c423e6d8def3aa6671582508278f47ae717d1714a0c01c39"), looks := true }, kinds := [], alts := [], laidByText := true, laidKinds := [.data, .data, .data, .data, .sentinel, .sentinel, .pinned], laidTests := true, laidLooks := .later }
def XmlPlainCardSaid : Prop := Claim7.holds Tryd.pinned (.plain (OpenSpec.ofChange xmlPlainSpec)) xmlPlainCard

/-- THE TIED CARD OF 'gatehouselaw25.XmlCut'. -/
def xmlCutCard : Claim7 := { stood := { row := xmlCutRow, standIns := [], harness := (true, "327adbd85e3f3614c423e6d8def3aa6671582508278f47ae717d1714a0c01c39"), looks := true }, kinds := [], alts := [], laidByText := true, laidKinds := [.data, .data, .data, .data, .sentinel, .sentinel, .pinned], laidTests := true, laidLooks := .later }
def XmlCutCardSaid : Prop := Claim7.holds Tryd.pinned (.plain (OpenSpec.ofChange xmlCutSpec)) xmlCutCard

/-- THE SECOND FORM's CARD OF 'gatehouselaw25.XmlKnown'. -/
def xmlKnownUptoCard : Claim7 := { stood := { row := xmlKnownUptoRow, standIns := [], harness := (true, "327adbd85e3f3614c423e6d8def3aa6671582508278f47ae717d1714a0c01c39"), looks := true }, kinds := [], alts := [], laidByText := true, laidKinds := [.data, .data, .data, .data, .sentinel, .sentinel, .pinned], laidTests := true, laidLooks := .later }
def XmlKnownUptoCardSaid : Prop := Claim7.holds Tryd.pinned (.plain (OpenSpec.upto xmlKnownSpec)) xmlKnownUptoCard

/-- THE SECOND FORM's CARD OF 'gatehouselaw25.XmlSigns'. -/
def xmlSignsUptoCard : Claim7 := { stood := { row := xmlSignsUptoRow, standIns := [], harness := (true, "327adbd85e3f3614c423e6d8def3aa6671582508278f47ae717d1714a0c01c39"), looks := true }, kinds := [], alts := [], laidByText := true, laidKinds := [.data, .data, .data, .data, .sentinel, .sentinel, .pinned], laidTests := true, laidLooks := .later }
def XmlSignsUptoCardSaid : Prop := Claim7.holds Tryd.pinned (.plain (OpenSpec.upto xmlSignsSpec)) xmlSignsUptoCard

/-- THE SECOND FORM's CARD OF 'gatehouselaw25.XmlTexts'. -/
def xmlTextsUptoCard : Claim7 := { stood := { row := xmlTextsUptoRow, standIns := [], harness := (true, "327adbd85e3f3614c423e6d8def3aa6671582508278f47ae717d1714a0c01c39"), looks := true }, kinds := [], alts := [], laidByText := true, laidKinds := [.data, .data, .data, .data, .sentinel, .sentinel, .pinned], laidTests := true, laidLooks := .later }
def XmlTextsUptoCardSaid : Prop := Claim7.holds Tryd.pinned (.plain (OpenSpec.upto xmlTextsSpec)) xmlTextsUptoCard

/-- THE SECOND FORM's CARD OF 'gatehouselaw25.XmlDeep'. -/
def xmlDeepUptoCard : Claim7 := { stood := { row := xmlDeepUptoRow, standIns := [], harness := (true, "327adbd85e3f3614c423e6d8def3aa6671582508278f47ae717d1714a0c01c39"), looks := true }, kinds := [], alts := [], laidByText := true, laidKinds := [.data, .data, .data, .data, .sentinel, .sentinel, .pinned], laidTests := true, laidLooks := .later }
def XmlDeepUptoCardSaid : Prop := Claim7.holds Tryd.pinned (.plain (OpenSpec.upto xmlDeepSpec)) xmlDeepUptoCard

/-- THE SECOND FORM's CARD OF 'gatehouselaw25.XmlPlain'. -/
def xmlPlainUptoCard : Claim7 := { stood := { row := xmlPlainUptoRow, standIns := [], harness := (true, "327adbd85e3f3614c423e6d8def3aa6671582508278f47ae717d1714a0c01c39"), looks := true }, kinds := [], alts := [], laidByText := true, laidKinds := [.data, .data, .data, .data, .sentinel, .sentinel, .pinned], laidTests := true, laidLooks := .later }
def XmlPlainUptoCardSaid : Prop := Claim7.holds Tryd.pinned (.plain (OpenSpec.upto xmlPlainSpec)) xmlPlainUptoCard

/-- THE SECOND FORM's CARD OF 'gatehouselaw25.XmlCut'. -/
def xmlCutUptoCard : Claim7 := { stood := { row := xmlCutUptoRow, standIns := [], harness := (true, "327adbd85e3f3614c423e6d8def3aa6671582508278f47ae717d1714a0c01c39"), looks := true }, kinds := [], alts := [], laidByText := true, laidKinds := [.data, .data, .data, .data, .sentinel, .sentinel, .pinned], laidTests := true, laidLooks := .later }
def XmlCutUptoCardSaid : Prop := Claim7.holds Tryd.pinned (.plain (OpenSpec.upto xmlCutSpec)) xmlCutUptoCard
end Rows
end Go.Proofs.YtbkhielalbbopaaDoor
