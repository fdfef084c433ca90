/- GateKnown: pieces of its run. -/
import Derived.Test.YtcebbmappnbegaaGreatDoorGateKnownA
import Derived.Test.YtcebbmappnbegaaGreatDoorYtceLx
set_option linter.unusedSimpArgs false
set_option linter.unusedVariables false
set_option linter.unusedSectionVars false
set_option linter.unnecessarySimpa false
set_option maxRecDepth 100000
namespace Go.Proofs.YtcebbmappnbegaaGreatDoor.gateKnown
open Go.Am Go.Proofs.YtcebbmappnbegaaGreatDoor.Facts
theorem utp4 : runP Tryz.prog Bodies.tabO 98 [.s K19] ut3 ut4 0 Pt.done.orc = Pt.done.tr 0 := runP_x lx (by kernel_rfl)
end Go.Proofs.YtcebbmappnbegaaGreatDoor.gateKnown
