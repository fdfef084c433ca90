/- GateShut: pieces of its run. -/
import Derived.Test.YtcebbmappnbegaaGreatDoorGateShutS
import Derived.Test.YtcebbmappnbegaaGreatDoorGateShutPa
import Derived.Test.YtcebbmappnbegaaGreatDoorGateShutPb
import Derived.Test.YtcebbmappnbegaaGreatDoorYtceLx
set_option linter.unusedSimpArgs false
set_option linter.unusedVariables false
set_option linter.unusedSectionVars false
set_option linter.unnecessarySimpa false
set_option maxRecDepth 100000
namespace Go.Proofs.YtcebbmappnbegaaGreatDoor.gateShut
open Go.Am Go.Proofs.YtcebbmappnbegaaGreatDoor.Facts
theorem sap4 : runP Tryz.prog Bodies.tabO 99 [.s Ca7] sa3 sa4 4 saT4.orc = saT4.tr 4 := runP_x lx (by kernel_rfl)
end Go.Proofs.YtcebbmappnbegaaGreatDoor.gateShut
