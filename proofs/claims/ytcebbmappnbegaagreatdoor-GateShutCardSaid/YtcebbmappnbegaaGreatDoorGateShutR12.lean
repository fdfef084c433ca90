/- GateShut: pieces of its run. -/
import Derived.Test.YtcebbmappnbegaaGreatDoorGateShutS
import Derived.Test.YtcebbmappnbegaaGreatDoorGateShutPa
import Derived.Test.YtcebbmappnbegaaGreatDoorGateShutPb
import Derived.Test.YtcebbmappnbegaaGreatDoorYtceLx
set_option linter.unusedSimpArgs false
set_option linter.unusedVariables false
set_option linter.unusedSectionVars false
set_option linter.unnecessarySimpa false
set_option maxRecDepth 100000
namespace Go.Proofs.YtcebbmappnbegaaGreatDoor.gateShut
open Go.Am Go.Proofs.YtcebbmappnbegaaGreatDoor.Facts
theorem sap1 : runP Tryz.prog Bodies.tabO 99 [.s Ca1] sa0 sa1 4 Pt.done.orc = Pt.done.tr 4 := runP_x lx (by kernel_rfl)
end Go.Proofs.YtcebbmappnbegaaGreatDoor.gateShut
