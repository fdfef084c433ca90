/- GateArps: pieces of its run. -/
import Derived.Test.YtcebbmappnbegaaGreatDoorGateArpsS
import Derived.Test.YtcebbmappnbegaaGreatDoorYtceLx
set_option linter.unusedSimpArgs false
set_option linter.unusedVariables false
set_option linter.unusedSectionVars false
set_option linter.unnecessarySimpa false
set_option maxRecDepth 100000
namespace Go.Proofs.YtcebbmappnbegaaGreatDoor.gateArps
open Go.Am Go.Proofs.YtcebbmappnbegaaGreatDoor.Facts
theorem utp2 : runP Tryz.prog Bodies.tabO 98 [.s K9] ut1 ut2 10 Pt.done.orc = Pt.done.tr 10 := runP_x lx (by kernel_rfl)
theorem sk0p7 : runP Tryz.prog Bodies.tabO 99 [.s Ck013] sk06 sk07 10 Pt.done.orc = Pt.done.tr 10 := runP_x lx (by kernel_rfl)
theorem sop2 : runP Tryz.prog Bodies.tabO 99 [.s Co5] so1 so2 11 Pt.done.orc = Pt.done.tr 11 := runP_x lx (by kernel_rfl)
end Go.Proofs.YtcebbmappnbegaaGreatDoor.gateArps
