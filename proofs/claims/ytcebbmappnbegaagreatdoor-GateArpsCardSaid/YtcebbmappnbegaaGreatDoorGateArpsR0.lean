/- GateArps: pieces of its run. -/
import Derived.Test.YtcebbmappnbegaaGreatDoorGateArpsS
import Derived.Test.YtcebbmappnbegaaGreatDoorYtceLx
set_option linter.unusedSimpArgs false
set_option linter.unusedVariables false
set_option linter.unusedSectionVars false
set_option linter.unnecessarySimpa false
set_option maxRecDepth 100000
namespace Go.Proofs.YtcebbmappnbegaaGreatDoor.gateArps
open Go.Am Go.Proofs.YtcebbmappnbegaaGreatDoor.Facts
theorem utp1 : runP Tryz.prog Bodies.tabO 98 [.s K1, .s K3, .s K5, .s K7] ut0 ut1 10 Pt.done.orc = Pt.done.tr 10 := runP_x lx (by kernel_rfl)
theorem sk0p6 : runP Tryz.prog Bodies.tabO 99 [.s Ck011] sk05 sk06 10 Pt.done.orc = Pt.done.tr 10 := runP_x lx (by kernel_rfl)
theorem sop1 : runP Tryz.prog Bodies.tabO 99 [.s Co1] so0 so1 11 Pt.done.orc = Pt.done.tr 11 := runP_x lx (by kernel_rfl)
end Go.Proofs.YtcebbmappnbegaaGreatDoor.gateArps
