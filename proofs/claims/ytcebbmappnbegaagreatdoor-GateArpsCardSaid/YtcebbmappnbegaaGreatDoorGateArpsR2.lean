/- GateArps: pieces of its run. -/
import Derived.Test.YtcebbmappnbegaaGreatDoorGateArpsS
import Derived.Test.YtcebbmappnbegaaGreatDoorYtceLx
set_option linter.unusedSimpArgs false
set_option linter.unusedVariables false
set_option linter.unusedSectionVars false
set_option linter.unnecessarySimpa false
set_option maxRecDepth 100000
namespace Go.Proofs.YtcebbmappnbegaaGreatDoor.gateArps
open Go.Am Go.Proofs.YtcebbmappnbegaaGreatDoor.Facts
theorem utp3 : runP Tryz.prog Bodies.tabO 98 [.s K11, .s K15] ut2 ut3 10 Pt.done.orc = Pt.done.tr 10 := runP_x lx (by kernel_rfl)
theorem sk0p8 : runP Tryz.prog Bodies.tabO 99 [.s Ck015] sk07 sk08 10 Pt.done.orc = Pt.done.tr 10 := runP_x lx (by kernel_rfl)
theorem sope : runE Tryz.prog Bodies.tabO 99 Tryz.f8.results.toList [.s Co6, .s Co4] so2 11 oTE.orc = oTE.tr 11 := runE_x lx (by kernel_rfl)
end Go.Proofs.YtcebbmappnbegaaGreatDoor.gateArps
