/- GateArps: pieces of its run. -/
import Derived.Test.YtcebbmappnbegaaGreatDoorGateArpsS
import Derived.Test.YtcebbmappnbegaaGreatDoorYtceLx
set_option linter.unusedSimpArgs false
set_option linter.unusedVariables false
set_option linter.unusedSectionVars false
set_option linter.unnecessarySimpa false
set_option maxRecDepth 100000
namespace Go.Proofs.YtcebbmappnbegaaGreatDoor.gateArps
open Go.Am Go.Proofs.YtcebbmappnbegaaGreatDoor.Facts
theorem utp9 : runP Tryz.prog Bodies.tabO 98 [.s K32, .b 1, .s K29] ut8 ut9 10 Pt.done.orc = Pt.done.tr 10 := runP_x lx (by kernel_rfl)
theorem sk1p3 : runP Tryz.prog Bodies.tabO 99 [.s Ck16] sk12 sk13 10 Pt.done.orc = Pt.done.tr 10 := runP_x lx (by kernel_rfl)
end Go.Proofs.YtcebbmappnbegaaGreatDoor.gateArps
