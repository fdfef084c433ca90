/- GateArps: pieces of its run. -/
import Derived.Test.YtcebbmappnbegaaGreatDoorGateArpsS
import Derived.Test.YtcebbmappnbegaaGreatDoorYtceLx
set_option linter.unusedSimpArgs false
set_option linter.unusedVariables false
set_option linter.unusedSectionVars false
set_option linter.unnecessarySimpa false
set_option maxRecDepth 100000
namespace Go.Proofs.YtcebbmappnbegaaGreatDoor.gateArps
open Go.Am Go.Proofs.YtcebbmappnbegaaGreatDoor.Facts
theorem sk0p4 : runP Tryz.prog Bodies.tabO 99 [.s Ck07] sk03 sk04 10 Pt.done.orc = Pt.done.tr 10 := runP_x lx (by kernel_rfl)
theorem sk1pe : runE Tryz.prog Bodies.tabO 99 Tryz.f8.results.toList [.s Ck121, .s Ck122] sk110 10 k1TE.orc = k1TE.tr 10 := runE_x lx (by kernel_rfl)
end Go.Proofs.YtcebbmappnbegaaGreatDoor.gateArps
