/- GateTtl: pieces of its run. -/
import Derived.Test.YtcebbmappnbegaaGreatDoorGateTtlS
import Derived.Test.YtcebbmappnbegaaGreatDoorGateTtlPk0
import Derived.Test.YtcebbmappnbegaaGreatDoorGateTtlPk1
import Derived.Test.YtcebbmappnbegaaGreatDoorGateTtlPk2
import Derived.Test.YtcebbmappnbegaaGreatDoorYtceLx
set_option linter.unusedSimpArgs false
set_option linter.unusedVariables false
set_option linter.unusedSectionVars false
set_option linter.unnecessarySimpa false
set_option maxRecDepth 100000
namespace Go.Proofs.YtcebbmappnbegaaGreatDoor.gateTtl
open Go.Am Go.Proofs.YtcebbmappnbegaaGreatDoor.Facts
theorem utp8 : runP Tryz.prog Bodies.tabO 98 [.s K31] ut7 ut8 2 Pt.done.orc = Pt.done.tr 2 := runP_x lx (by kernel_rfl)
theorem sk1pe : runE Tryz.prog Bodies.tabO 99 Tryz.f7.results.toList [.s Ck113, .s Ck114] sk16 2 k1TE.orc = k1TE.tr 2 := runE_x lx (by kernel_rfl)
end Go.Proofs.YtcebbmappnbegaaGreatDoor.gateTtl
