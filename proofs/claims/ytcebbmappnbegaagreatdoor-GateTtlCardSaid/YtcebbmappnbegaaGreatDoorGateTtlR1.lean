/- GateTtl: pieces of its run. -/
import Derived.Test.YtcebbmappnbegaaGreatDoorGateTtlS
import Derived.Test.YtcebbmappnbegaaGreatDoorGateTtlPk0
import Derived.Test.YtcebbmappnbegaaGreatDoorGateTtlPk1
import Derived.Test.YtcebbmappnbegaaGreatDoorGateTtlPk2
import Derived.Test.YtcebbmappnbegaaGreatDoorYtceLx
set_option linter.unusedSimpArgs false
set_option linter.unusedVariables false
set_option linter.unusedSectionVars false
set_option linter.unnecessarySimpa false
set_option maxRecDepth 100000
namespace Go.Proofs.YtcebbmappnbegaaGreatDoor.gateTtl
open Go.Am Go.Proofs.YtcebbmappnbegaaGreatDoor.Facts
theorem utp2 : runP Tryz.prog Bodies.tabO 98 [.s K9] ut1 ut2 2 Pt.done.orc = Pt.done.tr 2 := runP_x lx (by kernel_rfl)
theorem sk0pe : runE Tryz.prog Bodies.tabO 99 Tryz.f7.results.toList [.s Ck013, .s Ck014] sk06 2 k0TE.orc = k0TE.tr 2 := runE_x lx (by kernel_rfl)
theorem sope : runE Tryz.prog Bodies.tabO 99 Tryz.f7.results.toList [.s Co9, .s Co10, .s Co8] so3 3 oTE.orc = oTE.tr 3 := runE_x lx (by kernel_rfl)
end Go.Proofs.YtcebbmappnbegaaGreatDoor.gateTtl
