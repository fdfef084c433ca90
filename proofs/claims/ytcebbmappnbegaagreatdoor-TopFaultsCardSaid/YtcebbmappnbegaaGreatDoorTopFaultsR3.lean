/- TopFaults: pieces of its run. -/
import Derived.Test.YtcebbmappnbegaaGreatDoorTopFaultsS
import Derived.Test.YtcebbmappnbegaaGreatDoorYtceLx
set_option linter.unusedSimpArgs false
set_option linter.unusedVariables false
set_option linter.unusedSectionVars false
set_option linter.unnecessarySimpa false
set_option maxRecDepth 100000
namespace Go.Proofs.YtcebbmappnbegaaGreatDoor.topFaults
open Go.Am Go.Proofs.YtcebbmappnbegaaGreatDoor.Facts
theorem utp4 : runP Tryz.prog Bodies.tabS 98 [.s K19] ut3 ut4 2 Pt.done.orc = Pt.done.tr 2 := runP_x lx (by kernel_rfl)
theorem utp12 : runP Tryz.prog Bodies.tabS 98 [.s K39, .b 1, .s K36, .l K18 99997, .b 0, .s K14] ut11 ut12 2 Pt.done.orc = Pt.done.tr 2 := runP_x lx (by kernel_rfl)
theorem sk1p1 : runP Tryz.prog Bodies.tabS 99 [.s Ck11] sk10 sk11 2 Pt.done.orc = Pt.done.tr 2 := runP_x lx (by kernel_rfl)
theorem sk2p2 : runP Tryz.prog Bodies.tabS 99 [.s Ck23] sk21 sk22 2 Pt.done.orc = Pt.done.tr 2 := runP_x lx (by kernel_rfl)
theorem sope : runE Tryz.prog Bodies.tabS 99 Tryz.f13.results.toList [.s Co7, .s Co8, .s Co6] so2 3 oTE.orc = oTE.tr 3 := runE_x lx (by kernel_rfl)
end Go.Proofs.YtcebbmappnbegaaGreatDoor.topFaults
