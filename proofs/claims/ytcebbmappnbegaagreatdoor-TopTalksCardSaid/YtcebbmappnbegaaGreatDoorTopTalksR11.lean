/- TopTalks: pieces of its run. -/
import Derived.Test.YtcebbmappnbegaaGreatDoorTopTalksS
import Derived.Test.YtcebbmappnbegaaGreatDoorYtceLx
set_option linter.unusedSimpArgs false
set_option linter.unusedVariables false
set_option linter.unusedSectionVars false
set_option linter.unnecessarySimpa false
set_option maxRecDepth 100000
namespace Go.Proofs.YtcebbmappnbegaaGreatDoor.topTalks
open Go.Am Go.Proofs.YtcebbmappnbegaaGreatDoor.Facts
theorem utp12 : runP Tryz.prog Bodies.tabS 98 [.s K39, .b 1, .s K36, .l K18 99997, .b 0, .s K14] ut11 ut12 3 Pt.done.orc = Pt.done.tr 3 := runP_x lx (by kernel_rfl)
theorem sk1p1 : runP Tryz.prog Bodies.tabS 99 [.s Ck11] sk10 sk11 3 Pt.done.orc = Pt.done.tr 3 := runP_x lx (by kernel_rfl)
theorem sk2p2 : runP Tryz.prog Bodies.tabS 99 [.s Ck23] sk21 sk22 3 Pt.done.orc = Pt.done.tr 3 := runP_x lx (by kernel_rfl)
theorem sope : runE Tryz.prog Bodies.tabS 99 Tryz.f11.results.toList [.s Co7, .s Co8, .s Co6] so2 4 oTE.orc = oTE.tr 4 := runE_x lx (by kernel_rfl)
end Go.Proofs.YtcebbmappnbegaaGreatDoor.topTalks
