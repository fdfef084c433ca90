/- TopHair: pieces of its run. -/
import Derived.Test.YtcebbmappnbegaaGreatDoorTopHairS
import Derived.Test.YtcebbmappnbegaaGreatDoorYtceLx
set_option linter.unusedSimpArgs false
set_option linter.unusedVariables false
set_option linter.unusedSectionVars false
set_option linter.unnecessarySimpa false
set_option maxRecDepth 100000
namespace Go.Proofs.YtcebbmappnbegaaGreatDoor.topHair
open Go.Am Go.Proofs.YtcebbmappnbegaaGreatDoor.Facts
theorem utp9 : runP Tryz.prog Bodies.tabS 98 [.s K32, .b 1, .s K29] ut8 ut9 2 Pt.done.orc = Pt.done.tr 2 := runP_x lx (by kernel_rfl)
theorem sk01p1 : runP Tryz.prog Bodies.tabS 99 [.s Ck011] sk010 sk011 2 Pt.done.orc = Pt.done.tr 2 := runP_x lx (by kernel_rfl)
theorem sk02pe0 : runAE XZ Bodies.tabS 99 Tryz.f14.results.toList [.s Ck0210] sk025 [(1024, 39999), (1, 39999)] [] = true := by kernel_rfl
theorem sk11p3 : runAP XZ Bodies.tabS 99 [.s Ck115] sk112 sk113 [(1024, 39999), (1, 65535)] [] = true := by kernel_rfl
theorem sk20p1 : runP Tryz.prog Bodies.tabS 99 [.s Ck201] sk200 sk201 2 Pt.done.orc = Pt.done.tr 2 := runP_x lx (by kernel_rfl)
theorem sk21pe0 : runAE XZ Bodies.tabS 99 Tryz.f14.results.toList [.s Ck2110] sk215 [(1024, 39999), (1, 39999)] [] = true := by kernel_rfl
theorem sope : runE Tryz.prog Bodies.tabS 99 Tryz.f14.results.toList [.s Co7, .s Co8, .s Co6] so2 4 oTE.orc = oTE.tr 4 := runE_x lx (by kernel_rfl)
end Go.Proofs.YtcebbmappnbegaaGreatDoor.topHair
