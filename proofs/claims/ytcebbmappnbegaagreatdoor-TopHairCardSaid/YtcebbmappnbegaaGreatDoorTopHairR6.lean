/- TopHair: pieces of its run. -/
import Derived.Test.YtcebbmappnbegaaGreatDoorTopHairS
import Derived.Test.YtcebbmappnbegaaGreatDoorYtceLx
set_option linter.unusedSimpArgs false
set_option linter.unusedVariables false
set_option linter.unusedSectionVars false
set_option linter.unnecessarySimpa false
set_option maxRecDepth 100000
namespace Go.Proofs.YtcebbmappnbegaaGreatDoor.topHair
open Go.Am Go.Proofs.YtcebbmappnbegaaGreatDoor.Facts
theorem utp7 : runP Tryz.prog Bodies.tabS 98 [.s K26] ut6 ut7 2 Pt.done.orc = Pt.done.tr 2 := runP_x lx (by kernel_rfl)
theorem sk00pe0 : runAE XZ Bodies.tabS 99 Tryz.f14.results.toList [.s Ck0010] sk005 [(1024, 39999), (1, 39999)] [] = true := by kernel_rfl
theorem sk02p3 : runAP XZ Bodies.tabS 99 [.s Ck025] sk022 sk023 [(1024, 39999), (1, 65535)] [] = true := by kernel_rfl
theorem sk11p1 : runP Tryz.prog Bodies.tabS 99 [.s Ck111] sk110 sk111 2 Pt.done.orc = Pt.done.tr 2 := runP_x lx (by kernel_rfl)
theorem sk12pe0 : runAE XZ Bodies.tabS 99 Tryz.f14.results.toList [.s Ck1210] sk125 [(1024, 39999), (1, 39999)] [] = true := by kernel_rfl
theorem sk21p3 : runAP XZ Bodies.tabS 99 [.s Ck215] sk212 sk213 [(1024, 39999), (1, 65535)] [] = true := by kernel_rfl
theorem sop1 : runP Tryz.prog Bodies.tabS 99 [.s Co1] so0 so1 4 Pt.done.orc = Pt.done.tr 4 := runP_x lx (by kernel_rfl)
end Go.Proofs.YtcebbmappnbegaaGreatDoor.topHair
