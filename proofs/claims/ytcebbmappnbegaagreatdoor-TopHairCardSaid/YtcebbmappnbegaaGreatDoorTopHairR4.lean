/- TopHair: pieces of its run. -/
import Derived.Test.YtcebbmappnbegaaGreatDoorTopHairS
import Derived.Test.YtcebbmappnbegaaGreatDoorYtceLx
set_option linter.unusedSimpArgs false
set_option linter.unusedVariables false
set_option linter.unusedSectionVars false
set_option linter.unnecessarySimpa false
set_option maxRecDepth 100000
namespace Go.Proofs.YtcebbmappnbegaaGreatDoor.topHair
open Go.Am Go.Proofs.YtcebbmappnbegaaGreatDoor.Facts
theorem utp5 : runP Tryz.prog Bodies.tabS 98 [.s K24] ut4 ut5 2 Pt.done.orc = Pt.done.tr 2 := runP_x lx (by kernel_rfl)
theorem sk00p3 : runAP XZ Bodies.tabS 99 [.s Ck005] sk002 sk003 [(1024, 39999), (1, 65535)] [] = true := by kernel_rfl
theorem sk02p1 : runP Tryz.prog Bodies.tabS 99 [.s Ck021] sk020 sk021 2 Pt.done.orc = Pt.done.tr 2 := runP_x lx (by kernel_rfl)
theorem sk10pe0 : runAE XZ Bodies.tabS 99 Tryz.f14.results.toList [.s Ck1010] sk105 [(1024, 39999), (1, 39999)] [] = true := by kernel_rfl
theorem sk12p3 : runAP XZ Bodies.tabS 99 [.s Ck125] sk122 sk123 [(1024, 39999), (1, 65535)] [] = true := by kernel_rfl
theorem sk21p1 : runP Tryz.prog Bodies.tabS 99 [.s Ck211] sk210 sk211 2 Pt.done.orc = Pt.done.tr 2 := runP_x lx (by kernel_rfl)
theorem sk22pe0 : runAE XZ Bodies.tabS 99 Tryz.f14.results.toList [.s Ck2210] sk225 [(1024, 39999), (1, 39999)] [] = true := by kernel_rfl
end Go.Proofs.YtcebbmappnbegaaGreatDoor.topHair
