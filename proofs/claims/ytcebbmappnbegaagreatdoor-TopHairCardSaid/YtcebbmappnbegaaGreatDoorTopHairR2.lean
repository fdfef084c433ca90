/- TopHair: pieces of its run. -/
import Derived.Test.YtcebbmappnbegaaGreatDoorTopHairS
import Derived.Test.YtcebbmappnbegaaGreatDoorYtceLx
set_option linter.unusedSimpArgs false
set_option linter.unusedVariables false
set_option linter.unusedSectionVars false
set_option linter.unnecessarySimpa false
set_option maxRecDepth 100000
namespace Go.Proofs.YtcebbmappnbegaaGreatDoor.topHair
open Go.Am Go.Proofs.YtcebbmappnbegaaGreatDoor.Facts
theorem utp3 : runP Tryz.prog Bodies.tabS 98 [.s K11, .s K15] ut2 ut3 2 Pt.done.orc = Pt.done.tr 2 := runP_x lx (by kernel_rfl)
theorem sk00p1 : runP Tryz.prog Bodies.tabS 99 [.s Ck001] sk000 sk001 2 Pt.done.orc = Pt.done.tr 2 := runP_x lx (by kernel_rfl)
theorem sk01pe0 : runAE XZ Bodies.tabS 99 Tryz.f14.results.toList [.s Ck0110] sk015 [(1024, 39999), (1, 39999)] [] = true := by kernel_rfl
theorem sk10p3 : runAP XZ Bodies.tabS 99 [.s Ck105] sk102 sk103 [(1024, 39999), (1, 65535)] [] = true := by kernel_rfl
theorem sk12p1 : runP Tryz.prog Bodies.tabS 99 [.s Ck121] sk120 sk121 2 Pt.done.orc = Pt.done.tr 2 := runP_x lx (by kernel_rfl)
theorem sk20pe0 : runAE XZ Bodies.tabS 99 Tryz.f14.results.toList [.s Ck2010] sk205 [(1024, 39999), (1, 39999)] [] = true := by kernel_rfl
theorem sk22p3 : runAP XZ Bodies.tabS 99 [.s Ck225] sk222 sk223 [(1024, 39999), (1, 65535)] [] = true := by kernel_rfl
end Go.Proofs.YtcebbmappnbegaaGreatDoor.topHair
