/- TopFaults: pieces of its run. -/
import Derived.Test.YtcebbmappnbegaaGreatDoorTopFaultsS
import Derived.Test.YtcebbmappnbegaaGreatDoorYtceLx
set_option linter.unusedSimpArgs false
set_option linter.unusedVariables false
set_option linter.unusedSectionVars false
set_option linter.unnecessarySimpa false
set_option maxRecDepth 100000
namespace Go.Proofs.YtcebbmappnbegaaGreatDoor.topFaults
open Go.Am Go.Proofs.YtcebbmappnbegaaGreatDoor.Facts
theorem utp1 : runP Tryz.prog Bodies.tabS 98 [.s K1, .s K3, .s K5, .s K7] ut0 ut1 2 Pt.done.orc = Pt.done.tr 2 := runP_x lx (by kernel_rfl)
theorem utp9 : runP Tryz.prog Bodies.tabS 98 [.s K32, .b 1, .s K29] ut8 ut9 2 Pt.done.orc = Pt.done.tr 2 := runP_x lx (by kernel_rfl)
theorem sk0pe0 : runAE XZ Bodies.tabS 99 Tryz.f13.results.toList [.s Ck011, .s Ck012] sk05 [(-9223372036854775808, 9223372036854775807), (68, 68)] [] = true := by kernel_rfl
theorem sk1pe1 : runAE XZ Bodies.tabS 99 Tryz.f13.results.toList [.s Ck111, .s Ck112] sk15 [(-9223372036854775808, 9223372036854775807), (1, 39999)] [(1, 68)] = true := by kernel_rfl
theorem sk2pe2 : runAE XZ Bodies.tabS 99 Tryz.f13.results.toList [.s Ck211, .s Ck212] sk25 [(-9223372036854775808, 9223372036854775807), (40000, 65535)] [] = true := by kernel_rfl
end Go.Proofs.YtcebbmappnbegaaGreatDoor.topFaults
