/- TopFaults: pieces of its run. -/
import Derived.Test.YtcebbmappnbegaaGreatDoorTopFaultsS
import Derived.Test.YtcebbmappnbegaaGreatDoorYtceLx
set_option linter.unusedSimpArgs false
set_option linter.unusedVariables false
set_option linter.unusedSectionVars false
set_option linter.unnecessarySimpa false
set_option maxRecDepth 100000
namespace Go.Proofs.YtcebbmappnbegaaGreatDoor.topFaults
open Go.Am Go.Proofs.YtcebbmappnbegaaGreatDoor.Facts
theorem utp7 : runP Tryz.prog Bodies.tabS 98 [.s K26] ut6 ut7 2 Pt.done.orc = Pt.done.tr 2 := runP_x lx (by kernel_rfl)
theorem sk0p3 : runAP XZ Bodies.tabS 99 [.s Ck05] sk02 sk03 [(-9223372036854775808, 9223372036854775807), (1, 65535)] [] = true := by kernel_rfl
theorem sk1p5 : runP Tryz.prog Bodies.tabS 99 [.s Ck19] sk14 sk15 2 Pt.done.orc = Pt.done.tr 2 := runP_x lx (by kernel_rfl)
theorem sk2pe0 : runAE XZ Bodies.tabS 99 Tryz.f13.results.toList [.s Ck211, .s Ck212] sk25 [(-9223372036854775808, 9223372036854775807), (68, 68)] [] = true := by kernel_rfl
end Go.Proofs.YtcebbmappnbegaaGreatDoor.topFaults
