/- TopPings: pieces of its run. -/
import Derived.Test.YtcebbmappnbegaaGreatDoorTopPingsS
import Derived.Test.YtcebbmappnbegaaGreatDoorYtceLx
set_option linter.unusedSimpArgs false
set_option linter.unusedVariables false
set_option linter.unusedSectionVars false
set_option linter.unnecessarySimpa false
set_option maxRecDepth 100000
namespace Go.Proofs.YtcebbmappnbegaaGreatDoor.topPings
open Go.Am Go.Proofs.YtcebbmappnbegaaGreatDoor.Facts
theorem utp3 : runP Tryz.prog Bodies.tabS 98 [.s K11, .s K15] ut2 ut3 2 Pt.done.orc = Pt.done.tr 2 := runP_x lx (by kernel_rfl)
theorem utp9 : runP Tryz.prog Bodies.tabS 98 [.s K32, .b 1, .s K29] ut8 ut9 2 Pt.done.orc = Pt.done.tr 2 := runP_x lx (by kernel_rfl)
theorem sk0p3 : runAP XZ Bodies.tabS 99 [.s Ck05] sk02 sk03 [(-9223372036854775808, 9223372036854775807), (0, 65535)] [] = true := by kernel_rfl
theorem sk1p5 : runP Tryz.prog Bodies.tabS 99 [.s Ck19] sk14 sk15 2 Pt.done.orc = Pt.done.tr 2 := runP_x lx (by kernel_rfl)
theorem sk2pe : runAE XZ Bodies.tabS 99 Tryz.f12.results.toList [.s Ck211, .s Ck212] sk25 [(-9223372036854775808, 9223372036854775807), (0, 65535)] [] = true := by kernel_rfl
end Go.Proofs.YtcebbmappnbegaaGreatDoor.topPings
