/- TopPings: pieces of its run. -/
import Derived.Test.YtcebbmappnbegaaGreatDoorTopPingsS
import Derived.Test.YtcebbmappnbegaaGreatDoorYtceLx
set_option linter.unusedSimpArgs false
set_option linter.unusedVariables false
set_option linter.unusedSectionVars false
set_option linter.unnecessarySimpa false
set_option maxRecDepth 100000
namespace Go.Proofs.YtcebbmappnbegaaGreatDoor.topPings
open Go.Am Go.Proofs.YtcebbmappnbegaaGreatDoor.Facts
theorem utp1 : runP Tryz.prog Bodies.tabS 98 [.s K1, .s K3, .s K5, .s K7] ut0 ut1 2 Pt.done.orc = Pt.done.tr 2 := runP_x lx (by kernel_rfl)
theorem utp7 : runP Tryz.prog Bodies.tabS 98 [.s K26] ut6 ut7 2 Pt.done.orc = Pt.done.tr 2 := runP_x lx (by kernel_rfl)
theorem sk0p1 : runP Tryz.prog Bodies.tabS 99 [.s Ck01] sk00 sk01 2 Pt.done.orc = Pt.done.tr 2 := runP_x lx (by kernel_rfl)
theorem sk1p2 : runP Tryz.prog Bodies.tabS 99 [.s Ck13] sk11 sk12 2 Pt.done.orc = Pt.done.tr 2 := runP_x lx (by kernel_rfl)
theorem sk2p3 : runAP XZ Bodies.tabS 99 [.s Ck25] sk22 sk23 [(-9223372036854775808, 9223372036854775807), (0, 65535)] [] = true := by kernel_rfl
end Go.Proofs.YtcebbmappnbegaaGreatDoor.topPings
