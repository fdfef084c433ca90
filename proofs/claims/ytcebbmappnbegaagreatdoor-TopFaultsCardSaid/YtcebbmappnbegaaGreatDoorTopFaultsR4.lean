/- TopFaults: pieces of its run. -/
import Derived.Test.YtcebbmappnbegaaGreatDoorTopFaultsS
import Derived.Test.YtcebbmappnbegaaGreatDoorYtceLx
set_option linter.unusedSimpArgs false
set_option linter.unusedVariables false
set_option linter.unusedSectionVars false
set_option linter.unnecessarySimpa false
set_option maxRecDepth 100000
namespace Go.Proofs.YtcebbmappnbegaaGreatDoor.topFaults
open Go.Am Go.Proofs.YtcebbmappnbegaaGreatDoor.Facts
theorem utp5 : runP Tryz.prog Bodies.tabS 98 [.s K24] ut4 ut5 2 Pt.done.orc = Pt.done.tr 2 := runP_x lx (by kernel_rfl)
theorem sk0p1 : runP Tryz.prog Bodies.tabS 99 [.s Ck01] sk00 sk01 2 Pt.done.orc = Pt.done.tr 2 := runP_x lx (by kernel_rfl)
theorem sk1p2 : runP Tryz.prog Bodies.tabS 99 [.s Ck13] sk11 sk12 2 Pt.done.orc = Pt.done.tr 2 := runP_x lx (by kernel_rfl)
theorem sk2p3 : runAP XZ Bodies.tabS 99 [.s Ck25] sk22 sk23 [(-9223372036854775808, 9223372036854775807), (1, 65535)] [] = true := by kernel_rfl
end Go.Proofs.YtcebbmappnbegaaGreatDoor.topFaults
