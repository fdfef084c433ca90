/- TopFaults: pieces of its run. -/
import Derived.Test.YtcebbmappnbegaaGreatDoorTopFaultsS
import Derived.Test.YtcebbmappnbegaaGreatDoorYtceLx
set_option linter.unusedSimpArgs false
set_option linter.unusedVariables false
set_option linter.unusedSectionVars false
set_option linter.unnecessarySimpa false
set_option maxRecDepth 100000
namespace Go.Proofs.YtcebbmappnbegaaGreatDoor.topFaults
open Go.Am Go.Proofs.YtcebbmappnbegaaGreatDoor.Facts
theorem utp6 : runP Tryz.prog Bodies.tabS 98 [.s K25, .b 1, .s K22] ut5 ut6 2 Pt.done.orc = Pt.done.tr 2 := runP_x lx (by kernel_rfl)
theorem sk0p2 : runP Tryz.prog Bodies.tabS 99 [.s Ck03] sk01 sk02 2 Pt.done.orc = Pt.done.tr 2 := runP_x lx (by kernel_rfl)
theorem sk1p3 : runAP XZ Bodies.tabS 99 [.s Ck15] sk12 sk13 [(-9223372036854775808, 9223372036854775807), (1, 65535)] [] = true := by kernel_rfl
theorem sk2p5 : runP Tryz.prog Bodies.tabS 99 [.s Ck29] sk24 sk25 2 Pt.done.orc = Pt.done.tr 2 := runP_x lx (by kernel_rfl)
end Go.Proofs.YtcebbmappnbegaaGreatDoor.topFaults
