/- TopFaults: pieces of its run. -/
import Derived.Test.YtcebbmappnbegaaGreatDoorTopFaultsS
import Derived.Test.YtcebbmappnbegaaGreatDoorYtceLx
set_option linter.unusedSimpArgs false
set_option linter.unusedVariables false
set_option linter.unusedSectionVars false
set_option linter.unnecessarySimpa false
set_option maxRecDepth 100000
namespace Go.Proofs.YtcebbmappnbegaaGreatDoor.topFaults
open Go.Am Go.Proofs.YtcebbmappnbegaaGreatDoor.Facts
theorem utp3 : runP Tryz.prog Bodies.tabS 98 [.s K11, .s K15] ut2 ut3 2 Pt.done.orc = Pt.done.tr 2 := runP_x lx (by kernel_rfl)
theorem utp11 : runP Tryz.prog Bodies.tabS 98 [.s K38] ut10 ut11 2 Pt.done.orc = Pt.done.tr 2 := runP_x lx (by kernel_rfl)
theorem sk0pe2 : runAE XZ Bodies.tabS 99 Tryz.f13.results.toList [.s Ck011, .s Ck012] sk05 [(-9223372036854775808, 9223372036854775807), (40000, 65535)] [] = true := by kernel_rfl
theorem sk2p1 : runP Tryz.prog Bodies.tabS 99 [.s Ck21] sk20 sk21 2 Pt.done.orc = Pt.done.tr 2 := runP_x lx (by kernel_rfl)
theorem sop2 : runP Tryz.prog Bodies.tabS 99 [.s Co3] so1 so2 3 Pt.done.orc = Pt.done.tr 3 := runP_x lx (by kernel_rfl)
end Go.Proofs.YtcebbmappnbegaaGreatDoor.topFaults
