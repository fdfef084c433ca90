/- TopTalks: pieces of its run. -/
import Derived.Test.YtcebbmappnbegaaGreatDoorTopTalksS
import Derived.Test.YtcebbmappnbegaaGreatDoorYtceLx
set_option linter.unusedSimpArgs false
set_option linter.unusedVariables false
set_option linter.unusedSectionVars false
set_option linter.unnecessarySimpa false
set_option maxRecDepth 100000
namespace Go.Proofs.YtcebbmappnbegaaGreatDoor.topTalks
open Go.Am Go.Proofs.YtcebbmappnbegaaGreatDoor.Facts
theorem utp11 : runP Tryz.prog Bodies.tabS 98 [.s K38] ut10 ut11 3 Pt.done.orc = Pt.done.tr 3 := runP_x lx (by kernel_rfl)
theorem sk0pe8 : runAE XZ Bodies.tabS 99 Tryz.f11.results.toList [.s Ck011, .s Ck012] sk05 [(-9223372036854775808, 9223372036854775807), (40000, 65535), (0, 65535)] [(2, 53), (2, 67)] = true := by kernel_rfl
theorem sk2p1 : runP Tryz.prog Bodies.tabS 99 [.s Ck21] sk20 sk21 3 Pt.done.orc = Pt.done.tr 3 := runP_x lx (by kernel_rfl)
theorem sop2 : runP Tryz.prog Bodies.tabS 99 [.s Co3] so1 so2 4 Pt.done.orc = Pt.done.tr 4 := runP_x lx (by kernel_rfl)
end Go.Proofs.YtcebbmappnbegaaGreatDoor.topTalks
