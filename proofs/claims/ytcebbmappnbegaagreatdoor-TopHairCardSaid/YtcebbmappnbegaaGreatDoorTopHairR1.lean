/- TopHair: pieces of its run. -/
import Derived.Test.YtcebbmappnbegaaGreatDoorTopHairS
import Derived.Test.YtcebbmappnbegaaGreatDoorYtceLx
set_option linter.unusedSimpArgs false
set_option linter.unusedVariables false
set_option linter.unusedSectionVars false
set_option linter.unnecessarySimpa false
set_option maxRecDepth 100000
namespace Go.Proofs.YtcebbmappnbegaaGreatDoor.topHair
open Go.Am Go.Proofs.YtcebbmappnbegaaGreatDoor.Facts
theorem utp2 : runP Tryz.prog Bodies.tabS 98 [.s K9] ut1 ut2 2 Pt.done.orc = Pt.done.tr 2 := runP_x lx (by kernel_rfl)
theorem utp12 : runP Tryz.prog Bodies.tabS 98 [.s K39, .b 1, .s K36, .l K18 99997, .b 0, .s K14] ut11 ut12 2 Pt.done.orc = Pt.done.tr 2 := runP_x lx (by kernel_rfl)
theorem sk01p5 : runP Tryz.prog Bodies.tabS 99 [.s Ck019] sk014 sk015 2 Pt.done.orc = Pt.done.tr 2 := runP_x lx (by kernel_rfl)
theorem sk10p2 : runP Tryz.prog Bodies.tabS 99 [.s Ck103] sk101 sk102 2 Pt.done.orc = Pt.done.tr 2 := runP_x lx (by kernel_rfl)
theorem sk11pe1 : runAE XZ Bodies.tabS 99 Tryz.f14.results.toList [.s Ck1110] sk115 [(1024, 39999), (40000, 65535)] [] = true := by kernel_rfl
theorem sk20p5 : runP Tryz.prog Bodies.tabS 99 [.s Ck209] sk204 sk205 2 Pt.done.orc = Pt.done.tr 2 := runP_x lx (by kernel_rfl)
theorem sk22p2 : runP Tryz.prog Bodies.tabS 99 [.s Ck223] sk221 sk222 2 Pt.done.orc = Pt.done.tr 2 := runP_x lx (by kernel_rfl)
end Go.Proofs.YtcebbmappnbegaaGreatDoor.topHair
