/- TopHair: pieces of its run. -/
import Derived.Test.YtcebbmappnbegaaGreatDoorTopHairS
import Derived.Test.YtcebbmappnbegaaGreatDoorYtceLx
set_option linter.unusedSimpArgs false
set_option linter.unusedVariables false
set_option linter.unusedSectionVars false
set_option linter.unnecessarySimpa false
set_option maxRecDepth 100000
namespace Go.Proofs.YtcebbmappnbegaaGreatDoor.topHair
open Go.Am Go.Proofs.YtcebbmappnbegaaGreatDoor.Facts
theorem utp6 : runP Tryz.prog Bodies.tabS 98 [.s K25, .b 1, .s K22] ut5 ut6 2 Pt.done.orc = Pt.done.tr 2 := runP_x lx (by kernel_rfl)
theorem sk00p5 : runP Tryz.prog Bodies.tabS 99 [.s Ck009] sk004 sk005 2 Pt.done.orc = Pt.done.tr 2 := runP_x lx (by kernel_rfl)
theorem sk02p2 : runP Tryz.prog Bodies.tabS 99 [.s Ck023] sk021 sk022 2 Pt.done.orc = Pt.done.tr 2 := runP_x lx (by kernel_rfl)
theorem sk10pe1 : runAE XZ Bodies.tabS 99 Tryz.f14.results.toList [.s Ck1010] sk105 [(1024, 39999), (40000, 65535)] [] = true := by kernel_rfl
theorem sk12p5 : runP Tryz.prog Bodies.tabS 99 [.s Ck129] sk124 sk125 2 Pt.done.orc = Pt.done.tr 2 := runP_x lx (by kernel_rfl)
theorem sk21p2 : runP Tryz.prog Bodies.tabS 99 [.s Ck213] sk211 sk212 2 Pt.done.orc = Pt.done.tr 2 := runP_x lx (by kernel_rfl)
theorem sk22pe1 : runAE XZ Bodies.tabS 99 Tryz.f14.results.toList [.s Ck2210] sk225 [(1024, 39999), (40000, 65535)] [] = true := by kernel_rfl
end Go.Proofs.YtcebbmappnbegaaGreatDoor.topHair
