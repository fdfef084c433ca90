/- TopHair: pieces of its run. -/
import Derived.Test.YtcebbmappnbegaaGreatDoorTopHairS
import Derived.Test.YtcebbmappnbegaaGreatDoorYtceLx
set_option linter.unusedSimpArgs false
set_option linter.unusedVariables false
set_option linter.unusedSectionVars false
set_option linter.unnecessarySimpa false
set_option maxRecDepth 100000
namespace Go.Proofs.YtcebbmappnbegaaGreatDoor.topHair
open Go.Am Go.Proofs.YtcebbmappnbegaaGreatDoor.Facts
theorem utp8 : runP Tryz.prog Bodies.tabS 98 [.s K31] ut7 ut8 2 Pt.done.orc = Pt.done.tr 2 := runP_x lx (by kernel_rfl)
theorem sk00pe1 : runAE XZ Bodies.tabS 99 Tryz.f14.results.toList [.s Ck0010] sk005 [(1024, 39999), (40000, 65535)] [] = true := by kernel_rfl
theorem sk02p5 : runP Tryz.prog Bodies.tabS 99 [.s Ck029] sk024 sk025 2 Pt.done.orc = Pt.done.tr 2 := runP_x lx (by kernel_rfl)
theorem sk11p2 : runP Tryz.prog Bodies.tabS 99 [.s Ck113] sk111 sk112 2 Pt.done.orc = Pt.done.tr 2 := runP_x lx (by kernel_rfl)
theorem sk12pe1 : runAE XZ Bodies.tabS 99 Tryz.f14.results.toList [.s Ck1210] sk125 [(1024, 39999), (40000, 65535)] [] = true := by kernel_rfl
theorem sk21p5 : runP Tryz.prog Bodies.tabS 99 [.s Ck219] sk214 sk215 2 Pt.done.orc = Pt.done.tr 2 := runP_x lx (by kernel_rfl)
theorem sop2 : runP Tryz.prog Bodies.tabS 99 [.s Co3] so1 so2 4 Pt.done.orc = Pt.done.tr 4 := runP_x lx (by kernel_rfl)
end Go.Proofs.YtcebbmappnbegaaGreatDoor.topHair
