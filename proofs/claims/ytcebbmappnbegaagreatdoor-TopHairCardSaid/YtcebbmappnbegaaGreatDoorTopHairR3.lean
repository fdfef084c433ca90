/- TopHair: pieces of its run. -/
import Derived.Test.YtcebbmappnbegaaGreatDoorTopHairS
import Derived.Test.YtcebbmappnbegaaGreatDoorYtceLx
set_option linter.unusedSimpArgs false
set_option linter.unusedVariables false
set_option linter.unusedSectionVars false
set_option linter.unnecessarySimpa false
set_option maxRecDepth 100000
namespace Go.Proofs.YtcebbmappnbegaaGreatDoor.topHair
open Go.Am Go.Proofs.YtcebbmappnbegaaGreatDoor.Facts
theorem utp4 : runP Tryz.prog Bodies.tabS 98 [.s K19] ut3 ut4 2 Pt.done.orc = Pt.done.tr 2 := runP_x lx (by kernel_rfl)
theorem sk00p2 : runP Tryz.prog Bodies.tabS 99 [.s Ck003] sk001 sk002 2 Pt.done.orc = Pt.done.tr 2 := runP_x lx (by kernel_rfl)
theorem sk01pe1 : runAE XZ Bodies.tabS 99 Tryz.f14.results.toList [.s Ck0110] sk015 [(1024, 39999), (40000, 65535)] [] = true := by kernel_rfl
theorem sk10p5 : runP Tryz.prog Bodies.tabS 99 [.s Ck109] sk104 sk105 2 Pt.done.orc = Pt.done.tr 2 := runP_x lx (by kernel_rfl)
theorem sk12p2 : runP Tryz.prog Bodies.tabS 99 [.s Ck123] sk121 sk122 2 Pt.done.orc = Pt.done.tr 2 := runP_x lx (by kernel_rfl)
theorem sk20pe1 : runAE XZ Bodies.tabS 99 Tryz.f14.results.toList [.s Ck2010] sk205 [(1024, 39999), (40000, 65535)] [] = true := by kernel_rfl
theorem sk22p5 : runP Tryz.prog Bodies.tabS 99 [.s Ck229] sk224 sk225 2 Pt.done.orc = Pt.done.tr 2 := runP_x lx (by kernel_rfl)
end Go.Proofs.YtcebbmappnbegaaGreatDoor.topHair
