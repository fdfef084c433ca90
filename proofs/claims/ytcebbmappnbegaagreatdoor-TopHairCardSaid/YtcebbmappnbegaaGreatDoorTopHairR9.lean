/- TopHair: pieces of its run. -/
import Derived.Test.YtcebbmappnbegaaGreatDoorTopHairS
import Derived.Test.YtcebbmappnbegaaGreatDoorYtceLx
set_option linter.unusedSimpArgs false
set_option linter.unusedVariables false
set_option linter.unusedSectionVars false
set_option linter.unnecessarySimpa false
set_option maxRecDepth 100000
namespace Go.Proofs.YtcebbmappnbegaaGreatDoor.topHair
open Go.Am Go.Proofs.YtcebbmappnbegaaGreatDoor.Facts
theorem utp10 : runP Tryz.prog Bodies.tabS 98 [.s K33] ut9 ut10 2 Pt.done.orc = Pt.done.tr 2 := runP_x lx (by kernel_rfl)
theorem sk01p2 : runP Tryz.prog Bodies.tabS 99 [.s Ck013] sk011 sk012 2 Pt.done.orc = Pt.done.tr 2 := runP_x lx (by kernel_rfl)
theorem sk02pe1 : runAE XZ Bodies.tabS 99 Tryz.f14.results.toList [.s Ck0210] sk025 [(1024, 39999), (40000, 65535)] [] = true := by kernel_rfl
theorem sk11p5 : runP Tryz.prog Bodies.tabS 99 [.s Ck119] sk114 sk115 2 Pt.done.orc = Pt.done.tr 2 := runP_x lx (by kernel_rfl)
theorem sk20p2 : runP Tryz.prog Bodies.tabS 99 [.s Ck203] sk201 sk202 2 Pt.done.orc = Pt.done.tr 2 := runP_x lx (by kernel_rfl)
theorem sk21pe1 : runAE XZ Bodies.tabS 99 Tryz.f14.results.toList [.s Ck2110] sk215 [(1024, 39999), (40000, 65535)] [] = true := by kernel_rfl
end Go.Proofs.YtcebbmappnbegaaGreatDoor.topHair
