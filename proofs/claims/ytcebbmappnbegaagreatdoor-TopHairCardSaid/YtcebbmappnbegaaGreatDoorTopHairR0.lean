/- TopHair: pieces of its run. -/
import Derived.Test.YtcebbmappnbegaaGreatDoorTopHairS
import Derived.Test.YtcebbmappnbegaaGreatDoorYtceLx
set_option linter.unusedSimpArgs false
set_option linter.unusedVariables false
set_option linter.unusedSectionVars false
set_option linter.unnecessarySimpa false
set_option maxRecDepth 100000
namespace Go.Proofs.YtcebbmappnbegaaGreatDoor.topHair
open Go.Am Go.Proofs.YtcebbmappnbegaaGreatDoor.Facts
theorem utp1 : runP Tryz.prog Bodies.tabS 98 [.s K1, .s K3, .s K5, .s K7] ut0 ut1 2 Pt.done.orc = Pt.done.tr 2 := runP_x lx (by kernel_rfl)
theorem utp11 : runP Tryz.prog Bodies.tabS 98 [.s K38] ut10 ut11 2 Pt.done.orc = Pt.done.tr 2 := runP_x lx (by kernel_rfl)
theorem sk01p3 : runAP XZ Bodies.tabS 99 [.s Ck015] sk012 sk013 [(1024, 39999), (1, 65535)] [] = true := by kernel_rfl
theorem sk10p1 : runP Tryz.prog Bodies.tabS 99 [.s Ck101] sk100 sk101 2 Pt.done.orc = Pt.done.tr 2 := runP_x lx (by kernel_rfl)
theorem sk11pe0 : runAE XZ Bodies.tabS 99 Tryz.f14.results.toList [.s Ck1110] sk115 [(1024, 39999), (1, 39999)] [] = true := by kernel_rfl
theorem sk20p3 : runAP XZ Bodies.tabS 99 [.s Ck205] sk202 sk203 [(1024, 39999), (1, 65535)] [] = true := by kernel_rfl
theorem sk22p1 : runP Tryz.prog Bodies.tabS 99 [.s Ck221] sk220 sk221 2 Pt.done.orc = Pt.done.tr 2 := runP_x lx (by kernel_rfl)
end Go.Proofs.YtcebbmappnbegaaGreatDoor.topHair
