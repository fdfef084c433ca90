/- TopTalks: pieces of its run. -/
import Derived.Test.YtcebbmappnbegaaGreatDoorTopTalksS
import Derived.Test.YtcebbmappnbegaaGreatDoorYtceLx
set_option linter.unusedSimpArgs false
set_option linter.unusedVariables false
set_option linter.unusedSectionVars false
set_option linter.unnecessarySimpa false
set_option maxRecDepth 100000
namespace Go.Proofs.YtcebbmappnbegaaGreatDoor.topTalks
open Go.Am Go.Proofs.YtcebbmappnbegaaGreatDoor.Facts
theorem utp6 : runP Tryz.prog Bodies.tabS 98 [.s K25, .b 1, .s K22] ut5 ut6 3 Pt.done.orc = Pt.done.tr 3 := runP_x lx (by kernel_rfl)
theorem sk0pe3 : runAE XZ Bodies.tabS 99 Tryz.f11.results.toList [.s Ck011, .s Ck012] sk05 [(-9223372036854775808, 9223372036854775807), (1, 39999), (53, 53)] [(1, 68)] = true := by kernel_rfl
theorem sk1pe4 : runAE XZ Bodies.tabS 99 Tryz.f11.results.toList [.s Ck111, .s Ck112] sk15 [(-9223372036854775808, 9223372036854775807), (1, 39999), (67, 67)] [(1, 68)] = true := by kernel_rfl
theorem sk2pe5 : runAE XZ Bodies.tabS 99 Tryz.f11.results.toList [.s Ck211, .s Ck212] sk25 [(-9223372036854775808, 9223372036854775807), (1, 39999), (0, 65535)] [(1, 68), (2, 53), (2, 67)] = true := by kernel_rfl
end Go.Proofs.YtcebbmappnbegaaGreatDoor.topTalks
