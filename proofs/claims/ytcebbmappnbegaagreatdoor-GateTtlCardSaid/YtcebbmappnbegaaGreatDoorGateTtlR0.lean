/- GateTtl: pieces of its run. -/
import Derived.Test.YtcebbmappnbegaaGreatDoorGateTtlS
import Derived.Test.YtcebbmappnbegaaGreatDoorGateTtlPk0
import Derived.Test.YtcebbmappnbegaaGreatDoorGateTtlPk1
import Derived.Test.YtcebbmappnbegaaGreatDoorGateTtlPk2
import Derived.Test.YtcebbmappnbegaaGreatDoorYtceLx
set_option linter.unusedSimpArgs false
set_option linter.unusedVariables false
set_option linter.unusedSectionVars false
set_option linter.unnecessarySimpa false
set_option maxRecDepth 100000
namespace Go.Proofs.YtcebbmappnbegaaGreatDoor.gateTtl
open Go.Am Go.Proofs.YtcebbmappnbegaaGreatDoor.Facts
theorem utp1 : runP Tryz.prog Bodies.tabO 98 [.s K1, .s K3, .s K5, .s K7] ut0 ut1 2 Pt.done.orc = Pt.done.tr 2 := runP_x lx (by kernel_rfl)
theorem sk0p6 : runP Tryz.prog Bodies.tabO 99 [.s Ck011] sk05 sk06 2 Pt.done.orc = Pt.done.tr 2 := runP_x lx (by kernel_rfl)
theorem sop3 : runP Tryz.prog Bodies.tabO 99 [.s Co6] so2 so3 3 Pt.done.orc = Pt.done.tr 3 := runP_x lx (by kernel_rfl)
theorem k0fits : k0TE.ok 2 = true := by kernel_rfl
theorem k1fits : k1TE.ok 2 = true := by kernel_rfl
theorem k2fits : k2TE.ok 2 = true := by kernel_rfl
theorem ofits : oTE.ok 3 = true := by kernel_rfl
end Go.Proofs.YtcebbmappnbegaaGreatDoor.gateTtl
