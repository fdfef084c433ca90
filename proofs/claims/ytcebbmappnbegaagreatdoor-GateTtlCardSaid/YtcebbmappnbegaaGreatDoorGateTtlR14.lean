/- GateTtl: pieces of its run. -/
import Derived.Test.YtcebbmappnbegaaGreatDoorGateTtlS
import Derived.Test.YtcebbmappnbegaaGreatDoorGateTtlPk0
import Derived.Test.YtcebbmappnbegaaGreatDoorGateTtlPk1
import Derived.Test.YtcebbmappnbegaaGreatDoorGateTtlPk2
import Derived.Test.YtcebbmappnbegaaGreatDoorYtceLx
set_option linter.unusedSimpArgs false
set_option linter.unusedVariables false
set_option linter.unusedSectionVars false
set_option linter.unnecessarySimpa false
set_option maxRecDepth 100000
namespace Go.Proofs.YtcebbmappnbegaaGreatDoor.gateTtl
open Go.Am Go.Proofs.YtcebbmappnbegaaGreatDoor.Facts
theorem sk0p3 : runP Tryz.prog Bodies.tabO 99 [.s Ck06] sk02 sk03 2 Pt.done.orc = Pt.done.tr 2 := runP_x lx (by kernel_rfl)
theorem sop1 : runP Tryz.prog Bodies.tabO 99 [.s Co1] so0 so1 3 Pt.done.orc = Pt.done.tr 3 := runP_x lx (by kernel_rfl)
end Go.Proofs.YtcebbmappnbegaaGreatDoor.gateTtl
