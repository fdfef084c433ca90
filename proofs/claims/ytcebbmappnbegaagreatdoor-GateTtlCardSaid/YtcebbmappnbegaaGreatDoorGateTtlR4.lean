/- GateTtl: pieces of its run. -/
import Derived.Test.YtcebbmappnbegaaGreatDoorGateTtlS
import Derived.Test.YtcebbmappnbegaaGreatDoorGateTtlPk0
import Derived.Test.YtcebbmappnbegaaGreatDoorGateTtlPk1
import Derived.Test.YtcebbmappnbegaaGreatDoorGateTtlPk2
import Derived.Test.YtcebbmappnbegaaGreatDoorYtceLx
set_option linter.unusedSimpArgs false
set_option linter.unusedVariables false
set_option linter.unusedSectionVars false
set_option linter.unnecessarySimpa false
set_option maxRecDepth 100000
namespace Go.Proofs.YtcebbmappnbegaaGreatDoor.gateTtl
open Go.Am Go.Proofs.YtcebbmappnbegaaGreatDoor.Facts
theorem utp5 : runP Tryz.prog Bodies.tabO 98 [.s K24] ut4 ut5 2 Pt.done.orc = Pt.done.tr 2 := runP_x lx (by kernel_rfl)
theorem sk1p3 : runP Tryz.prog Bodies.tabO 99 [.s Ck16] sk12 sk13 2 Pt.done.orc = Pt.done.tr 2 := runP_x lx (by kernel_rfl)
end Go.Proofs.YtcebbmappnbegaaGreatDoor.gateTtl
