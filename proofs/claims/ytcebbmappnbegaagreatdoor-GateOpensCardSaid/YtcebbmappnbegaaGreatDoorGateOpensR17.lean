/- GateOpens: pieces of its run. -/
import Derived.Test.YtcebbmappnbegaaGreatDoorGateOpensS
import Derived.Test.YtcebbmappnbegaaGreatDoorGateOpensPc
import Derived.Test.YtcebbmappnbegaaGreatDoorGateOpensPd
import Derived.Test.YtcebbmappnbegaaGreatDoorGateOpensPe
import Derived.Test.YtcebbmappnbegaaGreatDoorGateOpensPf
import Derived.Test.YtcebbmappnbegaaGreatDoorYtceLx
set_option linter.unusedSimpArgs false
set_option linter.unusedVariables false
set_option linter.unusedSectionVars false
set_option linter.unnecessarySimpa false
set_option maxRecDepth 100000
namespace Go.Proofs.YtcebbmappnbegaaGreatDoor.gateOpens
open Go.Am Go.Proofs.YtcebbmappnbegaaGreatDoor.Facts
theorem sdp6 : runP Tryz.prog Bodies.tabO 99 [.s Cd11] sd5 sd6 2 Pt.done.orc = Pt.done.tr 2 := runP_x lx (by kernel_rfl)
end Go.Proofs.YtcebbmappnbegaaGreatDoor.gateOpens
