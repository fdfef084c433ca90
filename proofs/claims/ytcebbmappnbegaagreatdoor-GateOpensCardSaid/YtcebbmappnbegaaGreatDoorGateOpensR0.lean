/- GateOpens: pieces of its run. -/
import Derived.Test.YtcebbmappnbegaaGreatDoorGateOpensS
import Derived.Test.YtcebbmappnbegaaGreatDoorGateOpensPc
import Derived.Test.YtcebbmappnbegaaGreatDoorGateOpensPd
import Derived.Test.YtcebbmappnbegaaGreatDoorGateOpensPe
import Derived.Test.YtcebbmappnbegaaGreatDoorGateOpensPf
import Derived.Test.YtcebbmappnbegaaGreatDoorYtceLx
set_option linter.unusedSimpArgs false
set_option linter.unusedVariables false
set_option linter.unusedSectionVars false
set_option linter.unnecessarySimpa false
set_option maxRecDepth 100000
namespace Go.Proofs.YtcebbmappnbegaaGreatDoor.gateOpens
open Go.Am Go.Proofs.YtcebbmappnbegaaGreatDoor.Facts
theorem scp1 : runP Tryz.prog Bodies.tabO 99 [.s Cc1] sc0 sc1 2 Pt.done.orc = Pt.done.tr 2 := runP_x lx (by kernel_rfl)
theorem sep3 : runP Tryz.prog Bodies.tabO 99 [.s Ce5] se2 se3 2 seT3.orc = seT3.tr 2 := runP_x lx (by kernel_rfl)
theorem cfits : cTE.ok 2 = true := by kernel_rfl
theorem dfits : dTE.ok 2 = true := by kernel_rfl
theorem efits : eTE.ok 2 = true := by kernel_rfl
theorem ffits : fTE.ok 2 = true := by kernel_rfl
theorem pfits : pTE.ok 2 = true := by kernel_rfl
theorem qfits : qTE.ok 2 = true := by kernel_rfl
end Go.Proofs.YtcebbmappnbegaaGreatDoor.gateOpens
