/- ScriptKnown: pieces of its run. -/
import Derived.Test.YtcebbmappnbegaaGreatDoorScriptKnownA
import Derived.Test.YtcebbmappnbegaaGreatDoorYtceLx
set_option linter.unusedSimpArgs false
set_option linter.unusedVariables false
set_option linter.unusedSectionVars false
set_option linter.unnecessarySimpa false
set_option maxRecDepth 100000
namespace Go.Proofs.YtcebbmappnbegaaGreatDoor.scriptKnown
open Go.Am Go.Proofs.YtcebbmappnbegaaGreatDoor.Facts
theorem stp1 : runP Tryz.prog Bodies.tabO 99 [.s C1, .s C3, .s C5, .s C7] st0 st1 0 Pt.done.orc = Pt.done.tr 0 := runP_x lx (by kernel_rfl)
theorem stp3 : runP Tryz.prog Bodies.tabO 99 [.s C13] st2 st3 0 Pt.done.orc = Pt.done.tr 0 := runP_x lx (by kernel_rfl)
end Go.Proofs.YtcebbmappnbegaaGreatDoor.scriptKnown
