/- ScriptKnown: pieces of its run. -/
import Derived.Test.YtcebbmappnbegaaGreatDoorScriptKnownA
import Derived.Test.YtcebbmappnbegaaGreatDoorYtceLx
set_option linter.unusedSimpArgs false
set_option linter.unusedVariables false
set_option linter.unusedSectionVars false
set_option linter.unnecessarySimpa false
set_option maxRecDepth 100000
namespace Go.Proofs.YtcebbmappnbegaaGreatDoor.scriptKnown
open Go.Am Go.Proofs.YtcebbmappnbegaaGreatDoor.Facts
theorem stp2 : runP Tryz.prog Bodies.tabO 99 [.s C9, .s C11] st1 st2 0 Pt.done.orc = Pt.done.tr 0 := runP_x lx (by kernel_rfl)
theorem stpe : runE Tryz.prog Bodies.tabO 99 Tryz.f3.results.toList [.s C15, .s C16] st3 0 Pt.done.orc = Pt.done.tr 0 := runE_x lx (by kernel_rfl)
end Go.Proofs.YtcebbmappnbegaaGreatDoor.scriptKnown
