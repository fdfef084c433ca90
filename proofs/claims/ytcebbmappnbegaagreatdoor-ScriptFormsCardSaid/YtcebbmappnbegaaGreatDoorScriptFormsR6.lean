/- ScriptForms: pieces of its run. -/
import Derived.Test.YtcebbmappnbegaaGreatDoorScriptFormsS
import Derived.Test.YtcebbmappnbegaaGreatDoorYtceLx
set_option linter.unusedSimpArgs false
set_option linter.unusedVariables false
set_option linter.unusedSectionVars false
set_option linter.unnecessarySimpa false
set_option maxRecDepth 100000
namespace Go.Proofs.YtcebbmappnbegaaGreatDoor.scriptForms
open Go.Am Go.Proofs.YtcebbmappnbegaaGreatDoor.Facts
theorem sk0pe : runAE XZ Bodies.tabO 99 Tryz.f4.results.toList [.s Ck015, .s Ck016, .s Ck014] sk06 [(-9223372036854775808, 9223372036854775807)] [] = true := by kernel_rfl
theorem sk2p4 : runP Tryz.prog Bodies.tabO 99 [.s Ck27] sk23 sk24 1 Pt.done.orc = Pt.done.tr 1 := runP_x lx (by kernel_rfl)
theorem sk4p2 : runP Tryz.prog Bodies.tabO 99 [.s Ck43] sk41 sk42 1 Pt.done.orc = Pt.done.tr 1 := runP_x lx (by kernel_rfl)
theorem sk5p6 : runP Tryz.prog Bodies.tabO 99 [.s Ck511] sk55 sk56 1 Pt.done.orc = Pt.done.tr 1 := runP_x lx (by kernel_rfl)
theorem sk7p3 : runP Tryz.prog Bodies.tabO 99 [.s Ck75] sk72 sk73 1 Pt.done.orc = Pt.done.tr 1 := runP_x lx (by kernel_rfl)
end Go.Proofs.YtcebbmappnbegaaGreatDoor.scriptForms
