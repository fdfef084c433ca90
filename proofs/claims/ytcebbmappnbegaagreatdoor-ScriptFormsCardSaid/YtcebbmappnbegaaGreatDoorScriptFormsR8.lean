/- ScriptForms: pieces of its run. -/
import Derived.Test.YtcebbmappnbegaaGreatDoorScriptFormsS
import Derived.Test.YtcebbmappnbegaaGreatDoorYtceLx
set_option linter.unusedSimpArgs false
set_option linter.unusedVariables false
set_option linter.unusedSectionVars false
set_option linter.unnecessarySimpa false
set_option maxRecDepth 100000
namespace Go.Proofs.YtcebbmappnbegaaGreatDoor.scriptForms
open Go.Am Go.Proofs.YtcebbmappnbegaaGreatDoor.Facts
theorem sk1p2 : runP Tryz.prog Bodies.tabO 99 [.s Ck13] sk11 sk12 1 Pt.done.orc = Pt.done.tr 1 := runP_x lx (by kernel_rfl)
theorem sk2pe : runAE XZ Bodies.tabO 99 Tryz.f4.results.toList [.s Ck215, .s Ck216, .s Ck214] sk26 [(-9223372036854775808, 9223372036854775807)] [] = true := by kernel_rfl
theorem sk4p4 : runP Tryz.prog Bodies.tabO 99 [.s Ck47] sk43 sk44 1 Pt.done.orc = Pt.done.tr 1 := runP_x lx (by kernel_rfl)
theorem sk6p1 : runP Tryz.prog Bodies.tabO 99 [.s Ck61] sk60 sk61 1 Pt.done.orc = Pt.done.tr 1 := runP_x lx (by kernel_rfl)
theorem sk7p5 : runP Tryz.prog Bodies.tabO 99 [.s Ck79] sk74 sk75 1 Pt.done.orc = Pt.done.tr 1 := runP_x lx (by kernel_rfl)
end Go.Proofs.YtcebbmappnbegaaGreatDoor.scriptForms
