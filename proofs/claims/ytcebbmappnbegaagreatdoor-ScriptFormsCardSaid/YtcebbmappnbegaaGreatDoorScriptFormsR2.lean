/- ScriptForms: pieces of its run. -/
import Derived.Test.YtcebbmappnbegaaGreatDoorScriptFormsS
import Derived.Test.YtcebbmappnbegaaGreatDoorYtceLx
set_option linter.unusedSimpArgs false
set_option linter.unusedVariables false
set_option linter.unusedSectionVars false
set_option linter.unnecessarySimpa false
set_option maxRecDepth 100000
namespace Go.Proofs.YtcebbmappnbegaaGreatDoor.scriptForms
open Go.Am Go.Proofs.YtcebbmappnbegaaGreatDoor.Facts
theorem sk0p3 : runP Tryz.prog Bodies.tabO 99 [.s Ck05] sk02 sk03 1 Pt.done.orc = Pt.done.tr 1 := runP_x lx (by kernel_rfl)
theorem sk1pe : runAE XZ Bodies.tabO 99 Tryz.f4.results.toList [.s Ck115, .s Ck116, .s Ck114] sk16 [(-9223372036854775808, 9223372036854775807)] [] = true := by kernel_rfl
theorem sk3p5 : runP Tryz.prog Bodies.tabO 99 [.s Ck39] sk34 sk35 1 Pt.done.orc = Pt.done.tr 1 := runP_x lx (by kernel_rfl)
theorem sk5p2 : runP Tryz.prog Bodies.tabO 99 [.s Ck53] sk51 sk52 1 Pt.done.orc = Pt.done.tr 1 := runP_x lx (by kernel_rfl)
theorem sk6p6 : runP Tryz.prog Bodies.tabO 99 [.s Ck611] sk65 sk66 1 Pt.done.orc = Pt.done.tr 1 := runP_x lx (by kernel_rfl)
theorem sop3 : runP Tryz.prog Bodies.tabO 99 [.s Co5] so2 so3 2 Pt.done.orc = Pt.done.tr 2 := runP_x lx (by kernel_rfl)
end Go.Proofs.YtcebbmappnbegaaGreatDoor.scriptForms
