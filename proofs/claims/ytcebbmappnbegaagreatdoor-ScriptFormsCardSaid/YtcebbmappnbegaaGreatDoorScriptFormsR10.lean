/- ScriptForms: pieces of its run. -/
import Derived.Test.YtcebbmappnbegaaGreatDoorScriptFormsS
import Derived.Test.YtcebbmappnbegaaGreatDoorYtceLx
set_option linter.unusedSimpArgs false
set_option linter.unusedVariables false
set_option linter.unusedSectionVars false
set_option linter.unnecessarySimpa false
set_option maxRecDepth 100000
namespace Go.Proofs.YtcebbmappnbegaaGreatDoor.scriptForms
open Go.Am Go.Proofs.YtcebbmappnbegaaGreatDoor.Facts
theorem sk1p4 : runP Tryz.prog Bodies.tabO 99 [.s Ck17] sk13 sk14 1 Pt.done.orc = Pt.done.tr 1 := runP_x lx (by kernel_rfl)
theorem sk3p2 : runP Tryz.prog Bodies.tabO 99 [.s Ck33] sk31 sk32 1 Pt.done.orc = Pt.done.tr 1 := runP_x lx (by kernel_rfl)
theorem sk4p6 : runP Tryz.prog Bodies.tabO 99 [.s Ck411] sk45 sk46 1 Pt.done.orc = Pt.done.tr 1 := runP_x lx (by kernel_rfl)
theorem sk6p3 : runP Tryz.prog Bodies.tabO 99 [.s Ck65] sk62 sk63 1 Pt.done.orc = Pt.done.tr 1 := runP_x lx (by kernel_rfl)
theorem sk7pe : runAE XZ Bodies.tabO 99 Tryz.f4.results.toList [.s Ck715, .s Ck716, .s Ck714] sk76 [(-9223372036854775808, 9223372036854775807)] [] = true := by kernel_rfl
end Go.Proofs.YtcebbmappnbegaaGreatDoor.scriptForms
