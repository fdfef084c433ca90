/- ScriptForms: pieces of its run. -/
import Derived.Test.YtcebbmappnbegaaGreatDoorScriptFormsS
import Derived.Test.YtcebbmappnbegaaGreatDoorYtceLx
set_option linter.unusedSimpArgs false
set_option linter.unusedVariables false
set_option linter.unusedSectionVars false
set_option linter.unnecessarySimpa false
set_option maxRecDepth 100000
namespace Go.Proofs.YtcebbmappnbegaaGreatDoor.scriptForms
open Go.Am Go.Proofs.YtcebbmappnbegaaGreatDoor.Facts
theorem sk1p3 : runP Tryz.prog Bodies.tabO 99 [.s Ck15] sk12 sk13 1 Pt.done.orc = Pt.done.tr 1 := runP_x lx (by kernel_rfl)
theorem sk3p1 : runP Tryz.prog Bodies.tabO 99 [.s Ck31] sk30 sk31 1 Pt.done.orc = Pt.done.tr 1 := runP_x lx (by kernel_rfl)
theorem sk4p5 : runP Tryz.prog Bodies.tabO 99 [.s Ck49] sk44 sk45 1 Pt.done.orc = Pt.done.tr 1 := runP_x lx (by kernel_rfl)
theorem sk6p2 : runP Tryz.prog Bodies.tabO 99 [.s Ck63] sk61 sk62 1 Pt.done.orc = Pt.done.tr 1 := runP_x lx (by kernel_rfl)
theorem sk7p6 : runP Tryz.prog Bodies.tabO 99 [.s Ck711] sk75 sk76 1 Pt.done.orc = Pt.done.tr 1 := runP_x lx (by kernel_rfl)
end Go.Proofs.YtcebbmappnbegaaGreatDoor.scriptForms
