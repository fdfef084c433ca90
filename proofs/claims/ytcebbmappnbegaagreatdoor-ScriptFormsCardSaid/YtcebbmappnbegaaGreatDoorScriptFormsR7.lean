/- ScriptForms: pieces of its run. -/
import Derived.Test.YtcebbmappnbegaaGreatDoorScriptFormsS
import Derived.Test.YtcebbmappnbegaaGreatDoorYtceLx
set_option linter.unusedSimpArgs false
set_option linter.unusedVariables false
set_option linter.unusedSectionVars false
set_option linter.unnecessarySimpa false
set_option maxRecDepth 100000
namespace Go.Proofs.YtcebbmappnbegaaGreatDoor.scriptForms
open Go.Am Go.Proofs.YtcebbmappnbegaaGreatDoor.Facts
theorem sk1p1 : runP Tryz.prog Bodies.tabO 99 [.s Ck11] sk10 sk11 1 Pt.done.orc = Pt.done.tr 1 := runP_x lx (by kernel_rfl)
theorem sk2p5 : runP Tryz.prog Bodies.tabO 99 [.s Ck29] sk24 sk25 1 Pt.done.orc = Pt.done.tr 1 := runP_x lx (by kernel_rfl)
theorem sk4p3 : runP Tryz.prog Bodies.tabO 99 [.s Ck45] sk42 sk43 1 Pt.done.orc = Pt.done.tr 1 := runP_x lx (by kernel_rfl)
theorem sk5pe : runAE XZ Bodies.tabO 99 Tryz.f4.results.toList [.s Ck515, .s Ck516, .s Ck514] sk56 [(-9223372036854775808, 9223372036854775807)] [] = true := by kernel_rfl
theorem sk7p4 : runP Tryz.prog Bodies.tabO 99 [.s Ck77] sk73 sk74 1 Pt.done.orc = Pt.done.tr 1 := runP_x lx (by kernel_rfl)
end Go.Proofs.YtcebbmappnbegaaGreatDoor.scriptForms
