/- ScriptForms: pieces of its run. -/
import Derived.Test.YtcebbmappnbegaaGreatDoorScriptFormsS
import Derived.Test.YtcebbmappnbegaaGreatDoorYtceLx
set_option linter.unusedSimpArgs false
set_option linter.unusedVariables false
set_option linter.unusedSectionVars false
set_option linter.unnecessarySimpa false
set_option maxRecDepth 100000
namespace Go.Proofs.YtcebbmappnbegaaGreatDoor.scriptForms
open Go.Am Go.Proofs.YtcebbmappnbegaaGreatDoor.Facts
theorem sk0p5 : runP Tryz.prog Bodies.tabO 99 [.s Ck09] sk04 sk05 1 Pt.done.orc = Pt.done.tr 1 := runP_x lx (by kernel_rfl)
theorem sk2p2 : runP Tryz.prog Bodies.tabO 99 [.s Ck23] sk21 sk22 1 Pt.done.orc = Pt.done.tr 1 := runP_x lx (by kernel_rfl)
theorem sk3pe : runAE XZ Bodies.tabO 99 Tryz.f4.results.toList [.s Ck315, .s Ck316, .s Ck314] sk36 [(-9223372036854775808, 9223372036854775807)] [] = true := by kernel_rfl
theorem sk5p4 : runP Tryz.prog Bodies.tabO 99 [.s Ck57] sk53 sk54 1 Pt.done.orc = Pt.done.tr 1 := runP_x lx (by kernel_rfl)
theorem sk7p1 : runP Tryz.prog Bodies.tabO 99 [.s Ck71] sk70 sk71 1 Pt.done.orc = Pt.done.tr 1 := runP_x lx (by kernel_rfl)
end Go.Proofs.YtcebbmappnbegaaGreatDoor.scriptForms
