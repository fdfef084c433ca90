/- ScriptForms: pieces of its run. -/
import Derived.Test.YtcebbmappnbegaaGreatDoorScriptFormsS
import Derived.Test.YtcebbmappnbegaaGreatDoorYtceLx
set_option linter.unusedSimpArgs false
set_option linter.unusedVariables false
set_option linter.unusedSectionVars false
set_option linter.unnecessarySimpa false
set_option maxRecDepth 100000
namespace Go.Proofs.YtcebbmappnbegaaGreatDoor.scriptForms
open Go.Am Go.Proofs.YtcebbmappnbegaaGreatDoor.Facts
theorem sk0p4 : runP Tryz.prog Bodies.tabO 99 [.s Ck07] sk03 sk04 1 Pt.done.orc = Pt.done.tr 1 := runP_x lx (by kernel_rfl)
theorem sk2p1 : runP Tryz.prog Bodies.tabO 99 [.s Ck21] sk20 sk21 1 Pt.done.orc = Pt.done.tr 1 := runP_x lx (by kernel_rfl)
theorem sk3p6 : runP Tryz.prog Bodies.tabO 99 [.s Ck311] sk35 sk36 1 Pt.done.orc = Pt.done.tr 1 := runP_x lx (by kernel_rfl)
theorem sk5p3 : runP Tryz.prog Bodies.tabO 99 [.s Ck55] sk52 sk53 1 Pt.done.orc = Pt.done.tr 1 := runP_x lx (by kernel_rfl)
theorem sk6pe : runAE XZ Bodies.tabO 99 Tryz.f4.results.toList [.s Ck615, .s Ck616, .s Ck614] sk66 [(-9223372036854775808, 9223372036854775807)] [] = true := by kernel_rfl
theorem sope : runE Tryz.prog Bodies.tabO 99 Tryz.f4.results.toList [.s Co9, .s Co10, .s Co8] so3 2 oTE.orc = oTE.tr 2 := runE_x lx (by kernel_rfl)
end Go.Proofs.YtcebbmappnbegaaGreatDoor.scriptForms
