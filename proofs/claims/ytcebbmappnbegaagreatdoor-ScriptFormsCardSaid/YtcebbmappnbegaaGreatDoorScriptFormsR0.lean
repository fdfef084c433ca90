/- ScriptForms: pieces of its run. -/
import Derived.Test.YtcebbmappnbegaaGreatDoorScriptFormsS
import Derived.Test.YtcebbmappnbegaaGreatDoorYtceLx
set_option linter.unusedSimpArgs false
set_option linter.unusedVariables false
set_option linter.unusedSectionVars false
set_option linter.unnecessarySimpa false
set_option maxRecDepth 100000
namespace Go.Proofs.YtcebbmappnbegaaGreatDoor.scriptForms
open Go.Am Go.Proofs.YtcebbmappnbegaaGreatDoor.Facts
theorem sk0p1 : runP Tryz.prog Bodies.tabO 99 [.s Ck01] sk00 sk01 1 Pt.done.orc = Pt.done.tr 1 := runP_x lx (by kernel_rfl)
theorem sk1p5 : runP Tryz.prog Bodies.tabO 99 [.s Ck19] sk14 sk15 1 Pt.done.orc = Pt.done.tr 1 := runP_x lx (by kernel_rfl)
theorem sk3p3 : runP Tryz.prog Bodies.tabO 99 [.s Ck35] sk32 sk33 1 Pt.done.orc = Pt.done.tr 1 := runP_x lx (by kernel_rfl)
theorem sk4pe : runAE XZ Bodies.tabO 99 Tryz.f4.results.toList [.s Ck415, .s Ck416, .s Ck414] sk46 [(-9223372036854775808, 9223372036854775807)] [] = true := by kernel_rfl
theorem sk6p4 : runP Tryz.prog Bodies.tabO 99 [.s Ck67] sk63 sk64 1 Pt.done.orc = Pt.done.tr 1 := runP_x lx (by kernel_rfl)
theorem sop1 : runP Tryz.prog Bodies.tabO 99 [.s Co1] so0 so1 2 Pt.done.orc = Pt.done.tr 2 := runP_x lx (by kernel_rfl)
end Go.Proofs.YtcebbmappnbegaaGreatDoor.scriptForms
