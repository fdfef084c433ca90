/- ScriptForms: what its pieces ask. -/
import Derived.Test.YtcebbmappnbegaaGreatDoorScriptFormsA
set_option linter.unusedSimpArgs false
set_option linter.unusedVariables false
set_option linter.unusedSectionVars false
set_option linter.unnecessarySimpa false
set_option maxRecDepth 100000
namespace Go.Proofs.YtcebbmappnbegaaGreatDoor.scriptForms
open Go.Am
def oTE : Pt := (.fork (.lt (.v 0) (.c 0)) .done (.yes (.le (.c 8) (.v 0)) .done))
theorem oall (a0 a1 : Int) (l0 : (-9223372036854775808 : Int) ≤ a0) (u0 : a0 ≤ (9223372036854775807 : Int)) (l1 : (-9223372036854775808 : Int) ≤ a1) (u1 : a1 ≤ (9223372036854775807 : Int)) (x0 : a0 < 0 ∨ 8 ≤ a0) : oTE.holds [a0, a1] := (Pt.h_fork (fun (_ : a0 < (0 : Int)) => Pt.h_done) (fun (_ : ¬ a0 < (0 : Int)) => (Pt.h_yes (show (8 : Int) ≤ a0 by omega) Pt.h_done)))
theorem ofits : oTE.ok 2 = true := by kernel_rfl
end Go.Proofs.YtcebbmappnbegaaGreatDoor.scriptForms
