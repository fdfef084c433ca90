/- Runs of PortsGone. -/
import Derived.Test.YtfkbofbdonmpfaaRows
import Derived.Test.YtfkbofbdonmpfaaPortsGoneP
import Derived.Test.YtfkbofbdonmpfaaBgPT
set_option linter.unusedSimpArgs false
set_option linter.unusedVariables false
set_option linter.unusedSectionVars false
set_option linter.unnecessarySimpa false
namespace Go.Proofs.Ytfkbofbdonmpfaa.portsGone
open Go.Am
theorem n22ran : runT2 Try.prog Bodies.tab 100000 100 6 [.i .i64 22, nameV .i64 0, nameV .i64 1] 2 n22T9.orc = n22T9.tr 2 := by kernel_rfl
theorem n22fits : n22T9.ok 2 = true := by kernel_rfl
theorem n21ran : runT2 Try.prog Bodies.tab 100000 100 6 [.i .i64 21, nameV .i64 0, nameV .i64 1] 2 n21T9.orc = n21T9.tr 2 := by kernel_rfl
theorem n21fits : n21T9.ok 2 = true := by kernel_rfl
theorem n12ran : runT2 Try.prog Bodies.tab 100000 100 6 [.i .i64 12, nameV .i64 0, nameV .i64 1] 2 n12T9.orc = n12T9.tr 2 := by kernel_rfl
theorem n12fits : n12T9.ok 2 = true := by kernel_rfl
end Go.Proofs.Ytfkbofbdonmpfaa.portsGone
