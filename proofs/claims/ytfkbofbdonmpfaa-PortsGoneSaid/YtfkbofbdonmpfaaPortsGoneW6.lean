/- Runs of PortsGone. -/
import Derived.Test.YtfkbofbdonmpfaaRows
import Derived.Test.YtfkbofbdonmpfaaPortsGoneP
import Derived.Test.YtfkbofbdonmpfaaBgPT
set_option linter.unusedSimpArgs false
set_option linter.unusedVariables false
set_option linter.unusedSectionVars false
set_option linter.unnecessarySimpa false
namespace Go.Proofs.Ytfkbofbdonmpfaa.portsGone
open Go.Am
theorem n24ran : runT2 Try.prog Bodies.tab 100000 100 6 [.i .i64 24, nameV .i64 0, nameV .i64 1] 2 n24T9.orc = n24T9.tr 2 := by kernel_rfl
theorem n24fits : n24T9.ok 2 = true := by kernel_rfl
theorem n19ran : runT2 Try.prog Bodies.tab 100000 100 6 [.i .i64 19, nameV .i64 0, nameV .i64 1] 2 n19T9.orc = n19T9.tr 2 := by kernel_rfl
theorem n19fits : n19T9.ok 2 = true := by kernel_rfl
theorem n10ran : runT2 Try.prog Bodies.tab 100000 100 6 [.i .i64 10, nameV .i64 0, nameV .i64 1] 2 n10T9.orc = n10T9.tr 2 := by kernel_rfl
theorem n10fits : n10T9.ok 2 = true := by kernel_rfl
end Go.Proofs.Ytfkbofbdonmpfaa.portsGone
