/- Runs of PortsGone. -/
import Derived.Test.YtfkbofbdonmpfaaRows
import Derived.Test.YtfkbofbdonmpfaaPortsGoneP
import Derived.Test.YtfkbofbdonmpfaaBgPT
set_option linter.unusedSimpArgs false
set_option linter.unusedVariables false
set_option linter.unusedSectionVars false
set_option linter.unnecessarySimpa false
namespace Go.Proofs.Ytfkbofbdonmpfaa.portsGone
open Go.Am
theorem n27ran : runT2 Try.prog Bodies.tab 100000 100 6 [.i .i64 27, nameV .i64 0, nameV .i64 1] 2 n27T9.orc = n27T9.tr 2 := by kernel_rfl
theorem n27fits : n27T9.ok 2 = true := by kernel_rfl
theorem n16ran : runT2 Try.prog Bodies.tab 100000 100 6 [.i .i64 16, nameV .i64 0, nameV .i64 1] 2 n16T9.orc = n16T9.tr 2 := by kernel_rfl
theorem n16fits : n16T9.ok 2 = true := by kernel_rfl
theorem n7ran : runT2 Try.prog Bodies.tab 100000 100 6 [.i .i64 7, nameV .i64 0, nameV .i64 1] 2 n7T9.orc = n7T9.tr 2 := by kernel_rfl
theorem n7fits : n7T9.ok 2 = true := by kernel_rfl
theorem n0ran : runT2 Try.prog Bodies.tab 100000 100 6 [.i .i64 0, nameV .i64 0, nameV .i64 1] 2 n0T0.orc = n0T0.tr 2 := by kernel_rfl
theorem n0fits : n0T0.ok 2 = true := by kernel_rfl
end Go.Proofs.Ytfkbofbdonmpfaa.portsGone
