/- Runs of PortsGone. -/
import Derived.Test.YtfkbofbdonmpfaaRows
import Derived.Test.YtfkbofbdonmpfaaPortsGoneP
import Derived.Test.YtfkbofbdonmpfaaBgPT
set_option linter.unusedSimpArgs false
set_option linter.unusedVariables false
set_option linter.unusedSectionVars false
set_option linter.unnecessarySimpa false
namespace Go.Proofs.Ytfkbofbdonmpfaa.portsGone
open Go.Am
theorem n23ran : runT2 Try.prog Bodies.tab 100000 100 6 [.i .i64 23, nameV .i64 0, nameV .i64 1] 2 n23T9.orc = n23T9.tr 2 := by kernel_rfl
theorem n23fits : n23T9.ok 2 = true := by kernel_rfl
theorem n20ran : runT2 Try.prog Bodies.tab 100000 100 6 [.i .i64 20, nameV .i64 0, nameV .i64 1] 2 n20T9.orc = n20T9.tr 2 := by kernel_rfl
theorem n20fits : n20T9.ok 2 = true := by kernel_rfl
theorem n11ran : runT2 Try.prog Bodies.tab 100000 100 6 [.i .i64 11, nameV .i64 0, nameV .i64 1] 2 n11T9.orc = n11T9.tr 2 := by kernel_rfl
theorem n11fits : n11T9.ok 2 = true := by kernel_rfl
end Go.Proofs.Ytfkbofbdonmpfaa.portsGone
