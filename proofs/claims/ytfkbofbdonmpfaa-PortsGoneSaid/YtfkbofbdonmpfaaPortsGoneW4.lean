/- Runs of PortsGone. -/
import Derived.Test.YtfkbofbdonmpfaaRows
import Derived.Test.YtfkbofbdonmpfaaPortsGoneP
import Derived.Test.YtfkbofbdonmpfaaBgPT
set_option linter.unusedSimpArgs false
set_option linter.unusedVariables false
set_option linter.unusedSectionVars false
set_option linter.unnecessarySimpa false
namespace Go.Proofs.Ytfkbofbdonmpfaa.portsGone
open Go.Am
theorem n26ran : runT2 Try.prog Bodies.tab 100000 100 6 [.i .i64 26, nameV .i64 0, nameV .i64 1] 2 n26T9.orc = n26T9.tr 2 := by kernel_rfl
theorem n26fits : n26T9.ok 2 = true := by kernel_rfl
theorem n17ran : runT2 Try.prog Bodies.tab 100000 100 6 [.i .i64 17, nameV .i64 0, nameV .i64 1] 2 n17T9.orc = n17T9.tr 2 := by kernel_rfl
theorem n17fits : n17T9.ok 2 = true := by kernel_rfl
theorem n8ran : runT2 Try.prog Bodies.tab 100000 100 6 [.i .i64 8, nameV .i64 0, nameV .i64 1] 2 n8T9.orc = n8T9.tr 2 := by kernel_rfl
theorem n8fits : n8T9.ok 2 = true := by kernel_rfl
theorem loran : runT2 Try.prog Bodies.tab 100000 100 6 [nameV .i64 0, nameV .i64 1, nameV .i64 2] 3 loT0.orc = loT0.tr 3 := by kernel_rfl
theorem lofits : loT0.ok 3 = true := by kernel_rfl
end Go.Proofs.Ytfkbofbdonmpfaa.portsGone
