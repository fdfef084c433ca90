/- The run of ServeBars. -/
import Derived.Test.YtfkbofbdonmpfaaRows
import Derived.Test.YtfkbofbdonmpfaaServeBarsP
set_option linter.unusedSimpArgs false
set_option linter.unusedVariables false
set_option linter.unusedSectionVars false
set_option linter.unnecessarySimpa false
namespace Go.Proofs.Ytfkbofbdonmpfaa.serveBars
open Go.Am
theorem ran : runY Try.prog 100000 100 7 [nameV .i64 0] [] 1 T1.orc = T1.tr 1 := by kernel_rfl
theorem fits : T1.ok 1 = true := by kernel_rfl
end Go.Proofs.Ytfkbofbdonmpfaa.serveBars
