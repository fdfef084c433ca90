/- The run of PortsTaken. -/
import Derived.Test.YtfkbofbdonmpfaaRows
import Derived.Test.YtfkbofbdonmpfaaPortsTakenP
set_option linter.unusedSimpArgs false
set_option linter.unusedVariables false
set_option linter.unusedSectionVars false
set_option linter.unnecessarySimpa false
namespace Go.Proofs.Ytfkbofbdonmpfaa.portsTaken
open Go.Am
theorem ran : runY Try.prog 100000 100 5 [nameV .i64 0, nameV .i64 1, nameV .i64 2, nameV .i64 3, nameV .i64 4] [] 5 T17.orc = T17.tr 5 := by kernel_rfl
theorem fits : T17.ok 5 = true := by kernel_rfl
end Go.Proofs.Ytfkbofbdonmpfaa.portsTaken
