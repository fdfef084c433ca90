/- The run of PoolKeeps. -/
import Derived.Test.YtfkbofbdonmpfaaRows
import Derived.Test.YtfkbofbdonmpfaaPoolKeepsP
set_option linter.unusedSimpArgs false
set_option linter.unusedVariables false
set_option linter.unusedSectionVars false
set_option linter.unnecessarySimpa false
namespace Go.Proofs.Ytfkbofbdonmpfaa.poolKeeps
open Go.Am
theorem ran : runY Try.prog 100000 100 9 [nameV .i64 0, nameV .i64 1, nameV .i64 2, nameV .i64 3] [] 4 T67.orc = T67.tr 4 := by kernel_rfl
theorem fits : T67.ok 4 = true := by kernel_rfl
end Go.Proofs.Ytfkbofbdonmpfaa.poolKeeps
