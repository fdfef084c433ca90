/- The run of PmpAgain. -/
import Derived.Test.YtfkbofbdonmpfaaRows
import Derived.Test.YtfkbofbdonmpfaaPmpAgainP
set_option linter.unusedSimpArgs false
set_option linter.unusedVariables false
set_option linter.unusedSectionVars false
set_option linter.unnecessarySimpa false
namespace Go.Proofs.Ytfkbofbdonmpfaa.pmpAgain
open Go.Am
theorem ran : runY Try.prog 100000 100 17 [nameV .i64 0, nameV .i64 1, nameV .u32 2, nameV .i64 3] [] 4 T33.orc = T33.tr 4 := by kernel_rfl
theorem fits : T33.ok 4 = true := by kernel_rfl
end Go.Proofs.Ytfkbofbdonmpfaa.pmpAgain
