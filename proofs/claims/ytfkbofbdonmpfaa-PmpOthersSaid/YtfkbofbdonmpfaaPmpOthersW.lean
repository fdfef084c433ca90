/- The run of PmpOthers. -/
import Derived.Test.YtfkbofbdonmpfaaRows
import Derived.Test.YtfkbofbdonmpfaaPmpOthersP
set_option linter.unusedSimpArgs false
set_option linter.unusedVariables false
set_option linter.unusedSectionVars false
set_option linter.unnecessarySimpa false
namespace Go.Proofs.Ytfkbofbdonmpfaa.pmpOthers
open Go.Am
theorem ran : runY Try.prog 100000 100 16 [nameV .i64 0, nameV .i64 1, nameV .u32 2] [] 3 T9.orc = T9.tr 3 := by kernel_rfl
theorem fits : T9.ok 3 = true := by kernel_rfl
end Go.Proofs.Ytfkbofbdonmpfaa.pmpOthers
