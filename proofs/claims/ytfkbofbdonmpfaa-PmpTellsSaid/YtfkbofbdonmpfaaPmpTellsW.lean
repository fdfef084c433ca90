/- The run of PmpTells. -/
import Derived.Test.YtfkbofbdonmpfaaRows
import Derived.Test.YtfkbofbdonmpfaaPmpTellsP
import Derived.Test.YtfkbofbdonmpfaaBmTT
set_option linter.unusedSimpArgs false
set_option linter.unusedVariables false
set_option linter.unusedSectionVars false
set_option linter.unnecessarySimpa false
namespace Go.Proofs.Ytfkbofbdonmpfaa.pmpTells
open Go.Am
theorem ran : runT2 Try.prog Bodies.tab 100000 100 19 [nameV .i64 0, nameV .i64 1] 2 T1202.orc = T1202.tr 2 := by kernel_rfl
theorem fits : T1202.ok 2 = true := by kernel_rfl
end Go.Proofs.Ytfkbofbdonmpfaa.pmpTells
