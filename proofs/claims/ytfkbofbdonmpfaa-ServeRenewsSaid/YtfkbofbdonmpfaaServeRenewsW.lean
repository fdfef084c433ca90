/- The run of ServeRenews. -/
import Derived.Test.YtfkbofbdonmpfaaRows
import Derived.Test.YtfkbofbdonmpfaaServeRenewsP
set_option linter.unusedSimpArgs false
set_option linter.unusedVariables false
set_option linter.unusedSectionVars false
set_option linter.unnecessarySimpa false
namespace Go.Proofs.Ytfkbofbdonmpfaa.serveRenews
open Go.Am
theorem ran : runY Try.prog 100000 100 20 [nameV .i64 0, nameV .i64 1] [] 2 T5.orc = T5.tr 2 := by kernel_rfl
theorem fits : T5.ok 2 = true := by kernel_rfl
end Go.Proofs.Ytfkbofbdonmpfaa.serveRenews
