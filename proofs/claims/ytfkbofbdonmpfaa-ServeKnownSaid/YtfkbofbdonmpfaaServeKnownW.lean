/- The run of ServeKnown. -/
import Derived.Test.YtfkbofbdonmpfaaRows
import Derived.Test.YtfkbofbdonmpfaaAm29
set_option linter.unusedSimpArgs false
set_option linter.unusedVariables false
set_option linter.unusedSectionVars false
set_option linter.unnecessarySimpa false
namespace Go.Proofs.Ytfkbofbdonmpfaa.serveKnown
open Go.Am
theorem ran : isTrue (run Try.prog 100000 100 21 []) = true := by kernel_rfl
end Go.Proofs.Ytfkbofbdonmpfaa.serveKnown
