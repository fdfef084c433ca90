/- The run of NearKnown. -/
import Derived.Test.YthmnfjaogoennaaRows
import Derived.Test.YthmnfjaogoennaaAm29
set_option linter.unusedSimpArgs false
set_option linter.unusedVariables false
set_option linter.unusedSectionVars false
set_option linter.unnecessarySimpa false
namespace Go.Proofs.Ythmnfjaogoennaa.nearKnown
open Go.Am
theorem ran : isTrue (run Try.prog 100000 100 13 []) = true := by kernel_rfl
end Go.Proofs.Ythmnfjaogoennaa.nearKnown
