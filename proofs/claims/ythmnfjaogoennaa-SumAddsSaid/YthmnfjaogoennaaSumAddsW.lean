/- The run of SumAdds. -/
import Derived.Test.YthmnfjaogoennaaRows
import Derived.Test.YthmnfjaogoennaaSumAddsP
set_option linter.unusedSimpArgs false
set_option linter.unusedVariables false
set_option linter.unusedSectionVars false
set_option linter.unnecessarySimpa false
namespace Go.Proofs.Ythmnfjaogoennaa.sumAdds
open Go.Am
theorem ran : runY Try.prog 100000 100 4 [nameV .i64 0, nameV .i64 1, nameV .i64 2] [] 3 T0.orc = T0.tr 3 := by kernel_rfl
theorem fits : T0.ok 3 = true := by kernel_rfl
end Go.Proofs.Ythmnfjaogoennaa.sumAdds
