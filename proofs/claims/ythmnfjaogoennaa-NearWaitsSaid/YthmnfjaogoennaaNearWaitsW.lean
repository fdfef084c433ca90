/- The run of NearWaits. -/
import Derived.Test.YthmnfjaogoennaaRows
import Derived.Test.YthmnfjaogoennaaNearWaitsP
set_option linter.unusedSimpArgs false
set_option linter.unusedVariables false
set_option linter.unusedSectionVars false
set_option linter.unnecessarySimpa false
namespace Go.Proofs.Ythmnfjaogoennaa.nearWaits
open Go.Am
theorem ran : runY Try.prog 100000 100 10 [nameV .i64 0, nameV .u8 1] [] 2 T16.orc = T16.tr 2 := by kernel_rfl
theorem fits : T16.ok 2 = true := by kernel_rfl
end Go.Proofs.Ythmnfjaogoennaa.nearWaits
