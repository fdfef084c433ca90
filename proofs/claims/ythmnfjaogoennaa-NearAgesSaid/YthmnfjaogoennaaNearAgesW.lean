/- The run of NearAges. -/
import Derived.Test.YthmnfjaogoennaaRows
import Derived.Test.YthmnfjaogoennaaNearAgesP
set_option linter.unusedSimpArgs false
set_option linter.unusedVariables false
set_option linter.unusedSectionVars false
set_option linter.unnecessarySimpa false
namespace Go.Proofs.Ythmnfjaogoennaa.nearAges
open Go.Am
theorem ran : runY Try.prog 100000 100 12 [nameV .i64 0, nameV .i64 1, nameV .i64 2, nameV .i64 3] [] 4 T14.orc = T14.tr 4 := by kernel_rfl
theorem fits : T14.ok 4 = true := by kernel_rfl
end Go.Proofs.Ythmnfjaogoennaa.nearAges
