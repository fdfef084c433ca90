/- The run of NearAsks. -/
import Derived.Test.YthmnfjaogoennaaRows
import Derived.Test.YthmnfjaogoennaaNearAsksP
set_option linter.unusedSimpArgs false
set_option linter.unusedVariables false
set_option linter.unusedSectionVars false
set_option linter.unnecessarySimpa false
namespace Go.Proofs.Ythmnfjaogoennaa.nearAsks
open Go.Am
theorem ran : runY Try.prog 100000 100 14 [nameV .i64 0] [] 1 T20.orc = T20.tr 1 := by kernel_rfl
theorem fits : T20.ok 1 = true := by kernel_rfl
end Go.Proofs.Ythmnfjaogoennaa.nearAsks
