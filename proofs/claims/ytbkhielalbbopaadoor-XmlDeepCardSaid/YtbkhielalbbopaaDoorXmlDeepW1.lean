/- Runs of XmlDeep. -/
import Derived.Test.YtbkhielalbbopaaDoorRows
import Derived.Test.YtbkhielalbbopaaDoorM6
import Derived.Test.YtbkhielalbbopaaDoorBxT
set_option linter.unusedSimpArgs false
set_option linter.unusedVariables false
set_option linter.unusedSectionVars false
set_option linter.unnecessarySimpa false
namespace Go.Proofs.YtbkhielalbbopaaDoor.xmlDeep
open Go.Am
theorem ran9 : runTL Tryd.prog Bodies.tab 100000 100 6 [.i .i64 (.ofNat 9)] [] = true := by kernel_rfl
theorem ran10 : runTL Tryd.prog Bodies.tab 100000 100 6 [.i .i64 (.ofNat 10)] [] = true := by kernel_rfl
theorem ran11 : runTL Tryd.prog Bodies.tab 100000 100 6 [.i .i64 (.ofNat 11)] [] = true := by kernel_rfl
theorem ran12 : runTL Tryd.prog Bodies.tab 100000 100 6 [.i .i64 (.ofNat 12)] [] = true := by kernel_rfl
theorem ran13 : runTL Tryd.prog Bodies.tab 100000 100 6 [.i .i64 (.ofNat 13)] [] = true := by kernel_rfl
end Go.Proofs.YtbkhielalbbopaaDoor.xmlDeep
