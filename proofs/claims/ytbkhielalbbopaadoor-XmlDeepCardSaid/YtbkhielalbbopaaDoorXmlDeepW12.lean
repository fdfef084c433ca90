/- Runs of XmlDeep. -/
import Derived.Test.YtbkhielalbbopaaDoorRows
import Derived.Test.YtbkhielalbbopaaDoorM6
import Derived.Test.YtbkhielalbbopaaDoorBxT
set_option linter.unusedSimpArgs false
set_option linter.unusedVariables false
set_option linter.unusedSectionVars false
set_option linter.unnecessarySimpa false
namespace Go.Proofs.YtbkhielalbbopaaDoor.xmlDeep
open Go.Am
theorem ran39 : runTL Tryd.prog Bodies.tab 100000 100 6 [.i .i64 (.ofNat 39)] [] = true := by kernel_rfl
theorem ran40 : runTL Tryd.prog Bodies.tab 100000 100 6 [.i .i64 (.ofNat 40)] [] = true := by kernel_rfl
end Go.Proofs.YtbkhielalbbopaaDoor.xmlDeep
