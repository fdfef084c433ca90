/- Runs of XmlDeep. -/
import Derived.Test.YtbkhielalbbopaaDoorRows
import Derived.Test.YtbkhielalbbopaaDoorM6
import Derived.Test.YtbkhielalbbopaaDoorBxT
set_option linter.unusedSimpArgs false
set_option linter.unusedVariables false
set_option linter.unusedSectionVars false
set_option linter.unnecessarySimpa false
namespace Go.Proofs.YtbkhielalbbopaaDoor.xmlDeep
open Go.Am
theorem ran24 : runTL Tryd.prog Bodies.tab 100000 100 6 [.i .i64 (.ofNat 24)] [] = true := by kernel_rfl
theorem ran25 : runTL Tryd.prog Bodies.tab 100000 100 6 [.i .i64 (.ofNat 25)] [] = true := by kernel_rfl
theorem ran26 : runTL Tryd.prog Bodies.tab 100000 100 6 [.i .i64 (.ofNat 26)] [] = true := by kernel_rfl
end Go.Proofs.YtbkhielalbbopaaDoor.xmlDeep
