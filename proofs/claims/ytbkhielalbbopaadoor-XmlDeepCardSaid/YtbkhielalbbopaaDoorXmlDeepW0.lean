/- Runs of XmlDeep. -/
import Derived.Test.YtbkhielalbbopaaDoorRows
import Derived.Test.YtbkhielalbbopaaDoorM6
import Derived.Test.YtbkhielalbbopaaDoorBxT
set_option linter.unusedSimpArgs false
set_option linter.unusedVariables false
set_option linter.unusedSectionVars false
set_option linter.unnecessarySimpa false
namespace Go.Proofs.YtbkhielalbbopaaDoor.xmlDeep
open Go.Am
theorem ran1 : runTL Tryd.prog Bodies.tab 100000 100 6 [.i .i64 (.ofNat 1)] [] = true := by kernel_rfl
theorem ran2 : runTL Tryd.prog Bodies.tab 100000 100 6 [.i .i64 (.ofNat 2)] [] = true := by kernel_rfl
theorem ran3 : runTL Tryd.prog Bodies.tab 100000 100 6 [.i .i64 (.ofNat 3)] [] = true := by kernel_rfl
theorem ran4 : runTL Tryd.prog Bodies.tab 100000 100 6 [.i .i64 (.ofNat 4)] [] = true := by kernel_rfl
theorem ran5 : runTL Tryd.prog Bodies.tab 100000 100 6 [.i .i64 (.ofNat 5)] [] = true := by kernel_rfl
theorem ran6 : runTL Tryd.prog Bodies.tab 100000 100 6 [.i .i64 (.ofNat 6)] [] = true := by kernel_rfl
theorem ran7 : runTL Tryd.prog Bodies.tab 100000 100 6 [.i .i64 (.ofNat 7)] [] = true := by kernel_rfl
theorem ran8 : runTL Tryd.prog Bodies.tab 100000 100 6 [.i .i64 (.ofNat 8)] [] = true := by kernel_rfl
end Go.Proofs.YtbkhielalbbopaaDoor.xmlDeep
