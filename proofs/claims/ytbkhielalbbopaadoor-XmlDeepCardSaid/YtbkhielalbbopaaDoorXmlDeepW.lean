/- Runs of XmlDeep. -/
import Derived.Test.YtbkhielalbbopaaDoorRows
import Derived.Test.YtbkhielalbbopaaDoorM6
import Derived.Test.YtbkhielalbbopaaDoorBxT
set_option linter.unusedSimpArgs false
set_option linter.unusedVariables false
set_option linter.unusedSectionVars false
set_option linter.unnecessarySimpa false
namespace Go.Proofs.YtbkhielalbbopaaDoor.xmlDeep
open Go.Am
def TA : Pt := .yes (.lt (.v 0) (.c 1)) .done
def TB : Pt := .no (.lt (.v 0) (.c 1)) (.yes (.lt (.c 40) (.v 0)) .done)
theorem ranA : runT2 Tryd.prog Bodies.tab 100000 100 6 [nameV .i64 0] 1 TA.orc = TA.tr 1 := by kernel_rfl
theorem ranB : runT2 Tryd.prog Bodies.tab 100000 100 6 [nameV .i64 0] 1 TB.orc = TB.tr 1 := by kernel_rfl
theorem fitsA : TA.ok 1 = true := by kernel_rfl
theorem fitsB : TB.ok 1 = true := by kernel_rfl
end Go.Proofs.YtbkhielalbbopaaDoor.xmlDeep
