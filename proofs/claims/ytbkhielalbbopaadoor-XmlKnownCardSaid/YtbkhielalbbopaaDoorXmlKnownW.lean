/- The runs of XmlKnown: MaxLen may hold whatever integer. -/
import Derived.Test.YtbkhielalbbopaaDoorRows
import Derived.Test.YtbkhielalbbopaaDoorM6
import Derived.Test.YtbkhielalbbopaaDoorBxT
set_option linter.unusedSimpArgs false
set_option linter.unusedVariables false
set_option linter.unusedSectionVars false
set_option linter.unnecessarySimpa false
namespace Go.Proofs.YtbkhielalbbopaaDoor.xmlKnown
open Go.Am
def nm0 : Int := ((nameB + (midB + stepB * 0) : Nat) : Int)
def tabl : Tb := [(2, .i64, [nm0])]
def TA : Pt := .yes (.le (.c 2) (.v 0)) .done
def TB : Pt := .no (.le (.c 2) (.v 0)) .done
theorem ranA : runT2L Tryd.prog Bodies.tab 100000 100 3 [] tabl 1 TA.orc = TA.tr 1 := by kernel_rfl
theorem fitsA : TA.ok 1 = true := by kernel_rfl
theorem fitsB : TB.ok 1 = true := by kernel_rfl
theorem ranB : runT2L Tryd.prog Bodies.tab 100000 100 3 [] tabl 1 TB.orc = TB.tr 1 := by kernel_rfl
end Go.Proofs.YtbkhielalbbopaaDoor.xmlKnown
