/- The run of SoapKnown. -/
import Derived.Test.YtbkhielalbbopaaGreatDoorRows
import Derived.Test.YtbkhielalbbopaaGreatDoorM6
import Derived.Test.YtbkhielalbbopaaGreatDoorBzT
set_option linter.unusedSimpArgs false
set_option linter.unusedVariables false
set_option linter.unusedSectionVars false
set_option linter.unnecessarySimpa false
namespace Go.Proofs.YtbkhielalbbopaaGreatDoor.soapKnown
open Go.Am
def pow10 : List Int := [1, 10, 100, 1000, 10000, 100000, 1000000, 10000000, 100000000, 1000000000, 10000000000, 100000000000, 1000000000000, 10000000000000, 100000000000000, 1000000000000000, 10000000000000000, 100000000000000000, 1000000000000000000, 10000000000000000000]
def tabl : Tb := [(3, .u64, pow10)]
theorem ran : runTL Tryz.prog Bodies.tab 100000 100 4 [] tabl = true := by kernel_rfl
end Go.Proofs.YtbkhielalbbopaaGreatDoor.soapKnown
