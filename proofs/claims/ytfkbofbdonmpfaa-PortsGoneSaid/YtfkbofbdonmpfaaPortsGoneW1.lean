/- Runs of PortsGone. -/
import Derived.Test.YtfkbofbdonmpfaaRows
import Derived.Test.YtfkbofbdonmpfaaPortsGoneP
import Derived.Test.YtfkbofbdonmpfaaBgPT
set_option linter.unusedSimpArgs false
set_option linter.unusedVariables false
set_option linter.unusedSectionVars false
set_option linter.unnecessarySimpa false
namespace Go.Proofs.Ytfkbofbdonmpfaa.portsGone
open Go.Am
theorem n29ran : runT2 Try.prog Bodies.tab 100000 100 6 [.i .i64 29, nameV .i64 0, nameV .i64 1] 2 n29T9.orc = n29T9.tr 2 := by kernel_rfl
theorem n29fits : n29T9.ok 2 = true := by kernel_rfl
theorem n14ran : runT2 Try.prog Bodies.tab 100000 100 6 [.i .i64 14, nameV .i64 0, nameV .i64 1] 2 n14T9.orc = n14T9.tr 2 := by kernel_rfl
theorem n14fits : n14T9.ok 2 = true := by kernel_rfl
theorem n5ran : runT2 Try.prog Bodies.tab 100000 100 6 [.i .i64 5, nameV .i64 0, nameV .i64 1] 2 n5T9.orc = n5T9.tr 2 := by kernel_rfl
theorem n5fits : n5T9.ok 2 = true := by kernel_rfl
theorem n3ran : runT2 Try.prog Bodies.tab 100000 100 6 [.i .i64 3, nameV .i64 0, nameV .i64 1] 2 n3T9.orc = n3T9.tr 2 := by kernel_rfl
theorem n3fits : n3T9.ok 2 = true := by kernel_rfl
end Go.Proofs.Ytfkbofbdonmpfaa.portsGone
