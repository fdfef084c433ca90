/- Runs of PortsGone. -/
import Derived.Test.YtfkbofbdonmpfaaRows
import Derived.Test.YtfkbofbdonmpfaaPortsGoneP
import Derived.Test.YtfkbofbdonmpfaaBgPT
set_option linter.unusedSimpArgs false
set_option linter.unusedVariables false
set_option linter.unusedSectionVars false
set_option linter.unnecessarySimpa false
namespace Go.Proofs.Ytfkbofbdonmpfaa.portsGone
open Go.Am
theorem n30ran : runT2 Try.prog Bodies.tab 100000 100 6 [.i .i64 30, nameV .i64 0, nameV .i64 1] 2 n30T9.orc = n30T9.tr 2 := by kernel_rfl
theorem n30fits : n30T9.ok 2 = true := by kernel_rfl
theorem n13ran : runT2 Try.prog Bodies.tab 100000 100 6 [.i .i64 13, nameV .i64 0, nameV .i64 1] 2 n13T9.orc = n13T9.tr 2 := by kernel_rfl
theorem n13fits : n13T9.ok 2 = true := by kernel_rfl
theorem n4ran : runT2 Try.prog Bodies.tab 100000 100 6 [.i .i64 4, nameV .i64 0, nameV .i64 1] 2 n4T9.orc = n4T9.tr 2 := by kernel_rfl
theorem n4fits : n4T9.ok 2 = true := by kernel_rfl
theorem n1ran : runT2 Try.prog Bodies.tab 100000 100 6 [.i .i64 1, nameV .i64 0, nameV .i64 1] 2 n1T2.orc = n1T2.tr 2 := by kernel_rfl
theorem n1fits : n1T2.ok 2 = true := by kernel_rfl
end Go.Proofs.Ytfkbofbdonmpfaa.portsGone
