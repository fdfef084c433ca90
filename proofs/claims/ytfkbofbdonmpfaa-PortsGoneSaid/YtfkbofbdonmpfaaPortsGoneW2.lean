/- Runs of PortsGone. -/
import Derived.Test.YtfkbofbdonmpfaaRows
import Derived.Test.YtfkbofbdonmpfaaPortsGoneP
import Derived.Test.YtfkbofbdonmpfaaBgPT
set_option linter.unusedSimpArgs false
set_option linter.unusedVariables false
set_option linter.unusedSectionVars false
set_option linter.unnecessarySimpa false
namespace Go.Proofs.Ytfkbofbdonmpfaa.portsGone
open Go.Am
theorem n28ran : runT2 Try.prog Bodies.tab 100000 100 6 [.i .i64 28, nameV .i64 0, nameV .i64 1] 2 n28T9.orc = n28T9.tr 2 := by kernel_rfl
theorem n28fits : n28T9.ok 2 = true := by kernel_rfl
theorem n15ran : runT2 Try.prog Bodies.tab 100000 100 6 [.i .i64 15, nameV .i64 0, nameV .i64 1] 2 n15T9.orc = n15T9.tr 2 := by kernel_rfl
theorem n15fits : n15T9.ok 2 = true := by kernel_rfl
theorem n6ran : runT2 Try.prog Bodies.tab 100000 100 6 [.i .i64 6, nameV .i64 0, nameV .i64 1] 2 n6T9.orc = n6T9.tr 2 := by kernel_rfl
theorem n6fits : n6T9.ok 2 = true := by kernel_rfl
theorem n2ran : runT2 Try.prog Bodies.tab 100000 100 6 [.i .i64 2, nameV .i64 0, nameV .i64 1] 2 n2T5.orc = n2T5.tr 2 := by kernel_rfl
theorem n2fits : n2T5.ok 2 = true := by kernel_rfl
end Go.Proofs.Ytfkbofbdonmpfaa.portsGone
