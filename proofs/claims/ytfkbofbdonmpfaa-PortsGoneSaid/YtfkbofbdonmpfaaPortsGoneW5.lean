/- Runs of PortsGone. -/
import Derived.Test.YtfkbofbdonmpfaaRows
import Derived.Test.YtfkbofbdonmpfaaPortsGoneP
import Derived.Test.YtfkbofbdonmpfaaBgPT
set_option linter.unusedSimpArgs false
set_option linter.unusedVariables false
set_option linter.unusedSectionVars false
set_option linter.unnecessarySimpa false
namespace Go.Proofs.Ytfkbofbdonmpfaa.portsGone
open Go.Am
theorem n25ran : runT2 Try.prog Bodies.tab 100000 100 6 [.i .i64 25, nameV .i64 0, nameV .i64 1] 2 n25T9.orc = n25T9.tr 2 := by kernel_rfl
theorem n25fits : n25T9.ok 2 = true := by kernel_rfl
theorem n18ran : runT2 Try.prog Bodies.tab 100000 100 6 [.i .i64 18, nameV .i64 0, nameV .i64 1] 2 n18T9.orc = n18T9.tr 2 := by kernel_rfl
theorem n18fits : n18T9.ok 2 = true := by kernel_rfl
theorem n9ran : runT2 Try.prog Bodies.tab 100000 100 6 [.i .i64 9, nameV .i64 0, nameV .i64 1] 2 n9T9.orc = n9T9.tr 2 := by kernel_rfl
theorem n9fits : n9T9.ok 2 = true := by kernel_rfl
theorem hiran : runT2 Try.prog Bodies.tab 100000 100 6 [nameV .i64 0, nameV .i64 1, nameV .i64 2] 3 hiT0.orc = hiT0.tr 3 := by kernel_rfl
theorem hifits : hiT0.ok 3 = true := by kernel_rfl
end Go.Proofs.Ytfkbofbdonmpfaa.portsGone
