/- The gateway's start: some of its steps, run. -/
import Derived.Test.YtcebbmappnbegaaGreatDoorGv
import Derived.Test.YtcebbmappnbegaaGreatDoorYtceLx
set_option linter.unusedSimpArgs false
set_option linter.unusedVariables false
set_option linter.unusedSectionVars false
set_option linter.unnecessarySimpa false
set_option maxRecDepth 100000
namespace Go.Proofs.YtcebbmappnbegaaGreatDoor.Wb
open Go Go.Am Go.Proofs.YtcebbmappnbegaaGreatDoor.Facts
theorem d1s2 : stepB (mkX Tryz.prog) 97 35 [.p 103 0, .i .i64 1, .sl 1103 0 342 342 true] 1106 d1l1 (.ns) 1362 d1l2 = true := by rw [lx]; kernel_rfl
end Go.Proofs.YtcebbmappnbegaaGreatDoor.Wb
