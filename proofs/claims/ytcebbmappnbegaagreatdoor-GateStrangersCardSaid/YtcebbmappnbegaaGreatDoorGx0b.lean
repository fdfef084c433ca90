/- The gateway's start: some of its steps, run. -/
import Derived.Test.YtcebbmappnbegaaGreatDoorGv
import Derived.Test.YtcebbmappnbegaaGreatDoorYtceLx
set_option linter.unusedSimpArgs false
set_option linter.unusedVariables false
set_option linter.unusedSectionVars false
set_option linter.unnecessarySimpa false
set_option maxRecDepth 100000
namespace Go.Proofs.YtcebbmappnbegaaGreatDoor.Wb
open Go Go.Am Go.Proofs.YtcebbmappnbegaaGreatDoor.Facts
theorem d0s2 : stepB (mkX Tryz.prog) 97 35 [.p 103 0, .i .i64 1, .sl 548 0 342 342 true] 551 d0l1 (.sl 909 0 1 1 true) 910 d0l2 = true := by rw [lx]; kernel_rfl
end Go.Proofs.YtcebbmappnbegaaGreatDoor.Wb
