/- The gateway's start: some of its steps, run. -/
import Derived.Test.YtcebbmappnbegaaGreatDoorGv
import Derived.Test.YtcebbmappnbegaaGreatDoorYtceLx
set_option linter.unusedSimpArgs false
set_option linter.unusedVariables false
set_option linter.unusedSectionVars false
set_option linter.unnecessarySimpa false
set_option maxRecDepth 100000
namespace Go.Proofs.YtcebbmappnbegaaGreatDoor.Wb
open Go Go.Am Go.Proofs.YtcebbmappnbegaaGreatDoor.Facts
theorem d1s1 : stepB (mkX Tryz.prog) 97 61 [.p 202 0, .a (actV 3 0 3000)] (974 + 1) mm3 (.sl 1105 0 1 1 true) 1106 d1l1 = true := by rw [lx]; kernel_rfl
theorem d1s4 : stepB (mkX Tryz.prog) 97 21 [.p 103 0] 1362 d1l2 (.t [.a [.i .u8 203, .i .u8 0, .i .u8 113, .i .u8 1], .b true]) 1365 (WB :: (202, .c d1e 99 true) :: d1r) = true := by rw [lx]; kernel_rfl
theorem d1hr : ∀ p ∈ d1r, p.1 ≠ 202 := hr_of (by kernel_rfl)
end Go.Proofs.YtcebbmappnbegaaGreatDoor.Wb
