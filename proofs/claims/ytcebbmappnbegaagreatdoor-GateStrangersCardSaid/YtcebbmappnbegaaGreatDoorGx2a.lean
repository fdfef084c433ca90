/- The gateway's start: some of its steps, run. -/
import Derived.Test.YtcebbmappnbegaaGreatDoorGv
import Derived.Test.YtcebbmappnbegaaGreatDoorYtceLx
set_option linter.unusedSimpArgs false
set_option linter.unusedVariables false
set_option linter.unusedSectionVars false
set_option linter.unnecessarySimpa false
set_option maxRecDepth 100000
namespace Go.Proofs.YtcebbmappnbegaaGreatDoor.Wb
open Go Go.Am Go.Proofs.YtcebbmappnbegaaGreatDoor.Facts
theorem d2s1 : stepB (mkX Tryz.prog) 97 61 [.p 202 0, .a (actV 2 0 0)] (1366 + 1) mm4 (.sl 1475 0 1 1 false) 1476 d2l1 = true := by rw [lx]; kernel_rfl
theorem d2s3 : stepB (mkX Tryz.prog) 97 62 [.p 202 0, .i .i64 0, .sl 2165 0 342 342 true] (2168 + 1) d2l2 (.t []) 2347 (WB :: (202, .c d2e 99 true) :: d2r) = true := by rw [lx]; kernel_rfl
theorem d2s4 : stepB (mkX Tryz.prog) 97 21 [.p 103 0] 2347 (WB :: (202, .c d2e 99 true) :: d2r) (.t [.a [.i .u8 203, .i .u8 0, .i .u8 113, .i .u8 1], .b true]) 2350 (WB :: (202, .c d2e 99 true) :: d2r) = true := by rw [lx]; kernel_rfl
theorem d2hr : ∀ p ∈ d2r, p.1 ≠ 202 := hr_of (by kernel_rfl)
end Go.Proofs.YtcebbmappnbegaaGreatDoor.Wb
