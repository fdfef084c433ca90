/- The gateway's start: some of its steps, run. -/
import Derived.Test.YtcebbmappnbegaaGreatDoorGv
import Derived.Test.YtcebbmappnbegaaGreatDoorYtceLx
set_option linter.unusedSimpArgs false
set_option linter.unusedVariables false
set_option linter.unusedSectionVars false
set_option linter.unnecessarySimpa false
set_option maxRecDepth 100000
namespace Go.Proofs.YtcebbmappnbegaaGreatDoor.Wb
open Go Go.Am Go.Proofs.YtcebbmappnbegaaGreatDoor.Facts
theorem d6s1 : stepB (mkX Tryz.prog) 97 61 [.p 202 0, .a (actV 2 2 0)] (4361 + 1) mm8 (.sl 4470 0 1 1 false) 4471 d6l1 = true := by rw [lx]; kernel_rfl
theorem d6s3 : stepB (mkX Tryz.prog) 97 62 [.p 202 0, .i .i64 0, .sl 5277 0 342 342 true] (5280 + 1) d6l2 (.t []) 5459 (WB :: (202, .c d6e 99 true) :: d6r) = true := by rw [lx]; kernel_rfl
theorem d6s4 : stepB (mkX Tryz.prog) 97 21 [.p 103 0] 5459 (WB :: (202, .c d6e 99 true) :: d6r) (.t [.a [.i .u8 203, .i .u8 0, .i .u8 113, .i .u8 1], .b true]) 5462 (WB :: (202, .c d6e 99 true) :: d6r) = true := by rw [lx]; kernel_rfl
theorem d6hr : ∀ p ∈ d6r, p.1 ≠ 202 := hr_of (by kernel_rfl)
end Go.Proofs.YtcebbmappnbegaaGreatDoor.Wb
