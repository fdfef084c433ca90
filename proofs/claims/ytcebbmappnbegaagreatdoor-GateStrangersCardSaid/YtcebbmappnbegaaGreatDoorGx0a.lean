/- The gateway's start: some of its steps, run. -/
import Derived.Test.YtcebbmappnbegaaGreatDoorGv
import Derived.Test.YtcebbmappnbegaaGreatDoorYtceLx
set_option linter.unusedSimpArgs false
set_option linter.unusedVariables false
set_option linter.unusedSectionVars false
set_option linter.unnecessarySimpa false
set_option maxRecDepth 100000
namespace Go.Proofs.YtcebbmappnbegaaGreatDoor.Wb
open Go Go.Am Go.Proofs.YtcebbmappnbegaaGreatDoor.Facts
theorem d0s1 : stepB (mkX Tryz.prog) 97 61 [.p 202 0, .a (actV 3 0 3000)] (419 + 1) mm2 (.sl 550 0 1 1 true) 551 d0l1 = true := by rw [lx]; kernel_rfl
theorem d0s3 : stepB (mkX Tryz.prog) 97 62 [.p 202 0, .i .i64 1, .sl 907 0 342 342 true] (910 + 1) d0l2 (.t []) 970 (WB :: (202, .c d0e 99 true) :: d0r) = true := by rw [lx]; kernel_rfl
theorem d0s4 : stepB (mkX Tryz.prog) 97 21 [.p 103 0] 970 (WB :: (202, .c d0e 99 true) :: d0r) (.t [.a [.i .u8 0, .i .u8 0, .i .u8 0, .i .u8 0], .b false]) 973 (WB :: (202, .c d0e 99 true) :: d0r) = true := by rw [lx]; kernel_rfl
theorem d0hr : ∀ p ∈ d0r, p.1 ≠ 202 := hr_of (by kernel_rfl)
end Go.Proofs.YtcebbmappnbegaaGreatDoor.Wb
