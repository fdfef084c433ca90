/- The gateway's start: some of its steps, run. -/
import Derived.Test.YtcebbmappnbegaaGreatDoorGv
import Derived.Test.YtcebbmappnbegaaGreatDoorYtceLx
set_option linter.unusedSimpArgs false
set_option linter.unusedVariables false
set_option linter.unusedSectionVars false
set_option linter.unnecessarySimpa false
set_option maxRecDepth 100000
namespace Go.Proofs.YtcebbmappnbegaaGreatDoor.Wb
open Go Go.Am Go.Proofs.YtcebbmappnbegaaGreatDoor.Facts
theorem d4s1 : stepB (mkX Tryz.prog) 97 61 [.p 202 0, .a (actV 2 1 0)] (2832 + 1) mm6 (.sl 2941 0 1 1 false) 2942 d4l1 = true := by rw [lx]; kernel_rfl
theorem d4s3 : stepB (mkX Tryz.prog) 97 62 [.p 202 0, .i .i64 0, .sl 3691 0 342 342 true] (3694 + 1) d4l2 (.t []) 3873 (WB :: (202, .c d4e 99 true) :: d4r) = true := by rw [lx]; kernel_rfl
theorem d4s4 : stepB (mkX Tryz.prog) 97 21 [.p 103 0] 3873 (WB :: (202, .c d4e 99 true) :: d4r) (.t [.a [.i .u8 203, .i .u8 0, .i .u8 113, .i .u8 1], .b true]) 3876 (WB :: (202, .c d4e 99 true) :: d4r) = true := by rw [lx]; kernel_rfl
theorem d4hr : ∀ p ∈ d4r, p.1 ≠ 202 := hr_of (by kernel_rfl)
end Go.Proofs.YtcebbmappnbegaaGreatDoor.Wb
