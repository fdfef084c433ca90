/- The gateway's start: some of its steps, run. -/
import Derived.Test.YtcebbmappnbegaaGreatDoorGv
import Derived.Test.YtcebbmappnbegaaGreatDoorYtceLx
set_option linter.unusedSimpArgs false
set_option linter.unusedVariables false
set_option linter.unusedSectionVars false
set_option linter.unnecessarySimpa false
set_option maxRecDepth 100000
namespace Go.Proofs.YtcebbmappnbegaaGreatDoor.Wb
open Go Go.Am Go.Proofs.YtcebbmappnbegaaGreatDoor.Facts
theorem d7s1 : stepB (mkX Tryz.prog) 97 61 [.p 202 0, .a (actV 3 0 0)] (5463 + 1) mm9 (.sl 5458 0 1 1 true) 5467 d7l1 = true := by rw [lx]; kernel_rfl
theorem d7s3 : stepB (mkX Tryz.prog) 97 62 [.p 202 0, .i .i64 0, .sl 5873 0 342 342 true] (5876 + 1) d7l2 (.t []) 5946 (WB :: (202, .c d7e 99 true) :: d7r) = true := by rw [lx]; kernel_rfl
theorem d7s4 : stepB (mkX Tryz.prog) 97 21 [.p 103 0] 5946 (WB :: (202, .c d7e 99 true) :: d7r) (.t [.a [.i .u8 203, .i .u8 0, .i .u8 113, .i .u8 1], .b true]) 5949 (WB :: (202, .c d7e 99 true) :: d7r) = true := by rw [lx]; kernel_rfl
theorem d7hr : ∀ p ∈ d7r, p.1 ≠ 202 := hr_of (by kernel_rfl)
end Go.Proofs.YtcebbmappnbegaaGreatDoor.Wb
