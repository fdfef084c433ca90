/- The gateway's start: some of its steps, run. -/
import Derived.Test.YtcebbmappnbegaaGreatDoorGv
import Derived.Test.YtcebbmappnbegaaGreatDoorYtceLx
set_option linter.unusedSimpArgs false
set_option linter.unusedVariables false
set_option linter.unusedSectionVars false
set_option linter.unnecessarySimpa false
set_option maxRecDepth 100000
namespace Go.Proofs.YtcebbmappnbegaaGreatDoor.Wb
open Go Go.Am Go.Proofs.YtcebbmappnbegaaGreatDoor.Facts
theorem d5s1 : stepB (mkX Tryz.prog) 97 61 [.p 202 0, .a (actV 3 0 0)] (3877 + 1) mm7 (.sl 3872 0 1 1 true) 3881 d5l1 = true := by rw [lx]; kernel_rfl
theorem d5s3 : stepB (mkX Tryz.prog) 97 62 [.p 202 0, .i .i64 0, .sl 4284 0 342 342 true] (4287 + 1) d5l2 (.t []) 4357 (WB :: (202, .c d5e 99 true) :: d5r) = true := by rw [lx]; kernel_rfl
theorem d5s4 : stepB (mkX Tryz.prog) 97 21 [.p 103 0] 4357 (WB :: (202, .c d5e 99 true) :: d5r) (.t [.a [.i .u8 203, .i .u8 0, .i .u8 113, .i .u8 1], .b true]) 4360 (WB :: (202, .c d5e 99 true) :: d5r) = true := by rw [lx]; kernel_rfl
theorem d5hr : ∀ p ∈ d5r, p.1 ≠ 202 := hr_of (by kernel_rfl)
end Go.Proofs.YtcebbmappnbegaaGreatDoor.Wb
