/- The gateway's start: some of its steps, run. -/
import Derived.Test.YtcebbmappnbegaaGreatDoorGv
import Derived.Test.YtcebbmappnbegaaGreatDoorYtceLx
set_option linter.unusedSimpArgs false
set_option linter.unusedVariables false
set_option linter.unusedSectionVars false
set_option linter.unnecessarySimpa false
set_option maxRecDepth 100000
namespace Go.Proofs.YtcebbmappnbegaaGreatDoor.Wb
open Go Go.Am Go.Proofs.YtcebbmappnbegaaGreatDoor.Facts
theorem d3s1 : stepB (mkX Tryz.prog) 97 61 [.p 202 0, .a (actV 3 0 0)] (2351 + 1) mm5 (.sl 2346 0 1 1 true) 2355 d3l1 = true := by rw [lx]; kernel_rfl
theorem d3s3 : stepB (mkX Tryz.prog) 97 62 [.p 202 0, .i .i64 0, .sl 2755 0 342 342 true] (2758 + 1) d3l2 (.t []) 2828 (WB :: (202, .c d3e 99 true) :: d3r) = true := by rw [lx]; kernel_rfl
theorem d3s4 : stepB (mkX Tryz.prog) 97 21 [.p 103 0] 2828 (WB :: (202, .c d3e 99 true) :: d3r) (.t [.a [.i .u8 203, .i .u8 0, .i .u8 113, .i .u8 1], .b true]) 2831 (WB :: (202, .c d3e 99 true) :: d3r) = true := by rw [lx]; kernel_rfl
theorem d3hr : ∀ p ∈ d3r, p.1 ≠ 202 := hr_of (by kernel_rfl)
end Go.Proofs.YtcebbmappnbegaaGreatDoor.Wb
