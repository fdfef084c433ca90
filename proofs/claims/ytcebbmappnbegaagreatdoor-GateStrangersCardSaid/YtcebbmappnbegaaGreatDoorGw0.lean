/- The gateway's start: some of its steps, run. -/
import Derived.Test.YtcebbmappnbegaaGreatDoorGv
import Derived.Test.YtcebbmappnbegaaGreatDoorYtceLx
set_option linter.unusedSimpArgs false
set_option linter.unusedVariables false
set_option linter.unusedSectionVars false
set_option linter.unnecessarySimpa false
set_option maxRecDepth 100000
namespace Go.Proofs.YtcebbmappnbegaaGreatDoor.Wb
open Go Go.Am Go.Proofs.YtcebbmappnbegaaGreatDoor.Facts
theorem st0 : stepB (mkX Tryz.prog) 98 17 [] 16 [] cnf 26 [] = true := by rw [lx]; kernel_rfl
theorem st1 : stepB (mkX Tryz.prog) 98 28 [cnf] 26 [] (.p 203 0) 204 mm1 = true := by rw [lx]; kernel_rfl
theorem st2 : stepB (mkX Tryz.prog) 98 23 [.p 203 0, .a [.i .i64 0, .i .i64 0, .i .i64 0, .i .i64 0, .i .i64 0, .i .u32 5, .i .u32 0, .ns]] 204 mm1 (.sl 347 0 1 1 true) 419 mm2 = true := by rw [lx]; kernel_rfl
end Go.Proofs.YtcebbmappnbegaaGreatDoor.Wb
