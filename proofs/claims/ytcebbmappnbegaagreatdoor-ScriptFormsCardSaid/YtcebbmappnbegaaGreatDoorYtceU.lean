/- No slice of the program has builders for elements. -/
import Derived.Test.YtcebbmappnbegaaGreatDoorYtceLx
set_option linter.unusedSimpArgs false
set_option linter.unusedVariables false
set_option linter.unusedSectionVars false
set_option linter.unnecessarySimpa false
set_option maxRecDepth 100000
namespace Go.Proofs.YtcebbmappnbegaaGreatDoor.Facts
open Go Go.Am
theorem uns : unSliced (mkX Tryz.prog) 139 = true := by rw [lx]; kernel_rfl
end Go.Proofs.YtcebbmappnbegaaGreatDoor.Facts
