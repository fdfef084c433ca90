/- What the document tells of two lines: the program does so (a closed run). -/
import Derived.Test.YtcebbmappnbegaaGreatDoorYtceLx
set_option linter.unusedSimpArgs false
set_option linter.unusedVariables false
set_option linter.unusedSectionVars false
set_option linter.unnecessarySimpa false
set_option maxRecDepth 100000
namespace Go.Proofs.YtcebbmappnbegaaGreatDoor.Facts
open Go Go.Am
theorem aw : (sem (mkX Tryz.prog) 100000 99 18 [] ⟨16, .l⟩).map (·.1) = some (.b true) := by rw [lx]; kernel_rfl
end Go.Proofs.YtcebbmappnbegaaGreatDoor.Facts
