/- The law's 'awake' answers true (run from a memory whose next block is the 18th). -/
import Derived.Test.YtbkhielalbbopaaGreatDoorProg
import Derived.Test.YtbkhielalbbopaaGreatDoorM3
import Derived.KernelRfl
set_option linter.unusedSimpArgs false
set_option linter.unusedVariables false
set_option linter.unusedSectionVars false
set_option linter.unnecessarySimpa false
set_option maxRecDepth 100000
namespace Go.Proofs.YtbkhielalbbopaaGreatDoor.Wb
open Go Go.Am
theorem awR : (sem (mkX Tryz.prog) 100000 2600 8 [] ⟨18, .l⟩).map (·.1) = some (.b true) := by kernel_rfl
end Go.Proofs.YtbkhielalbbopaaGreatDoor.Wb
