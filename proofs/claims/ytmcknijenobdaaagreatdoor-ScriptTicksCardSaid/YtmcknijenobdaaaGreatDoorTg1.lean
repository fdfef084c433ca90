/- Runs of closed families. -/
import Derived.Test.YtmcknijenobdaaaGreatDoorTk5
set_option linter.unusedSimpArgs false
set_option linter.unusedVariables false
set_option linter.unusedSectionVars false
set_option linter.unnecessarySimpa false
set_option maxRecDepth 100000
namespace Go.Proofs.YtmcknijenobdaaaGreatDoor.Wb
open Go Go.Am Go.Proofs.YtmcknijenobdaaaGreatDoor.Facts
theorem fmtB0 : (List.range' 0 101).all (fmtB (mkX Tryz.prog)) = true := by rw [lx]; kernel_rfl
theorem fmtB1 : (List.range' 101 101).all (fmtB (mkX Tryz.prog)) = true := by rw [lx]; kernel_rfl
theorem fmtB2 : (List.range' 202 99).all (fmtB (mkX Tryz.prog)) = true := by rw [lx]; kernel_rfl
end Go.Proofs.YtmcknijenobdaaaGreatDoor.Wb
