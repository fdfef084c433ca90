/- Runs of closed families. -/
import Derived.Test.YtmcknijenobdaaaGreatDoorTk5
set_option linter.unusedSimpArgs false
set_option linter.unusedVariables false
set_option linter.unusedSectionVars false
set_option linter.unnecessarySimpa false
set_option maxRecDepth 100000
namespace Go.Proofs.YtmcknijenobdaaaGreatDoor.Wb
open Go Go.Am Go.Proofs.YtmcknijenobdaaaGreatDoor.Facts
theorem readB0 : (List.range' 0 40).all (readB (mkX Tryz.prog)) = true := by rw [lx]; kernel_rfl
theorem readB1 : (List.range' 40 40).all (readB (mkX Tryz.prog)) = true := by rw [lx]; kernel_rfl
theorem readB2 : (List.range' 80 40).all (readB (mkX Tryz.prog)) = true := by rw [lx]; kernel_rfl
theorem readB3 : (List.range' 120 40).all (readB (mkX Tryz.prog)) = true := by rw [lx]; kernel_rfl
end Go.Proofs.YtmcknijenobdaaaGreatDoor.Wb
