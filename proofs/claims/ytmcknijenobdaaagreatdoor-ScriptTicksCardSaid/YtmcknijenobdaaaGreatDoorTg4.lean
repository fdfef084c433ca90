/- Runs of closed families. -/
import Derived.Test.YtmcknijenobdaaaGreatDoorTk5
set_option linter.unusedSimpArgs false
set_option linter.unusedVariables false
set_option linter.unusedSectionVars false
set_option linter.unnecessarySimpa false
set_option maxRecDepth 100000
namespace Go.Proofs.YtmcknijenobdaaaGreatDoor.Wb
open Go Go.Am Go.Proofs.YtmcknijenobdaaaGreatDoor.Facts
theorem tickB0 : (List.range' 0 1).all (tickB (mkX Tryz.prog)) = true := by rw [lx]; kernel_rfl
theorem tickB6 : (List.range' 28 1).all (tickB (mkX Tryz.prog)) = true := by rw [lx]; kernel_rfl
theorem tickB12 : (List.range' 109 15).all (tickB (mkX Tryz.prog)) = true := by rw [lx]; kernel_rfl
theorem tickB18 : (List.range' 189 24).all (tickB (mkX Tryz.prog)) = true := by rw [lx]; kernel_rfl
end Go.Proofs.YtmcknijenobdaaaGreatDoor.Wb
