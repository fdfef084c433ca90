/- Runs of closed families. -/
import Derived.Test.YtmcknijenobdaaaGreatDoorTk5
set_option linter.unusedSimpArgs false
set_option linter.unusedVariables false
set_option linter.unusedSectionVars false
set_option linter.unnecessarySimpa false
set_option maxRecDepth 100000
namespace Go.Proofs.YtmcknijenobdaaaGreatDoor.Wb
open Go Go.Am Go.Proofs.YtmcknijenobdaaaGreatDoor.Facts
theorem tickB2 : (List.range' 4 1).all (tickB (mkX Tryz.prog)) = true := by rw [lx]; kernel_rfl
theorem tickB8 : (List.range' 53 7).all (tickB (mkX Tryz.prog)) = true := by rw [lx]; kernel_rfl
theorem tickB14 : (List.range' 125 24).all (tickB (mkX Tryz.prog)) = true := by rw [lx]; kernel_rfl
theorem tickB20 : (List.range' 237 15).all (tickB (mkX Tryz.prog)) = true := by rw [lx]; kernel_rfl
end Go.Proofs.YtmcknijenobdaaaGreatDoor.Wb
