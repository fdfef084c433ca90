/- Runs of closed families. -/
import Derived.Test.YtmcknijenobdaaaGreatDoorTk5
set_option linter.unusedSimpArgs false
set_option linter.unusedVariables false
set_option linter.unusedSectionVars false
set_option linter.unnecessarySimpa false
set_option maxRecDepth 100000
namespace Go.Proofs.YtmcknijenobdaaaGreatDoor.Wb
open Go Go.Am Go.Proofs.YtmcknijenobdaaaGreatDoor.Facts
theorem tickB4 : (List.range' 12 1).all (tickB (mkX Tryz.prog)) = true := by rw [lx]; kernel_rfl
theorem tickB10 : (List.range' 61 24).all (tickB (mkX Tryz.prog)) = true := by rw [lx]; kernel_rfl
theorem tickB16 : (List.range' 173 15).all (tickB (mkX Tryz.prog)) = true := by rw [lx]; kernel_rfl
theorem tickB22 : (List.range' 253 24).all (tickB (mkX Tryz.prog)) = true := by rw [lx]; kernel_rfl
end Go.Proofs.YtmcknijenobdaaaGreatDoor.Wb
