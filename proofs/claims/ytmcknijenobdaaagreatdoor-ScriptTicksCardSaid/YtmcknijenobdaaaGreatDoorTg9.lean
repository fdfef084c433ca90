/- Runs of closed families. -/
import Derived.Test.YtmcknijenobdaaaGreatDoorTk5
set_option linter.unusedSimpArgs false
set_option linter.unusedVariables false
set_option linter.unusedSectionVars false
set_option linter.unnecessarySimpa false
set_option maxRecDepth 100000
namespace Go.Proofs.YtmcknijenobdaaaGreatDoor.Wb
open Go Go.Am Go.Proofs.YtmcknijenobdaaaGreatDoor.Facts
theorem tickB5 : (List.range' 13 15).all (tickB (mkX Tryz.prog)) = true := by rw [lx]; kernel_rfl
theorem tickB11 : (List.range' 85 24).all (tickB (mkX Tryz.prog)) = true := by rw [lx]; kernel_rfl
theorem tickB17 : (List.range' 188 1).all (tickB (mkX Tryz.prog)) = true := by rw [lx]; kernel_rfl
theorem tickB23 : (List.range' 277 23).all (tickB (mkX Tryz.prog)) = true := by rw [lx]; kernel_rfl
end Go.Proofs.YtmcknijenobdaaaGreatDoor.Wb
