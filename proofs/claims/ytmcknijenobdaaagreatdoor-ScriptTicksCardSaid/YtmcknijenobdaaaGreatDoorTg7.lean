/- Runs of closed families. -/
import Derived.Test.YtmcknijenobdaaaGreatDoorTk5
set_option linter.unusedSimpArgs false
set_option linter.unusedVariables false
set_option linter.unusedSectionVars false
set_option linter.unnecessarySimpa false
set_option maxRecDepth 100000
namespace Go.Proofs.YtmcknijenobdaaaGreatDoor.Wb
open Go Go.Am Go.Proofs.YtmcknijenobdaaaGreatDoor.Facts
theorem tickB3 : (List.range' 5 7).all (tickB (mkX Tryz.prog)) = true := by rw [lx]; kernel_rfl
theorem tickB9 : (List.range' 60 1).all (tickB (mkX Tryz.prog)) = true := by rw [lx]; kernel_rfl
theorem tickB15 : (List.range' 149 24).all (tickB (mkX Tryz.prog)) = true := by rw [lx]; kernel_rfl
theorem tickB21 : (List.range' 252 1).all (tickB (mkX Tryz.prog)) = true := by rw [lx]; kernel_rfl
end Go.Proofs.YtmcknijenobdaaaGreatDoor.Wb
