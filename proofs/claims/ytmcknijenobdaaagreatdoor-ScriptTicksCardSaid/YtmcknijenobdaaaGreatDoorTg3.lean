/- Runs of closed families. -/
import Derived.Test.YtmcknijenobdaaaGreatDoorTk5
set_option linter.unusedSimpArgs false
set_option linter.unusedVariables false
set_option linter.unusedSectionVars false
set_option linter.unnecessarySimpa false
set_option maxRecDepth 100000
namespace Go.Proofs.YtmcknijenobdaaaGreatDoor.Wb
open Go Go.Am Go.Proofs.YtmcknijenobdaaaGreatDoor.Facts
theorem readB4 : (List.range' 160 40).all (readB (mkX Tryz.prog)) = true := by rw [lx]; kernel_rfl
theorem readB5 : (List.range' 200 40).all (readB (mkX Tryz.prog)) = true := by rw [lx]; kernel_rfl
theorem readB6 : (List.range' 240 40).all (readB (mkX Tryz.prog)) = true := by rw [lx]; kernel_rfl
theorem readB7 : (List.range' 280 21).all (readB (mkX Tryz.prog)) = true := by rw [lx]; kernel_rfl
end Go.Proofs.YtmcknijenobdaaaGreatDoor.Wb
