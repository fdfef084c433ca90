/- Runs of closed families. -/
import Derived.Test.YtmcknijenobdaaaGreatDoorTk5
set_option linter.unusedSimpArgs false
set_option linter.unusedVariables false
set_option linter.unusedSectionVars false
set_option linter.unnecessarySimpa false
set_option maxRecDepth 100000
namespace Go.Proofs.YtmcknijenobdaaaGreatDoor.Wb
open Go Go.Am Go.Proofs.YtmcknijenobdaaaGreatDoor.Facts
theorem usuR : usuB (mkX Tryz.prog) = true := by rw [lx]; kernel_rfl
theorem newR : newB_ (mkX Tryz.prog) = true := by rw [lx]; kernel_rfl
theorem readNR : readN (mkX Tryz.prog) = true := by rw [lx]; kernel_rfl
theorem textB0 : (List.range' 0 151).all (textB (mkX Tryz.prog)) = true := by rw [lx]; kernel_rfl
theorem textB1 : (List.range' 151 150).all (textB (mkX Tryz.prog)) = true := by rw [lx]; kernel_rfl
end Go.Proofs.YtmcknijenobdaaaGreatDoor.Wb
