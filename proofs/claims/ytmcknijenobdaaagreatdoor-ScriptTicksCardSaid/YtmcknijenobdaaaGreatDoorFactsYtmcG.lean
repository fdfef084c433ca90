/- What the given program is, for all its laws: each closed fact by itself. -/
import Derived.Test.YtmcknijenobdaaaGreatDoorYtmcLx
import Derived.SevenTiedAt
set_option linter.unusedSimpArgs false
set_option linter.unusedVariables false
set_option linter.unusedSectionVars false
set_option linter.unnecessarySimpa false
set_option maxRecDepth 100000
set_option maxHeartbeats 16000000
namespace Go.Proofs.YtmcknijenobdaaaGreatDoor.Facts
open Go Go.Am
theorem fuel : 1 + (Tryz.prog.funcs.toList.map fun g => (Tryz.prog.leadsTo g).length + 1).sum = 1528 := by rw [flEq]; kernel_rfl
theorem noGoes : Tryz.prog.funcs.any Func.goes = false := by rw [flEq]; kernel_rfl
theorem looksT : true = Tryz.prog.looks [] := by kernel_rfl
theorem mainE : Tryz.prog.mainIs = some (true, "4c7e5ac44d5b0815ac41eb1ee9b63e13351f16b666ec2f09ffa35087e85c4bd9".toList) := by kernel_rfl
theorem plainK : (false == Tryz.prog.plainKeys) = true := by kernel_rfl
theorem makeE : (Tryz.prog.make == some Make.cut) = true := by kernel_rfl
theorem liftsE : (false == Tryz.prog.liftsFinal) = true := by kernel_rfl
theorem fsize : Tryz.prog.funcs.size = 513 := by rw [flEq]; exact flLen
end Go.Proofs.YtmcknijenobdaaaGreatDoor.Facts
