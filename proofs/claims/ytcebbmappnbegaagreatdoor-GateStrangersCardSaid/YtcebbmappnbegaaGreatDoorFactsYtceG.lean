/- What the given program is, for all its laws: each closed fact by itself. -/
import Derived.Test.YtcebbmappnbegaaGreatDoorYtceLx
import Derived.SevenTiedAt
set_option linter.unusedSimpArgs false
set_option linter.unusedVariables false
set_option linter.unusedSectionVars false
set_option linter.unnecessarySimpa false
set_option maxRecDepth 100000
set_option maxHeartbeats 16000000
namespace Go.Proofs.YtcebbmappnbegaaGreatDoor.Facts
open Go Go.Am
theorem fuel : 1 + (Tryz.prog.funcs.toList.map fun g => (Tryz.prog.leadsTo g).length + 1).sum = 2339 := by rw [flEq]; kernel_rfl
theorem noGoes : Tryz.prog.funcs.any Func.goes = false := by rw [flEq]; kernel_rfl
theorem looksT : true = Tryz.prog.looks [] := by kernel_rfl
theorem mainE : Tryz.prog.mainIs = some (true, "663ca5b6adc3035d37e2dcfe4094552606a8f77678cbe501a19f29d461447a63".toList) := by kernel_rfl
theorem plainK : (false == Tryz.prog.plainKeys) = true := by kernel_rfl
theorem makeE : (Tryz.prog.make == some Make.cut) = true := by kernel_rfl
theorem liftsE : (false == Tryz.prog.liftsFinal) = true := by kernel_rfl
theorem fsize : Tryz.prog.funcs.size = 676 := by rw [flEq]; exact flLen
end Go.Proofs.YtcebbmappnbegaaGreatDoor.Facts
