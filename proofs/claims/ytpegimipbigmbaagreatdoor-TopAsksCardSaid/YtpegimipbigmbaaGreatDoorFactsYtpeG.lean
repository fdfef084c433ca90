/- What the given program is, for all its laws: each closed fact by itself. -/
import Derived.Test.YtpegimipbigmbaaGreatDoorYtpeLx
import Derived.SevenTiedAt
set_option maxRecDepth 100000
set_option maxHeartbeats 16000000
namespace Go.Proofs.YtpegimipbigmbaaGreatDoor.Facts
open Go Go.Am
theorem fuel : 1 + (Tryz.prog.funcs.toList.map fun g => (Tryz.prog.leadsTo g).length + 1).sum = 2095 := by rw [flEq]; kernel_rfl
theorem noGoes : Tryz.prog.funcs.any Func.goes = false := by rw [flEq]; kernel_rfl
theorem looksT : true = Tryz.prog.looks [] := by kernel_rfl
theorem mainE : Tryz.prog.mainIs = some (true, "e52f67ab4ce21d203d3106c1154ae9732994d41379b406b5475bc09b8935c2e5".toList) := by kernel_rfl
theorem plainK : (false == Tryz.prog.plainKeys) = true := by kernel_rfl
theorem makeE : (Tryz.prog.make == some Make.cut) = true := by kernel_rfl
theorem liftsE : (false == Tryz.prog.liftsFinal) = true := by kernel_rfl
theorem fsize : Tryz.prog.funcs.size = 645 := by rw [flEq]; exact flLen
end Go.Proofs.YtpegimipbigmbaaGreatDoor.Facts
