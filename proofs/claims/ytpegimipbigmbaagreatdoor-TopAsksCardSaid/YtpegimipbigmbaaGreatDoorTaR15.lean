/- TopAsks: runs. -/
import Derived.Test.YtpegimipbigmbaaGreatDoorTaC
import Derived.Test.YtpegimipbigmbaaGreatDoorYtpeLx
import Derived.Test.YtpegimipbigmbaaGreatDoorBaS
set_option maxRecDepth 100000
namespace Go.Proofs.YtpegimipbigmbaaGreatDoor.topAsks
open Go.Am Go.Proofs.YtpegimipbigmbaaGreatDoor.Facts Bodies
theorem qL10 : rL10 XZ tabS = true := by kernel_rfl
theorem qC0_9 : rC0 XZ tabS 9 = true := by kernel_rfl
theorem qC1_9 : rC1 XZ tabS 9 = true := by kernel_rfl
theorem qC2_9 : rC2 XZ tabS 9 = true := by kernel_rfl
theorem qB0_9 : rB0 XZ tabS 9 = true := by kernel_rfl
theorem qB1_9 : rB1 XZ tabS 9 = true := by kernel_rfl
theorem qB2_9 : rB2 XZ tabS 9 = true := by kernel_rfl
theorem qA0_9 : rA0 XZ tabS 9 = true := by kernel_rfl
theorem qA1_9 : rA1 XZ tabS 9 = true := by kernel_rfl
theorem qA2_9 : rA2 XZ tabS 9 = true := by kernel_rfl
theorem qD0_9 : rD0 XZ tabS 9 = true := by kernel_rfl
theorem qD1_9 : rD1 XZ tabS 9 = true := by kernel_rfl
theorem qD2_9 : rD2 XZ tabS 9 = true := by kernel_rfl
end Go.Proofs.YtpegimipbigmbaaGreatDoor.topAsks
