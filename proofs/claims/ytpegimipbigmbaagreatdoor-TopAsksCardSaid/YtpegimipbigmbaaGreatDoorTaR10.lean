/- TopAsks: runs. -/
import Derived.Test.YtpegimipbigmbaaGreatDoorTaC
import Derived.Test.YtpegimipbigmbaaGreatDoorYtpeLx
import Derived.Test.YtpegimipbigmbaaGreatDoorBaS
set_option maxRecDepth 100000
namespace Go.Proofs.YtpegimipbigmbaaGreatDoor.topAsks
open Go.Am Go.Proofs.YtpegimipbigmbaaGreatDoor.Facts Bodies
theorem qM1 : rM1 XZ tabS = true := by kernel_rfl
theorem qL21 : rL21 XZ tabS = true := by kernel_rfl
theorem qC0_4 : rC0 XZ tabS 4 = true := by kernel_rfl
theorem qC1_4 : rC1 XZ tabS 4 = true := by kernel_rfl
theorem qC2_4 : rC2 XZ tabS 4 = true := by kernel_rfl
theorem qB0_4 : rB0 XZ tabS 4 = true := by kernel_rfl
theorem qB1_4 : rB1 XZ tabS 4 = true := by kernel_rfl
theorem qB2_4 : rB2 XZ tabS 4 = true := by kernel_rfl
theorem qA0_4 : rA0 XZ tabS 4 = true := by kernel_rfl
theorem qA1_4 : rA1 XZ tabS 4 = true := by kernel_rfl
theorem qA2_4 : rA2 XZ tabS 4 = true := by kernel_rfl
theorem qD0_4 : rD0 XZ tabS 4 = true := by kernel_rfl
theorem qD1_4 : rD1 XZ tabS 4 = true := by kernel_rfl
theorem qD2_4 : rD2 XZ tabS 4 = true := by kernel_rfl
end Go.Proofs.YtpegimipbigmbaaGreatDoor.topAsks
