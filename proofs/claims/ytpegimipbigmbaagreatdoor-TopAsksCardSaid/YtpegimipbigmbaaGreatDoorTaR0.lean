/- TopAsks: runs. -/
import Derived.Test.YtpegimipbigmbaaGreatDoorTaC
import Derived.Test.YtpegimipbigmbaaGreatDoorYtpeLx
import Derived.Test.YtpegimipbigmbaaGreatDoorBaS
set_option maxRecDepth 100000
namespace Go.Proofs.YtpegimipbigmbaaGreatDoor.topAsks
open Go.Am Go.Proofs.YtpegimipbigmbaaGreatDoor.Facts Bodies
theorem qW : rW XZ tabS = true := by kernel_rfl
theorem qM0 : rM0 XZ tabS = true := by kernel_rfl
theorem qL11 : rL11 XZ tabS = true := by kernel_rfl
theorem qC0_0 : rC0 XZ tabS 0 = true := by kernel_rfl
theorem qC1_0 : rC1 XZ tabS 0 = true := by kernel_rfl
theorem qC2_0 : rC2 XZ tabS 0 = true := by kernel_rfl
theorem qB0_0 : rB0 XZ tabS 0 = true := by kernel_rfl
theorem qB1_0 : rB1 XZ tabS 0 = true := by kernel_rfl
theorem qB2_0 : rB2 XZ tabS 0 = true := by kernel_rfl
theorem qA0_0 : rA0 XZ tabS 0 = true := by kernel_rfl
theorem qA1_0 : rA1 XZ tabS 0 = true := by kernel_rfl
theorem qA2_0 : rA2 XZ tabS 0 = true := by kernel_rfl
theorem qD0_0 : rD0 XZ tabS 0 = true := by kernel_rfl
theorem qD1_0 : rD1 XZ tabS 0 = true := by kernel_rfl
theorem qD2_0 : rD2 XZ tabS 0 = true := by kernel_rfl
end Go.Proofs.YtpegimipbigmbaaGreatDoor.topAsks
