/- TopAsks: runs. -/
import Derived.Test.YtpegimipbigmbaaGreatDoorTaC
import Derived.Test.YtpegimipbigmbaaGreatDoorYtpeLx
import Derived.Test.YtpegimipbigmbaaGreatDoorBaS
set_option maxRecDepth 100000
namespace Go.Proofs.YtpegimipbigmbaaGreatDoor.topAsks
open Go.Am Go.Proofs.YtpegimipbigmbaaGreatDoor.Facts Bodies
theorem qU6 : rU6 XZ tabS = true := by kernel_rfl
theorem qL00 : rL00 XZ tabS = true := by kernel_rfl
theorem qT22 : rT2 XZ tabS tB2 4 6 = true := by kernel_rfl
theorem qC0_13 : rC0 XZ tabS 13 = true := by kernel_rfl
theorem qC1_13 : rC1 XZ tabS 13 = true := by kernel_rfl
theorem qC2_13 : rC2 XZ tabS 13 = true := by kernel_rfl
theorem qB0_13 : rB0 XZ tabS 13 = true := by kernel_rfl
theorem qB1_13 : rB1 XZ tabS 13 = true := by kernel_rfl
theorem qB2_13 : rB2 XZ tabS 13 = true := by kernel_rfl
theorem qA0_13 : rA0 XZ tabS 13 = true := by kernel_rfl
theorem qA1_13 : rA1 XZ tabS 13 = true := by kernel_rfl
theorem qA2_13 : rA2 XZ tabS 13 = true := by kernel_rfl
theorem qD0_13 : rD0 XZ tabS 13 = true := by kernel_rfl
theorem qD1_13 : rD1 XZ tabS 13 = true := by kernel_rfl
theorem qD2_13 : rD2 XZ tabS 13 = true := by kernel_rfl
end Go.Proofs.YtpegimipbigmbaaGreatDoor.topAsks
