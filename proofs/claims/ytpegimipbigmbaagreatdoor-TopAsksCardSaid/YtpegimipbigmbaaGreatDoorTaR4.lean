/- TopAsks: runs. -/
import Derived.Test.YtpegimipbigmbaaGreatDoorTaC
import Derived.Test.YtpegimipbigmbaaGreatDoorYtpeLx
import Derived.Test.YtpegimipbigmbaaGreatDoorBaS
set_option maxRecDepth 100000
namespace Go.Proofs.YtpegimipbigmbaaGreatDoor.topAsks
open Go.Am Go.Proofs.YtpegimipbigmbaaGreatDoor.Facts Bodies
theorem qU5 : rU5 XZ tabS = true := by kernel_rfl
theorem qT05 : rT0 XZ tabS tB5 32 50 = true := by kernel_rfl
theorem qM2 : rM2 XZ tabS = true := by kernel_rfl
theorem qC0_12 : rC0 XZ tabS 12 = true := by kernel_rfl
theorem qC1_12 : rC1 XZ tabS 12 = true := by kernel_rfl
theorem qC2_12 : rC2 XZ tabS 12 = true := by kernel_rfl
theorem qB0_12 : rB0 XZ tabS 12 = true := by kernel_rfl
theorem qB1_12 : rB1 XZ tabS 12 = true := by kernel_rfl
theorem qB2_12 : rB2 XZ tabS 12 = true := by kernel_rfl
theorem qA0_12 : rA0 XZ tabS 12 = true := by kernel_rfl
theorem qA1_12 : rA1 XZ tabS 12 = true := by kernel_rfl
theorem qA2_12 : rA2 XZ tabS 12 = true := by kernel_rfl
theorem qD0_12 : rD0 XZ tabS 12 = true := by kernel_rfl
theorem qD1_12 : rD1 XZ tabS 12 = true := by kernel_rfl
theorem qD2_12 : rD2 XZ tabS 12 = true := by kernel_rfl
end Go.Proofs.YtpegimipbigmbaaGreatDoor.topAsks
