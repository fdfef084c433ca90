/- TopAsks: runs. -/
import Derived.Test.YtpegimipbigmbaaGreatDoorTaC
import Derived.Test.YtpegimipbigmbaaGreatDoorYtpeLx
import Derived.Test.YtpegimipbigmbaaGreatDoorBaS
set_option maxRecDepth 100000
namespace Go.Proofs.YtpegimipbigmbaaGreatDoor.topAsks
open Go.Am Go.Proofs.YtpegimipbigmbaaGreatDoor.Facts Bodies
theorem qU9 : rU9 XZ tabS = true := by kernel_rfl
theorem qL03 : rL03 XZ tabS = true := by kernel_rfl
theorem qT25 : rT2 XZ tabS tB5 32 50 = true := by kernel_rfl
theorem qC0_2 : rC0 XZ tabS 2 = true := by kernel_rfl
theorem qC1_2 : rC1 XZ tabS 2 = true := by kernel_rfl
theorem qC2_2 : rC2 XZ tabS 2 = true := by kernel_rfl
theorem qB0_2 : rB0 XZ tabS 2 = true := by kernel_rfl
theorem qB1_2 : rB1 XZ tabS 2 = true := by kernel_rfl
theorem qB2_2 : rB2 XZ tabS 2 = true := by kernel_rfl
theorem qA0_2 : rA0 XZ tabS 2 = true := by kernel_rfl
theorem qA1_2 : rA1 XZ tabS 2 = true := by kernel_rfl
theorem qA2_2 : rA2 XZ tabS 2 = true := by kernel_rfl
theorem qD0_2 : rD0 XZ tabS 2 = true := by kernel_rfl
theorem qD1_2 : rD1 XZ tabS 2 = true := by kernel_rfl
theorem qD2_2 : rD2 XZ tabS 2 = true := by kernel_rfl
end Go.Proofs.YtpegimipbigmbaaGreatDoor.topAsks
