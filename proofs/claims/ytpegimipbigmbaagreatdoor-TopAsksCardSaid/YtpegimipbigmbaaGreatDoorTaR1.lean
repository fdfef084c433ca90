/- TopAsks: runs. -/
import Derived.Test.YtpegimipbigmbaaGreatDoorTaC
import Derived.Test.YtpegimipbigmbaaGreatDoorYtpeLx
import Derived.Test.YtpegimipbigmbaaGreatDoorBaS
set_option maxRecDepth 100000
namespace Go.Proofs.YtpegimipbigmbaaGreatDoor.topAsks
open Go.Am Go.Proofs.YtpegimipbigmbaaGreatDoor.Facts Bodies
theorem qU2 : rU2 XZ tabS = true := by kernel_rfl
theorem qT02 : rT0 XZ tabS tB2 4 6 = true := by kernel_rfl
theorem qL12 : rL12 XZ tabS = true := by kernel_rfl
theorem qC0_1 : rC0 XZ tabS 1 = true := by kernel_rfl
theorem qC1_1 : rC1 XZ tabS 1 = true := by kernel_rfl
theorem qC2_1 : rC2 XZ tabS 1 = true := by kernel_rfl
theorem qB0_1 : rB0 XZ tabS 1 = true := by kernel_rfl
theorem qB1_1 : rB1 XZ tabS 1 = true := by kernel_rfl
theorem qB2_1 : rB2 XZ tabS 1 = true := by kernel_rfl
theorem qA0_1 : rA0 XZ tabS 1 = true := by kernel_rfl
theorem qA1_1 : rA1 XZ tabS 1 = true := by kernel_rfl
theorem qA2_1 : rA2 XZ tabS 1 = true := by kernel_rfl
theorem qD0_1 : rD0 XZ tabS 1 = true := by kernel_rfl
theorem qD1_1 : rD1 XZ tabS 1 = true := by kernel_rfl
theorem qD2_1 : rD2 XZ tabS 1 = true := by kernel_rfl
end Go.Proofs.YtpegimipbigmbaaGreatDoor.topAsks
