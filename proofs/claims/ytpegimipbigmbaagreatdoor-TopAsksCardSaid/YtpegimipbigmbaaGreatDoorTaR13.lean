/- TopAsks: runs. -/
import Derived.Test.YtpegimipbigmbaaGreatDoorTaC
import Derived.Test.YtpegimipbigmbaaGreatDoorYtpeLx
import Derived.Test.YtpegimipbigmbaaGreatDoorBaS
set_option maxRecDepth 100000
namespace Go.Proofs.YtpegimipbigmbaaGreatDoor.topAsks
open Go.Am Go.Proofs.YtpegimipbigmbaaGreatDoor.Facts Bodies
theorem qT14 : rT1 XZ tabS tB4 16 30 = true := by kernel_rfl
theorem qL24 : rL24 XZ tabS = true := by kernel_rfl
theorem qC0_7 : rC0 XZ tabS 7 = true := by kernel_rfl
theorem qC1_7 : rC1 XZ tabS 7 = true := by kernel_rfl
theorem qC2_7 : rC2 XZ tabS 7 = true := by kernel_rfl
theorem qB0_7 : rB0 XZ tabS 7 = true := by kernel_rfl
theorem qB1_7 : rB1 XZ tabS 7 = true := by kernel_rfl
theorem qB2_7 : rB2 XZ tabS 7 = true := by kernel_rfl
theorem qA0_7 : rA0 XZ tabS 7 = true := by kernel_rfl
theorem qA1_7 : rA1 XZ tabS 7 = true := by kernel_rfl
theorem qA2_7 : rA2 XZ tabS 7 = true := by kernel_rfl
theorem qD0_7 : rD0 XZ tabS 7 = true := by kernel_rfl
theorem qD1_7 : rD1 XZ tabS 7 = true := by kernel_rfl
theorem qD2_7 : rD2 XZ tabS 7 = true := by kernel_rfl
end Go.Proofs.YtpegimipbigmbaaGreatDoor.topAsks
