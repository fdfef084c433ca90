/- TopAsks: runs. -/
import Derived.Test.YtpegimipbigmbaaGreatDoorTaC
import Derived.Test.YtpegimipbigmbaaGreatDoorYtpeLx
import Derived.Test.YtpegimipbigmbaaGreatDoorBaS
set_option maxRecDepth 100000
namespace Go.Proofs.YtpegimipbigmbaaGreatDoor.topAsks
open Go.Am Go.Proofs.YtpegimipbigmbaaGreatDoor.Facts Bodies
theorem qU7 : rU7 XZ tabS = true := by kernel_rfl
theorem qL01 : rL01 XZ tabS = true := by kernel_rfl
theorem qT23 : rT2 XZ tabS tB3 8 14 = true := by kernel_rfl
theorem qC0_14 : rC0 XZ tabS 14 = true := by kernel_rfl
theorem qC1_14 : rC1 XZ tabS 14 = true := by kernel_rfl
theorem qC2_14 : rC2 XZ tabS 14 = true := by kernel_rfl
theorem qB0_14 : rB0 XZ tabS 14 = true := by kernel_rfl
theorem qB1_14 : rB1 XZ tabS 14 = true := by kernel_rfl
theorem qB2_14 : rB2 XZ tabS 14 = true := by kernel_rfl
theorem qA0_14 : rA0 XZ tabS 14 = true := by kernel_rfl
theorem qA1_14 : rA1 XZ tabS 14 = true := by kernel_rfl
theorem qA2_14 : rA2 XZ tabS 14 = true := by kernel_rfl
theorem qD0_14 : rD0 XZ tabS 14 = true := by kernel_rfl
theorem qD1_14 : rD1 XZ tabS 14 = true := by kernel_rfl
theorem qD2_14 : rD2 XZ tabS 14 = true := by kernel_rfl
end Go.Proofs.YtpegimipbigmbaaGreatDoor.topAsks
