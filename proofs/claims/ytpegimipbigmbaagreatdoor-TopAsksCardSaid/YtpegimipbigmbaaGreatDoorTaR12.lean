/- TopAsks: runs. -/
import Derived.Test.YtpegimipbigmbaaGreatDoorTaC
import Derived.Test.YtpegimipbigmbaaGreatDoorYtpeLx
import Derived.Test.YtpegimipbigmbaaGreatDoorBaS
set_option maxRecDepth 100000
namespace Go.Proofs.YtpegimipbigmbaaGreatDoor.topAsks
open Go.Am Go.Proofs.YtpegimipbigmbaaGreatDoor.Facts Bodies
theorem qT13 : rT1 XZ tabS tB3 8 14 = true := by kernel_rfl
theorem qL23 : rL23 XZ tabS = true := by kernel_rfl
theorem qC0_6 : rC0 XZ tabS 6 = true := by kernel_rfl
theorem qC1_6 : rC1 XZ tabS 6 = true := by kernel_rfl
theorem qC2_6 : rC2 XZ tabS 6 = true := by kernel_rfl
theorem qB0_6 : rB0 XZ tabS 6 = true := by kernel_rfl
theorem qB1_6 : rB1 XZ tabS 6 = true := by kernel_rfl
theorem qB2_6 : rB2 XZ tabS 6 = true := by kernel_rfl
theorem qA0_6 : rA0 XZ tabS 6 = true := by kernel_rfl
theorem qA1_6 : rA1 XZ tabS 6 = true := by kernel_rfl
theorem qA2_6 : rA2 XZ tabS 6 = true := by kernel_rfl
theorem qD0_6 : rD0 XZ tabS 6 = true := by kernel_rfl
theorem qD1_6 : rD1 XZ tabS 6 = true := by kernel_rfl
theorem qD2_6 : rD2 XZ tabS 6 = true := by kernel_rfl
end Go.Proofs.YtpegimipbigmbaaGreatDoor.topAsks
