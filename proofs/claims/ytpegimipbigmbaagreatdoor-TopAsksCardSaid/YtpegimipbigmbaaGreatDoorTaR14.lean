/- TopAsks: runs. -/
import Derived.Test.YtpegimipbigmbaaGreatDoorTaC
import Derived.Test.YtpegimipbigmbaaGreatDoorYtpeLx
import Derived.Test.YtpegimipbigmbaaGreatDoorBaS
set_option maxRecDepth 100000
namespace Go.Proofs.YtpegimipbigmbaaGreatDoor.topAsks
open Go.Am Go.Proofs.YtpegimipbigmbaaGreatDoor.Facts Bodies
theorem qT15 : rT1 XZ tabS tB5 32 50 = true := by kernel_rfl
theorem qC0_8 : rC0 XZ tabS 8 = true := by kernel_rfl
theorem qC1_8 : rC1 XZ tabS 8 = true := by kernel_rfl
theorem qC2_8 : rC2 XZ tabS 8 = true := by kernel_rfl
theorem qB0_8 : rB0 XZ tabS 8 = true := by kernel_rfl
theorem qB1_8 : rB1 XZ tabS 8 = true := by kernel_rfl
theorem qB2_8 : rB2 XZ tabS 8 = true := by kernel_rfl
theorem qA0_8 : rA0 XZ tabS 8 = true := by kernel_rfl
theorem qA1_8 : rA1 XZ tabS 8 = true := by kernel_rfl
theorem qA2_8 : rA2 XZ tabS 8 = true := by kernel_rfl
theorem qD0_8 : rD0 XZ tabS 8 = true := by kernel_rfl
theorem qD1_8 : rD1 XZ tabS 8 = true := by kernel_rfl
theorem qD2_8 : rD2 XZ tabS 8 = true := by kernel_rfl
end Go.Proofs.YtpegimipbigmbaaGreatDoor.topAsks
