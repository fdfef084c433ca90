/- TopAsks: runs. -/
import Derived.Test.YtpegimipbigmbaaGreatDoorTaC
import Derived.Test.YtpegimipbigmbaaGreatDoorYtpeLx
import Derived.Test.YtpegimipbigmbaaGreatDoorBaS
set_option maxRecDepth 100000
namespace Go.Proofs.YtpegimipbigmbaaGreatDoor.topAsks
open Go.Am Go.Proofs.YtpegimipbigmbaaGreatDoor.Facts Bodies
theorem qU8 : rU8 XZ tabS = true := by kernel_rfl
theorem qL02 : rL02 XZ tabS = true := by kernel_rfl
theorem qT24 : rT2 XZ tabS tB4 16 30 = true := by kernel_rfl
theorem qC0_15 : rC0 XZ tabS 15 = true := by kernel_rfl
theorem qC1_15 : rC1 XZ tabS 15 = true := by kernel_rfl
theorem qC2_15 : rC2 XZ tabS 15 = true := by kernel_rfl
theorem qB0_15 : rB0 XZ tabS 15 = true := by kernel_rfl
theorem qB1_15 : rB1 XZ tabS 15 = true := by kernel_rfl
theorem qB2_15 : rB2 XZ tabS 15 = true := by kernel_rfl
theorem qA0_15 : rA0 XZ tabS 15 = true := by kernel_rfl
theorem qA1_15 : rA1 XZ tabS 15 = true := by kernel_rfl
theorem qA2_15 : rA2 XZ tabS 15 = true := by kernel_rfl
theorem qD0_15 : rD0 XZ tabS 15 = true := by kernel_rfl
theorem qD1_15 : rD1 XZ tabS 15 = true := by kernel_rfl
theorem qD2_15 : rD2 XZ tabS 15 = true := by kernel_rfl
end Go.Proofs.YtpegimipbigmbaaGreatDoor.topAsks
